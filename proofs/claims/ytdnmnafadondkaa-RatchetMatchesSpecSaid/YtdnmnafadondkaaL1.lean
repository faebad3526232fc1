/- The walk of the law RatchetMatchesSpec. No condition. -/
import Derived.Test.YtdnmnafadondkaaW17
set_option linter.unusedVariables false
set_option linter.unusedSimpArgs false
set_option maxRecDepth 100000
namespace Go.Proofs.Ytdnmnafadondkaa
open Go Go.RowKit

theorem matches_spec (bank bits target : Int) (L : List Rs) : Spec Try.prog [] 3 [.agg [iv bank, iv bits, iv target, .ds true L.length (logC L)]] [] (fun o => o = .ret (bv true) [] []) := by
  refine spec_of TB 98 [.tmp 2] Try.func3 rfl rfl rfl (Nat.le_of_ble_eq_true rfl) ?_
  intro X w0 E0 hE hX
  have hlf := logC_flat L
  simp only [idx, List.map_nil, List.length_nil]
  refine AW_reg TB (fun D K hD hK => ?_)
  simp only [AwS, TS, binI, runR, runD, ostep, ostepB, aop, aopB, dstOk, aeff, aval, St.ev, alook, blook, aBox, AV.known, cav, St.app, tput, evs, evp, allKnown, gslot, min2, max2, AV.cs, AV.cell, loadC, aField, aIndex, TD.elem, TD.isAgg, TD.isInt, aSlice, aBound, aLen, aBuild, aFill, placesOf, bytesOf, aBin, aEql, TI.one, eqS, eqL, fits, srcOf, dstOf, killK, replZ, spl, splice, AV.tops, Tk.foot, addFoot, fine, apart, disj, St.behind, St.behindB, zipIo, newIo, gMap, ioMap, AV.map, AVs.map, nmap, ↓reduceIte, Nat.reduceAdd, Nat.reduceMul, Nat.reduceSub, Nat.reduceMod, Nat.reduceDiv, Nat.reduceEqDiff, Nat.reduceLT, Nat.reduceLeDiff, Nat.reduceBEq, Nat.reduceBNe, Int.reduceAdd, Int.reduceMul, Int.reduceSub, Int.reduceNeg, Int.reduceLT, Int.reduceLE, Int.reduceEq, Int.reduceToNat, reduceCtorEq, bind]
  refine hD _ ?_
  clear hD hK D K
  refine AW_reg TB (fun D K hD hK => ?_)
  simp only [AwS, TS, binI, runR, runD, ostep, ostepB, aop, aopB, dstOk, aeff, aval, St.ev, alook, blook, aBox, AV.known, cav, St.app, tput, evs, evp, allKnown, gslot, min2, max2, AV.cs, AV.cell, loadC, aField, aIndex, TD.elem, TD.isAgg, TD.isInt, aSlice, aBound, aLen, aBuild, aFill, placesOf, bytesOf, aBin, aEql, TI.one, eqS, eqL, fits, srcOf, dstOf, killK, replZ, spl, splice, AV.tops, Tk.foot, addFoot, fine, apart, disj, St.behind, St.behindB, zipIo, newIo, gMap, ioMap, AV.map, AVs.map, nmap, ↓reduceIte, Nat.reduceAdd, Nat.reduceMul, Nat.reduceSub, Nat.reduceMod, Nat.reduceDiv, Nat.reduceEqDiff, Nat.reduceLT, Nat.reduceLeDiff, Nat.reduceBEq, Nat.reduceBNe, Int.reduceAdd, Int.reduceMul, Int.reduceSub, Int.reduceNeg, Int.reduceLT, Int.reduceLE, Int.reduceEq, Int.reduceToNat, reduceCtorEq, bind]
  refine hD _ ?_
  clear hD hK D K
  refine AW_reg TB (fun D K hD hK => ?_)
  simp only [AwS, TS, binI, runR, runD, ostep, ostepB, aop, aopB, dstOk, aeff, aval, St.ev, alook, blook, aBox, AV.known, cav, St.app, tput, evs, evp, allKnown, gslot, min2, max2, AV.cs, AV.cell, loadC, aField, aIndex, TD.elem, TD.isAgg, TD.isInt, aSlice, aBound, aLen, aBuild, aFill, placesOf, bytesOf, aBin, aEql, TI.one, eqS, eqL, fits, srcOf, dstOf, killK, replZ, spl, splice, AV.tops, Tk.foot, addFoot, fine, apart, disj, St.behind, St.behindB, zipIo, newIo, gMap, ioMap, AV.map, AVs.map, nmap, ↓reduceIte, Nat.reduceAdd, Nat.reduceMul, Nat.reduceSub, Nat.reduceMod, Nat.reduceDiv, Nat.reduceEqDiff, Nat.reduceLT, Nat.reduceLeDiff, Nat.reduceBEq, Nat.reduceBNe, Int.reduceAdd, Int.reduceMul, Int.reduceSub, Int.reduceNeg, Int.reduceLT, Int.reduceLE, Int.reduceEq, Int.reduceToNat, reduceCtorEq, bind]
  refine hD _ ?_
  clear hD hK D K
  refine AW_reg TB (fun D K hD hK => ?_)
  simp only [AwS, TS, binI, runR, runD, ostep, ostepB, aop, aopB, dstOk, aeff, aval, St.ev, alook, blook, aBox, AV.known, cav, St.app, tput, evs, evp, allKnown, gslot, min2, max2, AV.cs, AV.cell, loadC, aField, aIndex, TD.elem, TD.isAgg, TD.isInt, aSlice, aBound, aLen, aBuild, aFill, placesOf, bytesOf, aBin, aEql, TI.one, eqS, eqL, fits, srcOf, dstOf, killK, replZ, spl, splice, AV.tops, Tk.foot, addFoot, fine, apart, disj, St.behind, St.behindB, zipIo, newIo, gMap, ioMap, AV.map, AVs.map, nmap, ↓reduceIte, Nat.reduceAdd, Nat.reduceMul, Nat.reduceSub, Nat.reduceMod, Nat.reduceDiv, Nat.reduceEqDiff, Nat.reduceLT, Nat.reduceLeDiff, Nat.reduceBEq, Nat.reduceBNe, Int.reduceAdd, Int.reduceMul, Int.reduceSub, Int.reduceNeg, Int.reduceLT, Int.reduceLE, Int.reduceEq, Int.reduceToNat, reduceCtorEq, bind]
  refine hD _ ?_
  clear hD hK D K
  refine AW_reg TB (fun D K hD hK => ?_)
  simp only [AwS, TS, binI, runR, runD, ostep, ostepB, aop, aopB, dstOk, aeff, aval, St.ev, alook, blook, aBox, AV.known, cav, St.app, tput, evs, evp, allKnown, gslot, min2, max2, AV.cs, AV.cell, loadC, aField, aIndex, TD.elem, TD.isAgg, TD.isInt, aSlice, aBound, aLen, aBuild, aFill, placesOf, bytesOf, aBin, aEql, TI.one, eqS, eqL, fits, srcOf, dstOf, killK, replZ, spl, splice, AV.tops, Tk.foot, addFoot, fine, apart, disj, St.behind, St.behindB, zipIo, newIo, gMap, ioMap, AV.map, AVs.map, nmap, ↓reduceIte, Nat.reduceAdd, Nat.reduceMul, Nat.reduceSub, Nat.reduceMod, Nat.reduceDiv, Nat.reduceEqDiff, Nat.reduceLT, Nat.reduceLeDiff, Nat.reduceBEq, Nat.reduceBNe, Int.reduceAdd, Int.reduceMul, Int.reduceSub, Int.reduceNeg, Int.reduceLT, Int.reduceLE, Int.reduceEq, Int.reduceToNat, reduceCtorEq, bind]
  refine hD _ ?_
  clear hD hK D K
  refine AW_reg TB (fun D K hD hK => ?_)
  simp only [AwS, TS, binI, runR, runD, ostep, ostepB, aop, aopB, dstOk, aeff, aval, St.ev, alook, blook, aBox, AV.known, cav, St.app, tput, evs, evp, allKnown, gslot, min2, max2, AV.cs, AV.cell, loadC, aField, aIndex, TD.elem, TD.isAgg, TD.isInt, aSlice, aBound, aLen, aBuild, aFill, placesOf, bytesOf, aBin, aEql, TI.one, eqS, eqL, fits, srcOf, dstOf, killK, replZ, spl, splice, AV.tops, Tk.foot, addFoot, fine, apart, disj, St.behind, St.behindB, zipIo, newIo, gMap, ioMap, AV.map, AVs.map, nmap, ↓reduceIte, Nat.reduceAdd, Nat.reduceMul, Nat.reduceSub, Nat.reduceMod, Nat.reduceDiv, Nat.reduceEqDiff, Nat.reduceLT, Nat.reduceLeDiff, Nat.reduceBEq, Nat.reduceBNe, Int.reduceAdd, Int.reduceMul, Int.reduceSub, Int.reduceNeg, Int.reduceLT, Int.reduceLE, Int.reduceEq, Int.reduceToNat, reduceCtorEq, bind]
  refine hK _ _ ?_
  clear hD hK D K
  refine AL_callP rfl rfl rfl rfl en_9 sanity_spec [] ?_ (by simp) rfl rfl ?_
  · simp [evs, St.ev, cav, alook, lendA, lentBx, lendC, blook, AVs.map, AV.map, ioMap]
  refine AL_runR TB _ _ (fun D K hD hK => ?_)
  simp only [AwS, TS, binI, runR, runD, ostep, ostepB, aop, aopB, dstOk, aeff, aval, St.ev, alook, blook, aBox, AV.known, cav, St.app, tput, evs, evp, allKnown, gslot, min2, max2, AV.cs, AV.cell, loadC, aField, aIndex, TD.elem, TD.isAgg, TD.isInt, aSlice, aBound, aLen, aBuild, aFill, placesOf, bytesOf, aBin, aEql, TI.one, eqS, eqL, fits, srcOf, dstOf, killK, replZ, spl, splice, AV.tops, Tk.foot, addFoot, fine, apart, disj, St.behind, St.behindB, zipIo, newIo, gMap, ioMap, AV.map, AVs.map, nmap, ↓reduceIte, Nat.reduceAdd, Nat.reduceMul, Nat.reduceSub, Nat.reduceMod, Nat.reduceDiv, Nat.reduceEqDiff, Nat.reduceLT, Nat.reduceLeDiff, Nat.reduceBEq, Nat.reduceBNe, Int.reduceAdd, Int.reduceMul, Int.reduceSub, Int.reduceNeg, Int.reduceLT, Int.reduceLE, Int.reduceEq, Int.reduceToNat, reduceCtorEq, bind]
  refine hD _ ?_
  clear hD hK D K
  simp only [seqQ]
  refine AW_seq ?_
  refine AW_reg TB (fun D K hD hK => ?_)
  simp only [AwS, TS, binI, runR, runD, ostep, ostepB, aop, aopB, dstOk, aeff, aval, St.ev, alook, blook, aBox, AV.known, cav, St.app, tput, evs, evp, allKnown, gslot, min2, max2, AV.cs, AV.cell, loadC, aField, aIndex, TD.elem, TD.isAgg, TD.isInt, aSlice, aBound, aLen, aBuild, aFill, placesOf, bytesOf, aBin, aEql, TI.one, eqS, eqL, fits, srcOf, dstOf, killK, replZ, spl, splice, AV.tops, Tk.foot, addFoot, fine, apart, disj, St.behind, St.behindB, zipIo, newIo, gMap, ioMap, AV.map, AVs.map, nmap, ↓reduceIte, Nat.reduceAdd, Nat.reduceMul, Nat.reduceSub, Nat.reduceMod, Nat.reduceDiv, Nat.reduceEqDiff, Nat.reduceLT, Nat.reduceLeDiff, Nat.reduceBEq, Nat.reduceBNe, Int.reduceAdd, Int.reduceMul, Int.reduceSub, Int.reduceNeg, Int.reduceLT, Int.reduceLE, Int.reduceEq, Int.reduceToNat, reduceCtorEq, bind]
  refine hD _ ?_
  clear hD hK D K
  refine AW_cond rfl (fun h => ?_) (fun h => AW_skip ?_)
  · refine AW_reg TB (fun D K hD hK => ?_)
    simp only [AwS, TS, binI, runR, runD, ostep, ostepB, aop, aopB, dstOk, aeff, aval, St.ev, alook, blook, aBox, AV.known, cav, St.app, tput, evs, evp, allKnown, gslot, min2, max2, AV.cs, AV.cell, loadC, aField, aIndex, TD.elem, TD.isAgg, TD.isInt, aSlice, aBound, aLen, aBuild, aFill, placesOf, bytesOf, aBin, aEql, TI.one, eqS, eqL, fits, srcOf, dstOf, killK, replZ, spl, splice, AV.tops, Tk.foot, addFoot, fine, apart, disj, St.behind, St.behindB, zipIo, newIo, gMap, ioMap, AV.map, AVs.map, nmap, ↓reduceIte, Nat.reduceAdd, Nat.reduceMul, Nat.reduceSub, Nat.reduceMod, Nat.reduceDiv, Nat.reduceEqDiff, Nat.reduceLT, Nat.reduceLeDiff, Nat.reduceBEq, Nat.reduceBNe, Int.reduceAdd, Int.reduceMul, Int.reduceSub, Int.reduceNeg, Int.reduceLT, Int.reduceLE, Int.reduceEq, Int.reduceToNat, reduceCtorEq, bind]
    refine hD _ ?_
    clear hD hK D K
    refine AW_ret ?_
    simp only [Ret, blockQ, kQ, loopQ, seqQ, scopeQ, ↓reduceIte]
    exact retp (bv true) rfl rfl rfl rfl
  · have hL : L.length ≤ 1000 := by simp at h; omega
    have tA : ∀ res f, (toldA res).map f = toldA res := by intro res f; unfold toldA; split <;> rfl
    simp only [seqQ]
    refine AW_reg TB (fun D K hD hK => ?_)
    simp only [AwS, TS, binI, runR, runD, ostep, ostepB, aop, aopB, dstOk, aeff, aval, St.ev, alook, blook, aBox, AV.known, cav, St.app, tput, evs, evp, allKnown, gslot, min2, max2, AV.cs, AV.cell, loadC, aField, aIndex, TD.elem, TD.isAgg, TD.isInt, aSlice, aBound, aLen, aBuild, aFill, placesOf, bytesOf, aBin, aEql, TI.one, eqS, eqL, fits, srcOf, dstOf, killK, replZ, spl, splice, AV.tops, Tk.foot, addFoot, fine, apart, disj, St.behind, St.behindB, zipIo, newIo, gMap, ioMap, AV.map, AVs.map, nmap, ↓reduceIte, Nat.reduceAdd, Nat.reduceMul, Nat.reduceSub, Nat.reduceMod, Nat.reduceDiv, Nat.reduceEqDiff, Nat.reduceLT, Nat.reduceLeDiff, Nat.reduceBEq, Nat.reduceBNe, Int.reduceAdd, Int.reduceMul, Int.reduceSub, Int.reduceNeg, Int.reduceLT, Int.reduceLE, Int.reduceEq, Int.reduceToNat, reduceCtorEq, bind]
    refine hK _ _ ?_
    clear hD hK D K
    refine AL_callP rfl rfl rfl rfl en_10 (Level_spec true L bank bits hL) [] ?_ (by simp) rfl (tA _ _) ?_
    · simp [evs, St.ev, cav, alook, lendA, lentBx, lendC, blook, AVs.map, AV.map, ioMap, hlf _]
    cases hr1 : (LevelP bank bits).runAt L 0 with
    | inl q1 =>
      obtain ⟨q1, j1⟩ := q1
      have e1 : refLevel L bank bits = toldA (.inl (q1, j1)) := by rw [← level_same, hr1]
      cases hr2 : (RaiseP bank bits target).runAt L 0 with
      | inl q2 =>
        obtain ⟨q2, j2⟩ := q2
        have e2 : refRaise L bank bits target = toldA (.inl (q2, j2)) := by rw [← raise_same, hr2]
        simp only [toldA]
        refine AL_runR TB _ _ (fun D K hD hK => ?_)
        simp only [AwS, TS, binI, runR, runD, ostep, ostepB, aop, aopB, dstOk, aeff, aval, St.ev, alook, blook, aBox, AV.known, cav, St.app, tput, evs, evp, allKnown, gslot, min2, max2, AV.cs, AV.cell, loadC, aField, aIndex, TD.elem, TD.isAgg, TD.isInt, aSlice, aBound, aLen, aBuild, aFill, placesOf, bytesOf, aBin, aEql, TI.one, eqS, eqL, fits, srcOf, dstOf, killK, replZ, spl, splice, AV.tops, Tk.foot, addFoot, fine, apart, disj, St.behind, St.behindB, zipIo, newIo, gMap, ioMap, AV.map, AVs.map, nmap, ↓reduceIte, Nat.reduceAdd, Nat.reduceMul, Nat.reduceSub, Nat.reduceMod, Nat.reduceDiv, Nat.reduceEqDiff, Nat.reduceLT, Nat.reduceLeDiff, Nat.reduceBEq, Nat.reduceBNe, Int.reduceAdd, Int.reduceMul, Int.reduceSub, Int.reduceNeg, Int.reduceLT, Int.reduceLE, Int.reduceEq, Int.reduceToNat, reduceCtorEq, bind, outA, accC]
        refine hD _ ?_
        clear hD hK D K
        simp only [seqQ]
        refine AW_reg TB (fun D K hD hK => ?_)
        simp only [AwS, TS, binI, runR, runD, ostep, ostepB, aop, aopB, dstOk, aeff, aval, St.ev, alook, blook, aBox, AV.known, cav, St.app, tput, evs, evp, allKnown, gslot, min2, max2, AV.cs, AV.cell, loadC, aField, aIndex, TD.elem, TD.isAgg, TD.isInt, aSlice, aBound, aLen, aBuild, aFill, placesOf, bytesOf, aBin, aEql, TI.one, eqS, eqL, fits, srcOf, dstOf, killK, replZ, spl, splice, AV.tops, Tk.foot, addFoot, fine, apart, disj, St.behind, St.behindB, zipIo, newIo, gMap, ioMap, AV.map, AVs.map, nmap, ↓reduceIte, Nat.reduceAdd, Nat.reduceMul, Nat.reduceSub, Nat.reduceMod, Nat.reduceDiv, Nat.reduceEqDiff, Nat.reduceLT, Nat.reduceLeDiff, Nat.reduceBEq, Nat.reduceBNe, Int.reduceAdd, Int.reduceMul, Int.reduceSub, Int.reduceNeg, Int.reduceLT, Int.reduceLE, Int.reduceEq, Int.reduceToNat, reduceCtorEq, bind]
        refine hK _ _ ?_
        clear hD hK D K
        refine AL_callP rfl rfl rfl rfl en_11 (rLevel_spec true L bank bits hL) [] ?_ (by simp) ?_ ?_ ?_
        · simp [evs, St.ev, cav, alook, lendA, lentBx, lendC, blook, AVs.map, AV.map, ioMap, hlf _]
        · rw [e1]; rfl
        · rw [e1]; exact tA _ _
        rw [e1]
        simp only [toldA]
        refine AL_runR TB _ _ (fun D K hD hK => ?_)
        simp only [AwS, TS, binI, runR, runD, ostep, ostepB, aop, aopB, dstOk, aeff, aval, St.ev, alook, blook, aBox, AV.known, cav, St.app, tput, evs, evp, allKnown, gslot, min2, max2, AV.cs, AV.cell, loadC, aField, aIndex, TD.elem, TD.isAgg, TD.isInt, aSlice, aBound, aLen, aBuild, aFill, placesOf, bytesOf, aBin, aEql, TI.one, eqS, eqL, fits, srcOf, dstOf, killK, replZ, spl, splice, AV.tops, Tk.foot, addFoot, fine, apart, disj, St.behind, St.behindB, zipIo, newIo, gMap, ioMap, AV.map, AVs.map, nmap, ↓reduceIte, Nat.reduceAdd, Nat.reduceMul, Nat.reduceSub, Nat.reduceMod, Nat.reduceDiv, Nat.reduceEqDiff, Nat.reduceLT, Nat.reduceLeDiff, Nat.reduceBEq, Nat.reduceBNe, Int.reduceAdd, Int.reduceMul, Int.reduceSub, Int.reduceNeg, Int.reduceLT, Int.reduceLE, Int.reduceEq, Int.reduceToNat, reduceCtorEq, bind, outA, accC]
        refine hD _ ?_
        clear hD hK D K
        simp only [seqQ]
        refine AW_reg TB (fun D K hD hK => ?_)
        simp only [AwS, TS, binI, runR, runD, ostep, ostepB, aop, aopB, dstOk, aeff, aval, St.ev, alook, blook, aBox, AV.known, cav, St.app, tput, evs, evp, allKnown, gslot, min2, max2, AV.cs, AV.cell, loadC, aField, aIndex, TD.elem, TD.isAgg, TD.isInt, aSlice, aBound, aLen, aBuild, aFill, placesOf, bytesOf, aBin, aEql, TI.one, eqS, eqL, fits, srcOf, dstOf, killK, replZ, spl, splice, AV.tops, Tk.foot, addFoot, fine, apart, disj, St.behind, St.behindB, zipIo, newIo, gMap, ioMap, AV.map, AVs.map, nmap, ↓reduceIte, Nat.reduceAdd, Nat.reduceMul, Nat.reduceSub, Nat.reduceMod, Nat.reduceDiv, Nat.reduceEqDiff, Nat.reduceLT, Nat.reduceLeDiff, Nat.reduceBEq, Nat.reduceBNe, Int.reduceAdd, Int.reduceMul, Int.reduceSub, Int.reduceNeg, Int.reduceLT, Int.reduceLE, Int.reduceEq, Int.reduceToNat, reduceCtorEq, bind]
        refine hK _ _ ?_
        clear hD hK D K
        refine AL_callP rfl rfl rfl rfl en_12 (Raise_spec true L bank bits target hL) [] ?_ (by simp) rfl (tA _ _) ?_
        · simp [evs, St.ev, cav, alook, lendA, lentBx, lendC, blook, AVs.map, AV.map, ioMap, hlf _]
        rw [hr2]
        simp only [toldA]
        refine AL_runR TB _ _ (fun D K hD hK => ?_)
        simp only [AwS, TS, binI, runR, runD, ostep, ostepB, aop, aopB, dstOk, aeff, aval, St.ev, alook, blook, aBox, AV.known, cav, St.app, tput, evs, evp, allKnown, gslot, min2, max2, AV.cs, AV.cell, loadC, aField, aIndex, TD.elem, TD.isAgg, TD.isInt, aSlice, aBound, aLen, aBuild, aFill, placesOf, bytesOf, aBin, aEql, TI.one, eqS, eqL, fits, srcOf, dstOf, killK, replZ, spl, splice, AV.tops, Tk.foot, addFoot, fine, apart, disj, St.behind, St.behindB, zipIo, newIo, gMap, ioMap, AV.map, AVs.map, nmap, ↓reduceIte, Nat.reduceAdd, Nat.reduceMul, Nat.reduceSub, Nat.reduceMod, Nat.reduceDiv, Nat.reduceEqDiff, Nat.reduceLT, Nat.reduceLeDiff, Nat.reduceBEq, Nat.reduceBNe, Int.reduceAdd, Int.reduceMul, Int.reduceSub, Int.reduceNeg, Int.reduceLT, Int.reduceLE, Int.reduceEq, Int.reduceToNat, reduceCtorEq, bind, outA, accC]
        refine hD _ ?_
        clear hD hK D K
        simp only [seqQ]
        refine AW_reg TB (fun D K hD hK => ?_)
        simp only [AwS, TS, binI, runR, runD, ostep, ostepB, aop, aopB, dstOk, aeff, aval, St.ev, alook, blook, aBox, AV.known, cav, St.app, tput, evs, evp, allKnown, gslot, min2, max2, AV.cs, AV.cell, loadC, aField, aIndex, TD.elem, TD.isAgg, TD.isInt, aSlice, aBound, aLen, aBuild, aFill, placesOf, bytesOf, aBin, aEql, TI.one, eqS, eqL, fits, srcOf, dstOf, killK, replZ, spl, splice, AV.tops, Tk.foot, addFoot, fine, apart, disj, St.behind, St.behindB, zipIo, newIo, gMap, ioMap, AV.map, AVs.map, nmap, ↓reduceIte, Nat.reduceAdd, Nat.reduceMul, Nat.reduceSub, Nat.reduceMod, Nat.reduceDiv, Nat.reduceEqDiff, Nat.reduceLT, Nat.reduceLeDiff, Nat.reduceBEq, Nat.reduceBNe, Int.reduceAdd, Int.reduceMul, Int.reduceSub, Int.reduceNeg, Int.reduceLT, Int.reduceLE, Int.reduceEq, Int.reduceToNat, reduceCtorEq, bind]
        refine hK _ _ ?_
        clear hD hK D K
        refine AL_callP rfl rfl rfl rfl en_13 (rRaise_spec true L bank bits target hL) [] ?_ (by simp) ?_ ?_ ?_
        · simp [evs, St.ev, cav, alook, lendA, lentBx, lendC, blook, AVs.map, AV.map, ioMap, hlf _]
        · rw [e2]; rfl
        · rw [e2]; exact tA _ _
        rw [e2]
        simp only [toldA]
        refine AL_runR TB _ _ (fun D K hD hK => ?_)
        simp only [AwS, TS, binI, runR, runD, ostep, ostepB, aop, aopB, dstOk, aeff, aval, St.ev, alook, blook, aBox, AV.known, cav, St.app, tput, evs, evp, allKnown, gslot, min2, max2, AV.cs, AV.cell, loadC, aField, aIndex, TD.elem, TD.isAgg, TD.isInt, aSlice, aBound, aLen, aBuild, aFill, placesOf, bytesOf, aBin, aEql, TI.one, eqS, eqL, fits, srcOf, dstOf, killK, replZ, spl, splice, AV.tops, Tk.foot, addFoot, fine, apart, disj, St.behind, St.behindB, zipIo, newIo, gMap, ioMap, AV.map, AVs.map, nmap, ↓reduceIte, Nat.reduceAdd, Nat.reduceMul, Nat.reduceSub, Nat.reduceMod, Nat.reduceDiv, Nat.reduceEqDiff, Nat.reduceLT, Nat.reduceLeDiff, Nat.reduceBEq, Nat.reduceBNe, Int.reduceAdd, Int.reduceMul, Int.reduceSub, Int.reduceNeg, Int.reduceLT, Int.reduceLE, Int.reduceEq, Int.reduceToNat, reduceCtorEq, bind, outA, accC]
        refine hD _ ?_
        clear hD hK D K
        simp only [seqQ]
        refine AW_reg TB (fun D K hD hK => ?_)
        simp only [AwS, TS, binI, runR, runD, ostep, ostepB, aop, aopB, dstOk, aeff, aval, St.ev, alook, blook, aBox, AV.known, cav, St.app, tput, evs, evp, allKnown, gslot, min2, max2, AV.cs, AV.cell, loadC, aField, aIndex, TD.elem, TD.isAgg, TD.isInt, aSlice, aBound, aLen, aBuild, aFill, placesOf, bytesOf, aBin, aEql, TI.one, eqS, eqL, fits, srcOf, dstOf, killK, replZ, spl, splice, AV.tops, Tk.foot, addFoot, fine, apart, disj, St.behind, St.behindB, zipIo, newIo, gMap, ioMap, AV.map, AVs.map, nmap, ↓reduceIte, Nat.reduceAdd, Nat.reduceMul, Nat.reduceSub, Nat.reduceMod, Nat.reduceDiv, Nat.reduceEqDiff, Nat.reduceLT, Nat.reduceLeDiff, Nat.reduceBEq, Nat.reduceBNe, Int.reduceAdd, Int.reduceMul, Int.reduceSub, Int.reduceNeg, Int.reduceLT, Int.reduceLE, Int.reduceEq, Int.reduceToNat, reduceCtorEq, bind]
        refine hD _ ?_
        clear hD hK D K
        refine AW_ret ?_
        simp only [Ret, blockQ, kQ, loopQ, seqQ, scopeQ, ↓reduceIte]
        exact retp (bv true) rfl rfl rfl rfl
      | inr a2 =>
        have e2 : refRaise L bank bits target = toldA (.inr a2) := by rw [← raise_same, hr2]
        simp only [toldA]
        refine AL_runR TB _ _ (fun D K hD hK => ?_)
        simp only [AwS, TS, binI, runR, runD, ostep, ostepB, aop, aopB, dstOk, aeff, aval, St.ev, alook, blook, aBox, AV.known, cav, St.app, tput, evs, evp, allKnown, gslot, min2, max2, AV.cs, AV.cell, loadC, aField, aIndex, TD.elem, TD.isAgg, TD.isInt, aSlice, aBound, aLen, aBuild, aFill, placesOf, bytesOf, aBin, aEql, TI.one, eqS, eqL, fits, srcOf, dstOf, killK, replZ, spl, splice, AV.tops, Tk.foot, addFoot, fine, apart, disj, St.behind, St.behindB, zipIo, newIo, gMap, ioMap, AV.map, AVs.map, nmap, ↓reduceIte, Nat.reduceAdd, Nat.reduceMul, Nat.reduceSub, Nat.reduceMod, Nat.reduceDiv, Nat.reduceEqDiff, Nat.reduceLT, Nat.reduceLeDiff, Nat.reduceBEq, Nat.reduceBNe, Int.reduceAdd, Int.reduceMul, Int.reduceSub, Int.reduceNeg, Int.reduceLT, Int.reduceLE, Int.reduceEq, Int.reduceToNat, reduceCtorEq, bind, outA, accC]
        refine hD _ ?_
        clear hD hK D K
        simp only [seqQ]
        refine AW_reg TB (fun D K hD hK => ?_)
        simp only [AwS, TS, binI, runR, runD, ostep, ostepB, aop, aopB, dstOk, aeff, aval, St.ev, alook, blook, aBox, AV.known, cav, St.app, tput, evs, evp, allKnown, gslot, min2, max2, AV.cs, AV.cell, loadC, aField, aIndex, TD.elem, TD.isAgg, TD.isInt, aSlice, aBound, aLen, aBuild, aFill, placesOf, bytesOf, aBin, aEql, TI.one, eqS, eqL, fits, srcOf, dstOf, killK, replZ, spl, splice, AV.tops, Tk.foot, addFoot, fine, apart, disj, St.behind, St.behindB, zipIo, newIo, gMap, ioMap, AV.map, AVs.map, nmap, ↓reduceIte, Nat.reduceAdd, Nat.reduceMul, Nat.reduceSub, Nat.reduceMod, Nat.reduceDiv, Nat.reduceEqDiff, Nat.reduceLT, Nat.reduceLeDiff, Nat.reduceBEq, Nat.reduceBNe, Int.reduceAdd, Int.reduceMul, Int.reduceSub, Int.reduceNeg, Int.reduceLT, Int.reduceLE, Int.reduceEq, Int.reduceToNat, reduceCtorEq, bind]
        refine hK _ _ ?_
        clear hD hK D K
        refine AL_callP rfl rfl rfl rfl en_11 (rLevel_spec true L bank bits hL) [] ?_ (by simp) ?_ ?_ ?_
        · simp [evs, St.ev, cav, alook, lendA, lentBx, lendC, blook, AVs.map, AV.map, ioMap, hlf _]
        · rw [e1]; rfl
        · rw [e1]; exact tA _ _
        rw [e1]
        simp only [toldA]
        refine AL_runR TB _ _ (fun D K hD hK => ?_)
        simp only [AwS, TS, binI, runR, runD, ostep, ostepB, aop, aopB, dstOk, aeff, aval, St.ev, alook, blook, aBox, AV.known, cav, St.app, tput, evs, evp, allKnown, gslot, min2, max2, AV.cs, AV.cell, loadC, aField, aIndex, TD.elem, TD.isAgg, TD.isInt, aSlice, aBound, aLen, aBuild, aFill, placesOf, bytesOf, aBin, aEql, TI.one, eqS, eqL, fits, srcOf, dstOf, killK, replZ, spl, splice, AV.tops, Tk.foot, addFoot, fine, apart, disj, St.behind, St.behindB, zipIo, newIo, gMap, ioMap, AV.map, AVs.map, nmap, ↓reduceIte, Nat.reduceAdd, Nat.reduceMul, Nat.reduceSub, Nat.reduceMod, Nat.reduceDiv, Nat.reduceEqDiff, Nat.reduceLT, Nat.reduceLeDiff, Nat.reduceBEq, Nat.reduceBNe, Int.reduceAdd, Int.reduceMul, Int.reduceSub, Int.reduceNeg, Int.reduceLT, Int.reduceLE, Int.reduceEq, Int.reduceToNat, reduceCtorEq, bind, outA, accC]
        refine hD _ ?_
        clear hD hK D K
        simp only [seqQ]
        refine AW_reg TB (fun D K hD hK => ?_)
        simp only [AwS, TS, binI, runR, runD, ostep, ostepB, aop, aopB, dstOk, aeff, aval, St.ev, alook, blook, aBox, AV.known, cav, St.app, tput, evs, evp, allKnown, gslot, min2, max2, AV.cs, AV.cell, loadC, aField, aIndex, TD.elem, TD.isAgg, TD.isInt, aSlice, aBound, aLen, aBuild, aFill, placesOf, bytesOf, aBin, aEql, TI.one, eqS, eqL, fits, srcOf, dstOf, killK, replZ, spl, splice, AV.tops, Tk.foot, addFoot, fine, apart, disj, St.behind, St.behindB, zipIo, newIo, gMap, ioMap, AV.map, AVs.map, nmap, ↓reduceIte, Nat.reduceAdd, Nat.reduceMul, Nat.reduceSub, Nat.reduceMod, Nat.reduceDiv, Nat.reduceEqDiff, Nat.reduceLT, Nat.reduceLeDiff, Nat.reduceBEq, Nat.reduceBNe, Int.reduceAdd, Int.reduceMul, Int.reduceSub, Int.reduceNeg, Int.reduceLT, Int.reduceLE, Int.reduceEq, Int.reduceToNat, reduceCtorEq, bind]
        refine hK _ _ ?_
        clear hD hK D K
        refine AL_callP rfl rfl rfl rfl en_12 (Raise_spec true L bank bits target hL) [] ?_ (by simp) rfl (tA _ _) ?_
        · simp [evs, St.ev, cav, alook, lendA, lentBx, lendC, blook, AVs.map, AV.map, ioMap, hlf _]
        rw [hr2]
        simp only [toldA]
        refine AL_runR TB _ _ (fun D K hD hK => ?_)
        simp only [AwS, TS, binI, runR, runD, ostep, ostepB, aop, aopB, dstOk, aeff, aval, St.ev, alook, blook, aBox, AV.known, cav, St.app, tput, evs, evp, allKnown, gslot, min2, max2, AV.cs, AV.cell, loadC, aField, aIndex, TD.elem, TD.isAgg, TD.isInt, aSlice, aBound, aLen, aBuild, aFill, placesOf, bytesOf, aBin, aEql, TI.one, eqS, eqL, fits, srcOf, dstOf, killK, replZ, spl, splice, AV.tops, Tk.foot, addFoot, fine, apart, disj, St.behind, St.behindB, zipIo, newIo, gMap, ioMap, AV.map, AVs.map, nmap, ↓reduceIte, Nat.reduceAdd, Nat.reduceMul, Nat.reduceSub, Nat.reduceMod, Nat.reduceDiv, Nat.reduceEqDiff, Nat.reduceLT, Nat.reduceLeDiff, Nat.reduceBEq, Nat.reduceBNe, Int.reduceAdd, Int.reduceMul, Int.reduceSub, Int.reduceNeg, Int.reduceLT, Int.reduceLE, Int.reduceEq, Int.reduceToNat, reduceCtorEq, bind, outA, accC]
        refine hD _ ?_
        clear hD hK D K
        simp only [seqQ]
        refine AW_reg TB (fun D K hD hK => ?_)
        simp only [AwS, TS, binI, runR, runD, ostep, ostepB, aop, aopB, dstOk, aeff, aval, St.ev, alook, blook, aBox, AV.known, cav, St.app, tput, evs, evp, allKnown, gslot, min2, max2, AV.cs, AV.cell, loadC, aField, aIndex, TD.elem, TD.isAgg, TD.isInt, aSlice, aBound, aLen, aBuild, aFill, placesOf, bytesOf, aBin, aEql, TI.one, eqS, eqL, fits, srcOf, dstOf, killK, replZ, spl, splice, AV.tops, Tk.foot, addFoot, fine, apart, disj, St.behind, St.behindB, zipIo, newIo, gMap, ioMap, AV.map, AVs.map, nmap, ↓reduceIte, Nat.reduceAdd, Nat.reduceMul, Nat.reduceSub, Nat.reduceMod, Nat.reduceDiv, Nat.reduceEqDiff, Nat.reduceLT, Nat.reduceLeDiff, Nat.reduceBEq, Nat.reduceBNe, Int.reduceAdd, Int.reduceMul, Int.reduceSub, Int.reduceNeg, Int.reduceLT, Int.reduceLE, Int.reduceEq, Int.reduceToNat, reduceCtorEq, bind]
        refine hK _ _ ?_
        clear hD hK D K
        refine AL_callP rfl rfl rfl rfl en_13 (rRaise_spec true L bank bits target hL) [] ?_ (by simp) ?_ ?_ ?_
        · simp [evs, St.ev, cav, alook, lendA, lentBx, lendC, blook, AVs.map, AV.map, ioMap, hlf _]
        · rw [e2]; rfl
        · rw [e2]; exact tA _ _
        rw [e2]
        simp only [toldA]
        refine AL_runR TB _ _ (fun D K hD hK => ?_)
        simp only [AwS, TS, binI, runR, runD, ostep, ostepB, aop, aopB, dstOk, aeff, aval, St.ev, alook, blook, aBox, AV.known, cav, St.app, tput, evs, evp, allKnown, gslot, min2, max2, AV.cs, AV.cell, loadC, aField, aIndex, TD.elem, TD.isAgg, TD.isInt, aSlice, aBound, aLen, aBuild, aFill, placesOf, bytesOf, aBin, aEql, TI.one, eqS, eqL, fits, srcOf, dstOf, killK, replZ, spl, splice, AV.tops, Tk.foot, addFoot, fine, apart, disj, St.behind, St.behindB, zipIo, newIo, gMap, ioMap, AV.map, AVs.map, nmap, ↓reduceIte, Nat.reduceAdd, Nat.reduceMul, Nat.reduceSub, Nat.reduceMod, Nat.reduceDiv, Nat.reduceEqDiff, Nat.reduceLT, Nat.reduceLeDiff, Nat.reduceBEq, Nat.reduceBNe, Int.reduceAdd, Int.reduceMul, Int.reduceSub, Int.reduceNeg, Int.reduceLT, Int.reduceLE, Int.reduceEq, Int.reduceToNat, reduceCtorEq, bind, outA, accC]
        refine hD _ ?_
        clear hD hK D K
        simp only [seqQ]
        refine AW_reg TB (fun D K hD hK => ?_)
        simp only [AwS, TS, binI, runR, runD, ostep, ostepB, aop, aopB, dstOk, aeff, aval, St.ev, alook, blook, aBox, AV.known, cav, St.app, tput, evs, evp, allKnown, gslot, min2, max2, AV.cs, AV.cell, loadC, aField, aIndex, TD.elem, TD.isAgg, TD.isInt, aSlice, aBound, aLen, aBuild, aFill, placesOf, bytesOf, aBin, aEql, TI.one, eqS, eqL, fits, srcOf, dstOf, killK, replZ, spl, splice, AV.tops, Tk.foot, addFoot, fine, apart, disj, St.behind, St.behindB, zipIo, newIo, gMap, ioMap, AV.map, AVs.map, nmap, ↓reduceIte, Nat.reduceAdd, Nat.reduceMul, Nat.reduceSub, Nat.reduceMod, Nat.reduceDiv, Nat.reduceEqDiff, Nat.reduceLT, Nat.reduceLeDiff, Nat.reduceBEq, Nat.reduceBNe, Int.reduceAdd, Int.reduceMul, Int.reduceSub, Int.reduceNeg, Int.reduceLT, Int.reduceLE, Int.reduceEq, Int.reduceToNat, reduceCtorEq, bind]
        refine hD _ ?_
        clear hD hK D K
        refine AW_ret ?_
        simp only [Ret, blockQ, kQ, loopQ, seqQ, scopeQ, ↓reduceIte]
        exact retp (bv true) rfl rfl rfl rfl
    | inr a1 =>
      have e1 : refLevel L bank bits = toldA (.inr a1) := by rw [← level_same, hr1]
      cases hr2 : (RaiseP bank bits target).runAt L 0 with
      | inl q2 =>
        obtain ⟨q2, j2⟩ := q2
        have e2 : refRaise L bank bits target = toldA (.inl (q2, j2)) := by rw [← raise_same, hr2]
        simp only [toldA]
        refine AL_runR TB _ _ (fun D K hD hK => ?_)
        simp only [AwS, TS, binI, runR, runD, ostep, ostepB, aop, aopB, dstOk, aeff, aval, St.ev, alook, blook, aBox, AV.known, cav, St.app, tput, evs, evp, allKnown, gslot, min2, max2, AV.cs, AV.cell, loadC, aField, aIndex, TD.elem, TD.isAgg, TD.isInt, aSlice, aBound, aLen, aBuild, aFill, placesOf, bytesOf, aBin, aEql, TI.one, eqS, eqL, fits, srcOf, dstOf, killK, replZ, spl, splice, AV.tops, Tk.foot, addFoot, fine, apart, disj, St.behind, St.behindB, zipIo, newIo, gMap, ioMap, AV.map, AVs.map, nmap, ↓reduceIte, Nat.reduceAdd, Nat.reduceMul, Nat.reduceSub, Nat.reduceMod, Nat.reduceDiv, Nat.reduceEqDiff, Nat.reduceLT, Nat.reduceLeDiff, Nat.reduceBEq, Nat.reduceBNe, Int.reduceAdd, Int.reduceMul, Int.reduceSub, Int.reduceNeg, Int.reduceLT, Int.reduceLE, Int.reduceEq, Int.reduceToNat, reduceCtorEq, bind, outA, accC]
        refine hD _ ?_
        clear hD hK D K
        simp only [seqQ]
        refine AW_reg TB (fun D K hD hK => ?_)
        simp only [AwS, TS, binI, runR, runD, ostep, ostepB, aop, aopB, dstOk, aeff, aval, St.ev, alook, blook, aBox, AV.known, cav, St.app, tput, evs, evp, allKnown, gslot, min2, max2, AV.cs, AV.cell, loadC, aField, aIndex, TD.elem, TD.isAgg, TD.isInt, aSlice, aBound, aLen, aBuild, aFill, placesOf, bytesOf, aBin, aEql, TI.one, eqS, eqL, fits, srcOf, dstOf, killK, replZ, spl, splice, AV.tops, Tk.foot, addFoot, fine, apart, disj, St.behind, St.behindB, zipIo, newIo, gMap, ioMap, AV.map, AVs.map, nmap, ↓reduceIte, Nat.reduceAdd, Nat.reduceMul, Nat.reduceSub, Nat.reduceMod, Nat.reduceDiv, Nat.reduceEqDiff, Nat.reduceLT, Nat.reduceLeDiff, Nat.reduceBEq, Nat.reduceBNe, Int.reduceAdd, Int.reduceMul, Int.reduceSub, Int.reduceNeg, Int.reduceLT, Int.reduceLE, Int.reduceEq, Int.reduceToNat, reduceCtorEq, bind]
        refine hK _ _ ?_
        clear hD hK D K
        refine AL_callP rfl rfl rfl rfl en_11 (rLevel_spec true L bank bits hL) [] ?_ (by simp) ?_ ?_ ?_
        · simp [evs, St.ev, cav, alook, lendA, lentBx, lendC, blook, AVs.map, AV.map, ioMap, hlf _]
        · rw [e1]; rfl
        · rw [e1]; exact tA _ _
        rw [e1]
        simp only [toldA]
        refine AL_runR TB _ _ (fun D K hD hK => ?_)
        simp only [AwS, TS, binI, runR, runD, ostep, ostepB, aop, aopB, dstOk, aeff, aval, St.ev, alook, blook, aBox, AV.known, cav, St.app, tput, evs, evp, allKnown, gslot, min2, max2, AV.cs, AV.cell, loadC, aField, aIndex, TD.elem, TD.isAgg, TD.isInt, aSlice, aBound, aLen, aBuild, aFill, placesOf, bytesOf, aBin, aEql, TI.one, eqS, eqL, fits, srcOf, dstOf, killK, replZ, spl, splice, AV.tops, Tk.foot, addFoot, fine, apart, disj, St.behind, St.behindB, zipIo, newIo, gMap, ioMap, AV.map, AVs.map, nmap, ↓reduceIte, Nat.reduceAdd, Nat.reduceMul, Nat.reduceSub, Nat.reduceMod, Nat.reduceDiv, Nat.reduceEqDiff, Nat.reduceLT, Nat.reduceLeDiff, Nat.reduceBEq, Nat.reduceBNe, Int.reduceAdd, Int.reduceMul, Int.reduceSub, Int.reduceNeg, Int.reduceLT, Int.reduceLE, Int.reduceEq, Int.reduceToNat, reduceCtorEq, bind, outA, accC]
        refine hD _ ?_
        clear hD hK D K
        simp only [seqQ]
        refine AW_reg TB (fun D K hD hK => ?_)
        simp only [AwS, TS, binI, runR, runD, ostep, ostepB, aop, aopB, dstOk, aeff, aval, St.ev, alook, blook, aBox, AV.known, cav, St.app, tput, evs, evp, allKnown, gslot, min2, max2, AV.cs, AV.cell, loadC, aField, aIndex, TD.elem, TD.isAgg, TD.isInt, aSlice, aBound, aLen, aBuild, aFill, placesOf, bytesOf, aBin, aEql, TI.one, eqS, eqL, fits, srcOf, dstOf, killK, replZ, spl, splice, AV.tops, Tk.foot, addFoot, fine, apart, disj, St.behind, St.behindB, zipIo, newIo, gMap, ioMap, AV.map, AVs.map, nmap, ↓reduceIte, Nat.reduceAdd, Nat.reduceMul, Nat.reduceSub, Nat.reduceMod, Nat.reduceDiv, Nat.reduceEqDiff, Nat.reduceLT, Nat.reduceLeDiff, Nat.reduceBEq, Nat.reduceBNe, Int.reduceAdd, Int.reduceMul, Int.reduceSub, Int.reduceNeg, Int.reduceLT, Int.reduceLE, Int.reduceEq, Int.reduceToNat, reduceCtorEq, bind]
        refine hK _ _ ?_
        clear hD hK D K
        refine AL_callP rfl rfl rfl rfl en_12 (Raise_spec true L bank bits target hL) [] ?_ (by simp) rfl (tA _ _) ?_
        · simp [evs, St.ev, cav, alook, lendA, lentBx, lendC, blook, AVs.map, AV.map, ioMap, hlf _]
        rw [hr2]
        simp only [toldA]
        refine AL_runR TB _ _ (fun D K hD hK => ?_)
        simp only [AwS, TS, binI, runR, runD, ostep, ostepB, aop, aopB, dstOk, aeff, aval, St.ev, alook, blook, aBox, AV.known, cav, St.app, tput, evs, evp, allKnown, gslot, min2, max2, AV.cs, AV.cell, loadC, aField, aIndex, TD.elem, TD.isAgg, TD.isInt, aSlice, aBound, aLen, aBuild, aFill, placesOf, bytesOf, aBin, aEql, TI.one, eqS, eqL, fits, srcOf, dstOf, killK, replZ, spl, splice, AV.tops, Tk.foot, addFoot, fine, apart, disj, St.behind, St.behindB, zipIo, newIo, gMap, ioMap, AV.map, AVs.map, nmap, ↓reduceIte, Nat.reduceAdd, Nat.reduceMul, Nat.reduceSub, Nat.reduceMod, Nat.reduceDiv, Nat.reduceEqDiff, Nat.reduceLT, Nat.reduceLeDiff, Nat.reduceBEq, Nat.reduceBNe, Int.reduceAdd, Int.reduceMul, Int.reduceSub, Int.reduceNeg, Int.reduceLT, Int.reduceLE, Int.reduceEq, Int.reduceToNat, reduceCtorEq, bind, outA, accC]
        refine hD _ ?_
        clear hD hK D K
        simp only [seqQ]
        refine AW_reg TB (fun D K hD hK => ?_)
        simp only [AwS, TS, binI, runR, runD, ostep, ostepB, aop, aopB, dstOk, aeff, aval, St.ev, alook, blook, aBox, AV.known, cav, St.app, tput, evs, evp, allKnown, gslot, min2, max2, AV.cs, AV.cell, loadC, aField, aIndex, TD.elem, TD.isAgg, TD.isInt, aSlice, aBound, aLen, aBuild, aFill, placesOf, bytesOf, aBin, aEql, TI.one, eqS, eqL, fits, srcOf, dstOf, killK, replZ, spl, splice, AV.tops, Tk.foot, addFoot, fine, apart, disj, St.behind, St.behindB, zipIo, newIo, gMap, ioMap, AV.map, AVs.map, nmap, ↓reduceIte, Nat.reduceAdd, Nat.reduceMul, Nat.reduceSub, Nat.reduceMod, Nat.reduceDiv, Nat.reduceEqDiff, Nat.reduceLT, Nat.reduceLeDiff, Nat.reduceBEq, Nat.reduceBNe, Int.reduceAdd, Int.reduceMul, Int.reduceSub, Int.reduceNeg, Int.reduceLT, Int.reduceLE, Int.reduceEq, Int.reduceToNat, reduceCtorEq, bind]
        refine hK _ _ ?_
        clear hD hK D K
        refine AL_callP rfl rfl rfl rfl en_13 (rRaise_spec true L bank bits target hL) [] ?_ (by simp) ?_ ?_ ?_
        · simp [evs, St.ev, cav, alook, lendA, lentBx, lendC, blook, AVs.map, AV.map, ioMap, hlf _]
        · rw [e2]; rfl
        · rw [e2]; exact tA _ _
        rw [e2]
        simp only [toldA]
        refine AL_runR TB _ _ (fun D K hD hK => ?_)
        simp only [AwS, TS, binI, runR, runD, ostep, ostepB, aop, aopB, dstOk, aeff, aval, St.ev, alook, blook, aBox, AV.known, cav, St.app, tput, evs, evp, allKnown, gslot, min2, max2, AV.cs, AV.cell, loadC, aField, aIndex, TD.elem, TD.isAgg, TD.isInt, aSlice, aBound, aLen, aBuild, aFill, placesOf, bytesOf, aBin, aEql, TI.one, eqS, eqL, fits, srcOf, dstOf, killK, replZ, spl, splice, AV.tops, Tk.foot, addFoot, fine, apart, disj, St.behind, St.behindB, zipIo, newIo, gMap, ioMap, AV.map, AVs.map, nmap, ↓reduceIte, Nat.reduceAdd, Nat.reduceMul, Nat.reduceSub, Nat.reduceMod, Nat.reduceDiv, Nat.reduceEqDiff, Nat.reduceLT, Nat.reduceLeDiff, Nat.reduceBEq, Nat.reduceBNe, Int.reduceAdd, Int.reduceMul, Int.reduceSub, Int.reduceNeg, Int.reduceLT, Int.reduceLE, Int.reduceEq, Int.reduceToNat, reduceCtorEq, bind, outA, accC]
        refine hD _ ?_
        clear hD hK D K
        simp only [seqQ]
        refine AW_reg TB (fun D K hD hK => ?_)
        simp only [AwS, TS, binI, runR, runD, ostep, ostepB, aop, aopB, dstOk, aeff, aval, St.ev, alook, blook, aBox, AV.known, cav, St.app, tput, evs, evp, allKnown, gslot, min2, max2, AV.cs, AV.cell, loadC, aField, aIndex, TD.elem, TD.isAgg, TD.isInt, aSlice, aBound, aLen, aBuild, aFill, placesOf, bytesOf, aBin, aEql, TI.one, eqS, eqL, fits, srcOf, dstOf, killK, replZ, spl, splice, AV.tops, Tk.foot, addFoot, fine, apart, disj, St.behind, St.behindB, zipIo, newIo, gMap, ioMap, AV.map, AVs.map, nmap, ↓reduceIte, Nat.reduceAdd, Nat.reduceMul, Nat.reduceSub, Nat.reduceMod, Nat.reduceDiv, Nat.reduceEqDiff, Nat.reduceLT, Nat.reduceLeDiff, Nat.reduceBEq, Nat.reduceBNe, Int.reduceAdd, Int.reduceMul, Int.reduceSub, Int.reduceNeg, Int.reduceLT, Int.reduceLE, Int.reduceEq, Int.reduceToNat, reduceCtorEq, bind]
        refine hD _ ?_
        clear hD hK D K
        refine AW_ret ?_
        simp only [Ret, blockQ, kQ, loopQ, seqQ, scopeQ, ↓reduceIte]
        exact retp (bv true) rfl rfl rfl rfl
      | inr a2 =>
        have e2 : refRaise L bank bits target = toldA (.inr a2) := by rw [← raise_same, hr2]
        simp only [toldA]
        refine AL_runR TB _ _ (fun D K hD hK => ?_)
        simp only [AwS, TS, binI, runR, runD, ostep, ostepB, aop, aopB, dstOk, aeff, aval, St.ev, alook, blook, aBox, AV.known, cav, St.app, tput, evs, evp, allKnown, gslot, min2, max2, AV.cs, AV.cell, loadC, aField, aIndex, TD.elem, TD.isAgg, TD.isInt, aSlice, aBound, aLen, aBuild, aFill, placesOf, bytesOf, aBin, aEql, TI.one, eqS, eqL, fits, srcOf, dstOf, killK, replZ, spl, splice, AV.tops, Tk.foot, addFoot, fine, apart, disj, St.behind, St.behindB, zipIo, newIo, gMap, ioMap, AV.map, AVs.map, nmap, ↓reduceIte, Nat.reduceAdd, Nat.reduceMul, Nat.reduceSub, Nat.reduceMod, Nat.reduceDiv, Nat.reduceEqDiff, Nat.reduceLT, Nat.reduceLeDiff, Nat.reduceBEq, Nat.reduceBNe, Int.reduceAdd, Int.reduceMul, Int.reduceSub, Int.reduceNeg, Int.reduceLT, Int.reduceLE, Int.reduceEq, Int.reduceToNat, reduceCtorEq, bind, outA, accC]
        refine hD _ ?_
        clear hD hK D K
        simp only [seqQ]
        refine AW_reg TB (fun D K hD hK => ?_)
        simp only [AwS, TS, binI, runR, runD, ostep, ostepB, aop, aopB, dstOk, aeff, aval, St.ev, alook, blook, aBox, AV.known, cav, St.app, tput, evs, evp, allKnown, gslot, min2, max2, AV.cs, AV.cell, loadC, aField, aIndex, TD.elem, TD.isAgg, TD.isInt, aSlice, aBound, aLen, aBuild, aFill, placesOf, bytesOf, aBin, aEql, TI.one, eqS, eqL, fits, srcOf, dstOf, killK, replZ, spl, splice, AV.tops, Tk.foot, addFoot, fine, apart, disj, St.behind, St.behindB, zipIo, newIo, gMap, ioMap, AV.map, AVs.map, nmap, ↓reduceIte, Nat.reduceAdd, Nat.reduceMul, Nat.reduceSub, Nat.reduceMod, Nat.reduceDiv, Nat.reduceEqDiff, Nat.reduceLT, Nat.reduceLeDiff, Nat.reduceBEq, Nat.reduceBNe, Int.reduceAdd, Int.reduceMul, Int.reduceSub, Int.reduceNeg, Int.reduceLT, Int.reduceLE, Int.reduceEq, Int.reduceToNat, reduceCtorEq, bind]
        refine hK _ _ ?_
        clear hD hK D K
        refine AL_callP rfl rfl rfl rfl en_11 (rLevel_spec true L bank bits hL) [] ?_ (by simp) ?_ ?_ ?_
        · simp [evs, St.ev, cav, alook, lendA, lentBx, lendC, blook, AVs.map, AV.map, ioMap, hlf _]
        · rw [e1]; rfl
        · rw [e1]; exact tA _ _
        rw [e1]
        simp only [toldA]
        refine AL_runR TB _ _ (fun D K hD hK => ?_)
        simp only [AwS, TS, binI, runR, runD, ostep, ostepB, aop, aopB, dstOk, aeff, aval, St.ev, alook, blook, aBox, AV.known, cav, St.app, tput, evs, evp, allKnown, gslot, min2, max2, AV.cs, AV.cell, loadC, aField, aIndex, TD.elem, TD.isAgg, TD.isInt, aSlice, aBound, aLen, aBuild, aFill, placesOf, bytesOf, aBin, aEql, TI.one, eqS, eqL, fits, srcOf, dstOf, killK, replZ, spl, splice, AV.tops, Tk.foot, addFoot, fine, apart, disj, St.behind, St.behindB, zipIo, newIo, gMap, ioMap, AV.map, AVs.map, nmap, ↓reduceIte, Nat.reduceAdd, Nat.reduceMul, Nat.reduceSub, Nat.reduceMod, Nat.reduceDiv, Nat.reduceEqDiff, Nat.reduceLT, Nat.reduceLeDiff, Nat.reduceBEq, Nat.reduceBNe, Int.reduceAdd, Int.reduceMul, Int.reduceSub, Int.reduceNeg, Int.reduceLT, Int.reduceLE, Int.reduceEq, Int.reduceToNat, reduceCtorEq, bind, outA, accC]
        refine hD _ ?_
        clear hD hK D K
        simp only [seqQ]
        refine AW_reg TB (fun D K hD hK => ?_)
        simp only [AwS, TS, binI, runR, runD, ostep, ostepB, aop, aopB, dstOk, aeff, aval, St.ev, alook, blook, aBox, AV.known, cav, St.app, tput, evs, evp, allKnown, gslot, min2, max2, AV.cs, AV.cell, loadC, aField, aIndex, TD.elem, TD.isAgg, TD.isInt, aSlice, aBound, aLen, aBuild, aFill, placesOf, bytesOf, aBin, aEql, TI.one, eqS, eqL, fits, srcOf, dstOf, killK, replZ, spl, splice, AV.tops, Tk.foot, addFoot, fine, apart, disj, St.behind, St.behindB, zipIo, newIo, gMap, ioMap, AV.map, AVs.map, nmap, ↓reduceIte, Nat.reduceAdd, Nat.reduceMul, Nat.reduceSub, Nat.reduceMod, Nat.reduceDiv, Nat.reduceEqDiff, Nat.reduceLT, Nat.reduceLeDiff, Nat.reduceBEq, Nat.reduceBNe, Int.reduceAdd, Int.reduceMul, Int.reduceSub, Int.reduceNeg, Int.reduceLT, Int.reduceLE, Int.reduceEq, Int.reduceToNat, reduceCtorEq, bind]
        refine hK _ _ ?_
        clear hD hK D K
        refine AL_callP rfl rfl rfl rfl en_12 (Raise_spec true L bank bits target hL) [] ?_ (by simp) rfl (tA _ _) ?_
        · simp [evs, St.ev, cav, alook, lendA, lentBx, lendC, blook, AVs.map, AV.map, ioMap, hlf _]
        rw [hr2]
        simp only [toldA]
        refine AL_runR TB _ _ (fun D K hD hK => ?_)
        simp only [AwS, TS, binI, runR, runD, ostep, ostepB, aop, aopB, dstOk, aeff, aval, St.ev, alook, blook, aBox, AV.known, cav, St.app, tput, evs, evp, allKnown, gslot, min2, max2, AV.cs, AV.cell, loadC, aField, aIndex, TD.elem, TD.isAgg, TD.isInt, aSlice, aBound, aLen, aBuild, aFill, placesOf, bytesOf, aBin, aEql, TI.one, eqS, eqL, fits, srcOf, dstOf, killK, replZ, spl, splice, AV.tops, Tk.foot, addFoot, fine, apart, disj, St.behind, St.behindB, zipIo, newIo, gMap, ioMap, AV.map, AVs.map, nmap, ↓reduceIte, Nat.reduceAdd, Nat.reduceMul, Nat.reduceSub, Nat.reduceMod, Nat.reduceDiv, Nat.reduceEqDiff, Nat.reduceLT, Nat.reduceLeDiff, Nat.reduceBEq, Nat.reduceBNe, Int.reduceAdd, Int.reduceMul, Int.reduceSub, Int.reduceNeg, Int.reduceLT, Int.reduceLE, Int.reduceEq, Int.reduceToNat, reduceCtorEq, bind, outA, accC]
        refine hD _ ?_
        clear hD hK D K
        simp only [seqQ]
        refine AW_reg TB (fun D K hD hK => ?_)
        simp only [AwS, TS, binI, runR, runD, ostep, ostepB, aop, aopB, dstOk, aeff, aval, St.ev, alook, blook, aBox, AV.known, cav, St.app, tput, evs, evp, allKnown, gslot, min2, max2, AV.cs, AV.cell, loadC, aField, aIndex, TD.elem, TD.isAgg, TD.isInt, aSlice, aBound, aLen, aBuild, aFill, placesOf, bytesOf, aBin, aEql, TI.one, eqS, eqL, fits, srcOf, dstOf, killK, replZ, spl, splice, AV.tops, Tk.foot, addFoot, fine, apart, disj, St.behind, St.behindB, zipIo, newIo, gMap, ioMap, AV.map, AVs.map, nmap, ↓reduceIte, Nat.reduceAdd, Nat.reduceMul, Nat.reduceSub, Nat.reduceMod, Nat.reduceDiv, Nat.reduceEqDiff, Nat.reduceLT, Nat.reduceLeDiff, Nat.reduceBEq, Nat.reduceBNe, Int.reduceAdd, Int.reduceMul, Int.reduceSub, Int.reduceNeg, Int.reduceLT, Int.reduceLE, Int.reduceEq, Int.reduceToNat, reduceCtorEq, bind]
        refine hK _ _ ?_
        clear hD hK D K
        refine AL_callP rfl rfl rfl rfl en_13 (rRaise_spec true L bank bits target hL) [] ?_ (by simp) ?_ ?_ ?_
        · simp [evs, St.ev, cav, alook, lendA, lentBx, lendC, blook, AVs.map, AV.map, ioMap, hlf _]
        · rw [e2]; rfl
        · rw [e2]; exact tA _ _
        rw [e2]
        simp only [toldA]
        refine AL_runR TB _ _ (fun D K hD hK => ?_)
        simp only [AwS, TS, binI, runR, runD, ostep, ostepB, aop, aopB, dstOk, aeff, aval, St.ev, alook, blook, aBox, AV.known, cav, St.app, tput, evs, evp, allKnown, gslot, min2, max2, AV.cs, AV.cell, loadC, aField, aIndex, TD.elem, TD.isAgg, TD.isInt, aSlice, aBound, aLen, aBuild, aFill, placesOf, bytesOf, aBin, aEql, TI.one, eqS, eqL, fits, srcOf, dstOf, killK, replZ, spl, splice, AV.tops, Tk.foot, addFoot, fine, apart, disj, St.behind, St.behindB, zipIo, newIo, gMap, ioMap, AV.map, AVs.map, nmap, ↓reduceIte, Nat.reduceAdd, Nat.reduceMul, Nat.reduceSub, Nat.reduceMod, Nat.reduceDiv, Nat.reduceEqDiff, Nat.reduceLT, Nat.reduceLeDiff, Nat.reduceBEq, Nat.reduceBNe, Int.reduceAdd, Int.reduceMul, Int.reduceSub, Int.reduceNeg, Int.reduceLT, Int.reduceLE, Int.reduceEq, Int.reduceToNat, reduceCtorEq, bind, outA, accC]
        refine hD _ ?_
        clear hD hK D K
        simp only [seqQ]
        refine AW_reg TB (fun D K hD hK => ?_)
        simp only [AwS, TS, binI, runR, runD, ostep, ostepB, aop, aopB, dstOk, aeff, aval, St.ev, alook, blook, aBox, AV.known, cav, St.app, tput, evs, evp, allKnown, gslot, min2, max2, AV.cs, AV.cell, loadC, aField, aIndex, TD.elem, TD.isAgg, TD.isInt, aSlice, aBound, aLen, aBuild, aFill, placesOf, bytesOf, aBin, aEql, TI.one, eqS, eqL, fits, srcOf, dstOf, killK, replZ, spl, splice, AV.tops, Tk.foot, addFoot, fine, apart, disj, St.behind, St.behindB, zipIo, newIo, gMap, ioMap, AV.map, AVs.map, nmap, ↓reduceIte, Nat.reduceAdd, Nat.reduceMul, Nat.reduceSub, Nat.reduceMod, Nat.reduceDiv, Nat.reduceEqDiff, Nat.reduceLT, Nat.reduceLeDiff, Nat.reduceBEq, Nat.reduceBNe, Int.reduceAdd, Int.reduceMul, Int.reduceSub, Int.reduceNeg, Int.reduceLT, Int.reduceLE, Int.reduceEq, Int.reduceToNat, reduceCtorEq, bind]
        refine hD _ ?_
        clear hD hK D K
        refine AW_ret ?_
        simp only [Ret, blockQ, kQ, loopQ, seqQ, scopeQ, ↓reduceIte]
        exact retp (bv true) rfl rfl rfl rfl
end Go.Proofs.Ytdnmnafadondkaa
