/- The walks of the laws RatchetRaiseReaches, RatchetWornOnlyIfStuck and RatchetCounts. No condition. -/
import Derived.Test.YtdnmnafadondkaaW17
set_option linter.unusedVariables false
set_option linter.unusedSimpArgs false
set_option maxRecDepth 100000
namespace Go.Proofs.Ytdnmnafadondkaa
open Go Go.RowKit



theorem reach_spec (l : List Int) (t : Int) (hl : ∀ x ∈ l, 0 ≤ x ∧ x < 256) (hm : l.length ≤ maxLen) (ht : 0 ≤ t ∧ t < 256) : Spec Try.prog [] 5 [.ds true l.length (l.map yv), yv t] [] (fun o => o = .ret (bv true) [] []) := by
  refine spec_of TB 79 [.tmp 4] Try.func5 rfl rfl rfl (Nat.le_of_ble_eq_true rfl) ?_
  intro X w0 E0 hE hX
  simp only [idx, List.map_nil, List.length_nil]
  refine AW_reg TB (fun D K hD hK => ?_)
  simp only [AwS, TS, binI, runR, runD, ostep, ostepB, aop, aopB, dstOk, aeff, aval, St.ev, alook, blook, aBox, AV.known, cav, St.app, tput, evs, evp, allKnown, gslot, min2, max2, AV.cs, AV.cell, loadC, aField, aIndex, TD.elem, TD.isAgg, TD.isInt, aSlice, aBound, aLen, aBuild, aFill, placesOf, bytesOf, aBin, aEql, TI.one, eqS, eqL, fits, srcOf, dstOf, killK, replZ, spl, splice, AV.tops, Tk.foot, addFoot, fine, apart, disj, St.behind, St.behindB, zipIo, newIo, gMap, ioMap, AV.map, AVs.map, nmap, ↓reduceIte, Nat.reduceAdd, Nat.reduceMul, Nat.reduceSub, Nat.reduceMod, Nat.reduceDiv, Nat.reduceEqDiff, Nat.reduceLT, Nat.reduceLeDiff, Nat.reduceBEq, Nat.reduceBNe, Int.reduceAdd, Int.reduceMul, Int.reduceSub, Int.reduceNeg, Int.reduceLT, Int.reduceLE, Int.reduceEq, Int.reduceToNat, reduceCtorEq, bind]
  refine hD _ ?_
  clear hD hK D K
  refine AW_reg TB (fun D K hD hK => ?_)
  simp only [AwS, TS, binI, runR, runD, ostep, ostepB, aop, aopB, dstOk, aeff, aval, St.ev, alook, blook, aBox, AV.known, cav, St.app, tput, evs, evp, allKnown, gslot, min2, max2, AV.cs, AV.cell, loadC, aField, aIndex, TD.elem, TD.isAgg, TD.isInt, aSlice, aBound, aLen, aBuild, aFill, placesOf, bytesOf, aBin, aEql, TI.one, eqS, eqL, fits, srcOf, dstOf, killK, replZ, spl, splice, AV.tops, Tk.foot, addFoot, fine, apart, disj, St.behind, St.behindB, zipIo, newIo, gMap, ioMap, AV.map, AVs.map, nmap, ↓reduceIte, Nat.reduceAdd, Nat.reduceMul, Nat.reduceSub, Nat.reduceMod, Nat.reduceDiv, Nat.reduceEqDiff, Nat.reduceLT, Nat.reduceLeDiff, Nat.reduceBEq, Nat.reduceBNe, Int.reduceAdd, Int.reduceMul, Int.reduceSub, Int.reduceNeg, Int.reduceLT, Int.reduceLE, Int.reduceEq, Int.reduceToNat, reduceCtorEq, bind]
  refine hK _ _ ?_
  clear hD hK D K
  refine AL_callP rfl rfl rfl rfl en_9 sanity_spec [] ?_ (by simp) rfl rfl ?_
  · simp [evs, St.ev, cav, alook, lendA, lentBx, lendC, blook, AVs.map, AV.map, ioMap]
  refine AL_runR TB _ _ (fun D K hD hK => ?_)
  simp only [AwS, TS, binI, runR, runD, ostep, ostepB, aop, aopB, dstOk, aeff, aval, St.ev, alook, blook, aBox, AV.known, cav, St.app, tput, evs, evp, allKnown, gslot, min2, max2, AV.cs, AV.cell, loadC, aField, aIndex, TD.elem, TD.isAgg, TD.isInt, aSlice, aBound, aLen, aBuild, aFill, placesOf, bytesOf, aBin, aEql, TI.one, eqS, eqL, fits, srcOf, dstOf, killK, replZ, spl, splice, AV.tops, Tk.foot, addFoot, fine, apart, disj, St.behind, St.behindB, zipIo, newIo, gMap, ioMap, AV.map, AVs.map, nmap, ↓reduceIte, Nat.reduceAdd, Nat.reduceMul, Nat.reduceSub, Nat.reduceMod, Nat.reduceDiv, Nat.reduceEqDiff, Nat.reduceLT, Nat.reduceLeDiff, Nat.reduceBEq, Nat.reduceBNe, Int.reduceAdd, Int.reduceMul, Int.reduceSub, Int.reduceNeg, Int.reduceLT, Int.reduceLE, Int.reduceEq, Int.reduceToNat, reduceCtorEq, bind]
  refine hD _ ?_
  clear hD hK D K
  simp only [seqQ]
  refine AW_seq ?_
  refine AW_reg TB (fun D K hD hK => ?_)
  simp only [AwS, TS, binI, runR, runD, ostep, ostepB, aop, aopB, dstOk, aeff, aval, St.ev, alook, blook, aBox, AV.known, cav, St.app, tput, evs, evp, allKnown, gslot, min2, max2, AV.cs, AV.cell, loadC, aField, aIndex, TD.elem, TD.isAgg, TD.isInt, aSlice, aBound, aLen, aBuild, aFill, placesOf, bytesOf, aBin, aEql, TI.one, eqS, eqL, fits, srcOf, dstOf, killK, replZ, spl, splice, AV.tops, Tk.foot, addFoot, fine, apart, disj, St.behind, St.behindB, zipIo, newIo, gMap, ioMap, AV.map, AVs.map, nmap, ↓reduceIte, Nat.reduceAdd, Nat.reduceMul, Nat.reduceSub, Nat.reduceMod, Nat.reduceDiv, Nat.reduceEqDiff, Nat.reduceLT, Nat.reduceLeDiff, Nat.reduceBEq, Nat.reduceBNe, Int.reduceAdd, Int.reduceMul, Int.reduceSub, Int.reduceNeg, Int.reduceLT, Int.reduceLE, Int.reduceEq, Int.reduceToNat, reduceCtorEq, bind]
  refine hD _ ?_
  clear hD hK D K
  refine AW_cond rfl (fun h => ?_) (fun h => AW_skip ?_)
  · refine AW_reg TB (fun D K hD hK => ?_)
    simp only [AwS, TS, binI, runR, runD, ostep, ostepB, aop, aopB, dstOk, aeff, aval, St.ev, alook, blook, aBox, AV.known, cav, St.app, tput, evs, evp, allKnown, gslot, min2, max2, AV.cs, AV.cell, loadC, aField, aIndex, TD.elem, TD.isAgg, TD.isInt, aSlice, aBound, aLen, aBuild, aFill, placesOf, bytesOf, aBin, aEql, TI.one, eqS, eqL, fits, srcOf, dstOf, killK, replZ, spl, splice, AV.tops, Tk.foot, addFoot, fine, apart, disj, St.behind, St.behindB, zipIo, newIo, gMap, ioMap, AV.map, AVs.map, nmap, ↓reduceIte, Nat.reduceAdd, Nat.reduceMul, Nat.reduceSub, Nat.reduceMod, Nat.reduceDiv, Nat.reduceEqDiff, Nat.reduceLT, Nat.reduceLeDiff, Nat.reduceBEq, Nat.reduceBNe, Int.reduceAdd, Int.reduceMul, Int.reduceSub, Int.reduceNeg, Int.reduceLT, Int.reduceLE, Int.reduceEq, Int.reduceToNat, reduceCtorEq, bind]
    refine hD _ ?_
    clear hD hK D K
    refine AW_ret ?_
    simp only [Ret, blockQ, kQ, loopQ, seqQ, scopeQ, ↓reduceIte]
    exact retp (bv true) rfl rfl rfl rfl
  have hl48 : l.length ≤ 48 := by simp at h; omega
  have hB : l.length / 3 ≤ 16 := by omega
  have hlen := cellsL_len l true
  obtain ⟨la, want, lc, ca, cb, cc, ma, mb, mc, e1, e2, hw, hcb, e3, h1, h2⟩ := reaches (t := t) hB hlen (cellsL_rng hl) cellsL_snd
  have ok0 : Ses.ok ⟨false, 0, []⟩ := ⟨by decide, by decide, by simp⟩
  have okt : Ses.ok ⟨true, t, []⟩ := ⟨ht.1, ht.2, by simp⟩
  have x1 : IntKind.i64.wrap t = t := wrap_i64 (by omega) (by omega)
  have x2 : IntKind.i64.wrap ((l.length / 3 : Nat) + 1 : Int) = (l.length / 3 : Nat) + 1 := wrap_i64 (by omega) (by omega)
  have x3 : (((l.length / 3 : Nat) : Int) + 1 = 0) = False := by simp; omega
  have x4 : t.tmod ((l.length / 3 : Nat) + 1 : Int) = (((Ses.mk true t []).tn (l.length / 3) : Nat) : Int) := by rw [Ses.tn_eq]; exact Int.tmod_eq_emod_of_nonneg ht.1
  have x5 : (if (((Ses.mk true t []).tn (l.length / 3) : Nat) : Int) > (la : Int) then (((Ses.mk true t []).tn (l.length / 3) : Nat) : Int) else (la : Int)) = (want : Int) := by split <;> omega
  have x6 : ((lc : Int) ≥ (want : Int)) = True := by simp; omega
  have x7 : (((lv7 cb false : Nat) : Int) ≥ (want : Int)) = True := by simp; omega
  simp only [seqQ]
  refine AW_reg TB (fun D K hD hK => ?_)
  simp only [AwS, TS, binI, runR, runD, ostep, ostepB, aop, aopB, dstOk, aeff, aval, St.ev, alook, blook, aBox, AV.known, cav, St.app, tput, evs, evp, allKnown, gslot, min2, max2, AV.cs, AV.cell, loadC, aField, aIndex, TD.elem, TD.isAgg, TD.isInt, aSlice, aBound, aLen, aBuild, aFill, placesOf, bytesOf, aBin, aEql, TI.one, eqS, eqL, fits, srcOf, dstOf, killK, replZ, spl, splice, AV.tops, Tk.foot, addFoot, fine, apart, disj, St.behind, St.behindB, zipIo, newIo, gMap, ioMap, AV.map, AVs.map, nmap, ↓reduceIte, Nat.reduceAdd, Nat.reduceMul, Nat.reduceSub, Nat.reduceMod, Nat.reduceDiv, Nat.reduceEqDiff, Nat.reduceLT, Nat.reduceLeDiff, Nat.reduceBEq, Nat.reduceBNe, Int.reduceAdd, Int.reduceMul, Int.reduceSub, Int.reduceNeg, Int.reduceLT, Int.reduceLE, Int.reduceEq, Int.reduceToNat, reduceCtorEq, bind]
  refine hK _ _ ?_
  clear hD hK D K
  refine AL_callP rfl rfl rfl rfl en_15 (cells_spec true l true hl48 hl) [] ?_ (by simp) rfl ?_ ?_
  · simp [evs, St.ev, cav, alook, lendA, lentBx, lendC, blook, AVs.map, AV.map, ioMap, yvs_map]
  · simp only [AV.map, AVs.map, fzA_flat _ _]
  simp only [fzA]
  refine AL_runR TB _ _ (fun D K hD hK => ?_)
  simp only [AwS, TS, binI, runR, runD, ostep, ostepB, aop, aopB, dstOk, aeff, aval, St.ev, alook, blook, aBox, AV.known, cav, St.app, tput, evs, evp, allKnown, gslot, min2, max2, AV.cs, AV.cell, loadC, aField, aIndex, TD.elem, TD.isAgg, TD.isInt, aSlice, aBound, aLen, aBuild, aFill, placesOf, bytesOf, aBin, aEql, TI.one, eqS, eqL, fits, srcOf, dstOf, killK, replZ, spl, splice, AV.tops, Tk.foot, addFoot, fine, apart, disj, St.behind, St.behindB, zipIo, newIo, gMap, ioMap, AV.map, AVs.map, nmap, ↓reduceIte, Nat.reduceAdd, Nat.reduceMul, Nat.reduceSub, Nat.reduceMod, Nat.reduceDiv, Nat.reduceEqDiff, Nat.reduceLT, Nat.reduceLeDiff, Nat.reduceBEq, Nat.reduceBNe, Int.reduceAdd, Int.reduceMul, Int.reduceSub, Int.reduceNeg, Int.reduceLT, Int.reduceLE, Int.reduceEq, Int.reduceToNat, reduceCtorEq, bind]
  refine hD _ ?_
  clear hD hK D K
  simp only [seqQ]
  refine AW_reg TB (fun D K hD hK => ?_)
  simp only [AwS, TS, binI, runR, runD, ostep, ostepB, aop, aopB, dstOk, aeff, aval, St.ev, alook, blook, aBox, AV.known, cav, St.app, tput, evs, evp, allKnown, gslot, min2, max2, AV.cs, AV.cell, loadC, aField, aIndex, TD.elem, TD.isAgg, TD.isInt, aSlice, aBound, aLen, aBuild, aFill, placesOf, bytesOf, aBin, aEql, TI.one, eqS, eqL, fits, srcOf, dstOf, killK, replZ, spl, splice, AV.tops, Tk.foot, addFoot, fine, apart, disj, St.behind, St.behindB, zipIo, newIo, gMap, ioMap, AV.map, AVs.map, nmap, ↓reduceIte, Nat.reduceAdd, Nat.reduceMul, Nat.reduceSub, Nat.reduceMod, Nat.reduceDiv, Nat.reduceEqDiff, Nat.reduceLT, Nat.reduceLeDiff, Nat.reduceBEq, Nat.reduceBNe, Int.reduceAdd, Int.reduceMul, Int.reduceSub, Int.reduceNeg, Int.reduceLT, Int.reduceLE, Int.reduceEq, Int.reduceToNat, reduceCtorEq, bind]
  refine hK _ _ ?_
  clear hD hK D K
  refine AL_callP rfl rfl rfl rfl en_16 (exec_run (bits := l.length / 3) (c := cellsL l true) ok0 (by omega) hlen e1) [] ?_ (by simp) rfl ?_ ?_
  · simp [evs, St.ev, cav, alook, lendA, lentBx, lendC, blook, AVs.map, AV.map, ioMap, fzA, yvs_map, Ses.cs]
  · simp only [AV.map, RunR.flat _ _]
  simp only [RunR.cs]
  refine AL_runR TB _ _ (fun D K hD hK => ?_)
  simp only [AwS, TS, binI, runR, runD, ostep, ostepB, aop, aopB, dstOk, aeff, aval, St.ev, alook, blook, aBox, AV.known, cav, St.app, tput, evs, evp, allKnown, gslot, min2, max2, AV.cs, AV.cell, loadC, aField, aIndex, TD.elem, TD.isAgg, TD.isInt, aSlice, aBound, aLen, aBuild, aFill, placesOf, bytesOf, aBin, aEql, TI.one, eqS, eqL, fits, srcOf, dstOf, killK, replZ, spl, splice, AV.tops, Tk.foot, addFoot, fine, apart, disj, St.behind, St.behindB, zipIo, newIo, gMap, ioMap, AV.map, AVs.map, nmap, ↓reduceIte, Nat.reduceAdd, Nat.reduceMul, Nat.reduceSub, Nat.reduceMod, Nat.reduceDiv, Nat.reduceEqDiff, Nat.reduceLT, Nat.reduceLeDiff, Nat.reduceBEq, Nat.reduceBNe, Int.reduceAdd, Int.reduceMul, Int.reduceSub, Int.reduceNeg, Int.reduceLT, Int.reduceLE, Int.reduceEq, Int.reduceToNat, reduceCtorEq, bind]
  refine hD _ ?_
  clear hD hK D K
  simp only [seqQ]
  refine AW_reg TB (fun D K hD hK => ?_)
  simp only [AwS, TS, binI, runR, runD, ostep, ostepB, aop, aopB, dstOk, aeff, aval, St.ev, alook, blook, aBox, AV.known, cav, St.app, tput, evs, evp, allKnown, gslot, min2, max2, AV.cs, AV.cell, loadC, aField, aIndex, TD.elem, TD.isAgg, TD.isInt, aSlice, aBound, aLen, aBuild, aFill, placesOf, bytesOf, aBin, aEql, TI.one, eqS, eqL, fits, srcOf, dstOf, killK, replZ, spl, splice, AV.tops, Tk.foot, addFoot, fine, apart, disj, St.behind, St.behindB, zipIo, newIo, gMap, ioMap, AV.map, AVs.map, nmap, ↓reduceIte, Nat.reduceAdd, Nat.reduceMul, Nat.reduceSub, Nat.reduceMod, Nat.reduceDiv, Nat.reduceEqDiff, Nat.reduceLT, Nat.reduceLeDiff, Nat.reduceBEq, Nat.reduceBNe, Int.reduceAdd, Int.reduceMul, Int.reduceSub, Int.reduceNeg, Int.reduceLT, Int.reduceLE, Int.reduceEq, Int.reduceToNat, reduceCtorEq, bind]
  refine hK _ _ ?_
  clear hD hK D K
  refine AL_callP rfl rfl rfl rfl en_16 (exec_run (bits := l.length / 3) (c := cellsL l true) okt (by omega) hlen e2) [] ?_ (by simp) rfl ?_ ?_
  · simp [evs, St.ev, cav, alook, lendA, lentBx, lendC, blook, AVs.map, AV.map, ioMap, fzA, yvs_map, Ses.cs]
  · simp only [AV.map, RunR.flat _ _]
  simp only [RunR.cs]
  refine AL_runR TB _ _ (fun D K hD hK => ?_)
  simp only [AwS, TS, binI, runR, runD, ostep, ostepB, aop, aopB, dstOk, aeff, aval, St.ev, alook, blook, aBox, AV.known, cav, St.app, tput, evs, evp, allKnown, gslot, min2, max2, AV.cs, AV.cell, loadC, aField, aIndex, TD.elem, TD.isAgg, TD.isInt, aSlice, aBound, aLen, aBuild, aFill, placesOf, bytesOf, aBin, aEql, TI.one, eqS, eqL, fits, srcOf, dstOf, killK, replZ, spl, splice, AV.tops, Tk.foot, addFoot, fine, apart, disj, St.behind, St.behindB, zipIo, newIo, gMap, ioMap, AV.map, AVs.map, nmap, ↓reduceIte, Nat.reduceAdd, Nat.reduceMul, Nat.reduceSub, Nat.reduceMod, Nat.reduceDiv, Nat.reduceEqDiff, Nat.reduceLT, Nat.reduceLeDiff, Nat.reduceBEq, Nat.reduceBNe, Int.reduceAdd, Int.reduceMul, Int.reduceSub, Int.reduceNeg, Int.reduceLT, Int.reduceLE, Int.reduceEq, Int.reduceToNat, reduceCtorEq, bind]
  refine hD _ ?_
  clear hD hK D K
  simp only [seqQ]
  refine AW_reg TB (fun D K hD hK => ?_)
  simp only [AwS, TS, binI, runR, runD, ostep, ostepB, aop, aopB, dstOk, aeff, aval, St.ev, alook, blook, aBox, AV.known, cav, St.app, tput, evs, evp, allKnown, gslot, min2, max2, AV.cs, AV.cell, loadC, aField, aIndex, TD.elem, TD.isAgg, TD.isInt, aSlice, aBound, aLen, aBuild, aFill, placesOf, bytesOf, aBin, aEql, TI.one, eqS, eqL, fits, srcOf, dstOf, killK, replZ, spl, splice, AV.tops, Tk.foot, addFoot, fine, apart, disj, St.behind, St.behindB, zipIo, newIo, gMap, ioMap, AV.map, AVs.map, nmap, ↓reduceIte, Nat.reduceAdd, Nat.reduceMul, Nat.reduceSub, Nat.reduceMod, Nat.reduceDiv, Nat.reduceEqDiff, Nat.reduceLT, Nat.reduceLeDiff, Nat.reduceBEq, Nat.reduceBNe, Int.reduceAdd, Int.reduceMul, Int.reduceSub, Int.reduceNeg, Int.reduceLT, Int.reduceLE, Int.reduceEq, Int.reduceToNat, reduceCtorEq, bind]
  refine hK _ _ ?_
  clear hD hK D K
  refine AL_callP rfl rfl rfl rfl en_16 (exec_run (bits := l.length / 3) (c := cb) ok0 (by omega) hcb e3) [] ?_ (by simp) rfl ?_ ?_
  · simp [evs, St.ev, cav, alook, lendA, lentBx, lendC, blook, AVs.map, AV.map, ioMap, fzA, yvs_map, Ses.cs]
  · simp only [AV.map, RunR.flat _ _]
  simp only [RunR.cs]
  refine AL_runR TB _ _ (fun D K hD hK => ?_)
  simp only [AwS, TS, binI, runR, runD, ostep, ostepB, aop, aopB, dstOk, aeff, aval, St.ev, alook, blook, aBox, AV.known, cav, St.app, tput, evs, evp, allKnown, gslot, min2, max2, AV.cs, AV.cell, loadC, aField, aIndex, TD.elem, TD.isAgg, TD.isInt, aSlice, aBound, aLen, aBuild, aFill, placesOf, bytesOf, aBin, aEql, TI.one, eqS, eqL, fits, srcOf, dstOf, killK, replZ, spl, splice, AV.tops, Tk.foot, addFoot, fine, apart, disj, St.behind, St.behindB, zipIo, newIo, gMap, ioMap, AV.map, AVs.map, nmap, ↓reduceIte, Nat.reduceAdd, Nat.reduceMul, Nat.reduceSub, Nat.reduceMod, Nat.reduceDiv, Nat.reduceEqDiff, Nat.reduceLT, Nat.reduceLeDiff, Nat.reduceBEq, Nat.reduceBNe, Int.reduceAdd, Int.reduceMul, Int.reduceSub, Int.reduceNeg, Int.reduceLT, Int.reduceLE, Int.reduceEq, Int.reduceToNat, reduceCtorEq, bind]
  refine hD _ ?_
  clear hD hK D K
  simp only [seqQ]
  refine AW_dreg TB mx ([[], [0], [1, 0], [], [3], [], [5], [4, 3, 6, 5], [2, 1, 0, 7, 4, 3, 6, 5], [8, 2, 1, 0, 7, 4, 3, 6, 5]]) (by kernel_rfl) (by kernel_rfl) (fun D K hD hK => ?_)
  simp only [AwS, TS, binI, runR, runD, ostep, ostepB, aop, aopB, dstOk, aeff, aval, St.ev, alook, blook, aBox, AV.known, cav, St.app, tput, evs, evp, allKnown, gslot, min2, max2, AV.cs, AV.cell, loadC, aField, aIndex, TD.elem, TD.isAgg, TD.isInt, aSlice, aBound, aLen, aBuild, aFill, placesOf, bytesOf, aBin, aEql, TI.one, eqS, eqL, fits, srcOf, dstOf, killK, replZ, spl, splice, AV.tops, Tk.foot, addFoot, fine, apart, disj, St.behind, St.behindB, zipIo, newIo, gMap, ioMap, AV.map, AVs.map, nmap, ↓reduceIte, Nat.reduceAdd, Nat.reduceMul, Nat.reduceSub, Nat.reduceMod, Nat.reduceDiv, Nat.reduceEqDiff, Nat.reduceLT, Nat.reduceLeDiff, Nat.reduceBEq, Nat.reduceBNe, Int.reduceAdd, Int.reduceMul, Int.reduceSub, Int.reduceNeg, Int.reduceLT, Int.reduceLE, Int.reduceEq, Int.reduceToNat, reduceCtorEq, bind, Op.operands, Call.operands, List.toList_toArray, List.size_toArray, cmp, List.getD_cons_zero, List.getD_cons_succ, Array.toList_append, Option.toArray, List.append_toArray,  x1, x2, x3, x4, x5]
  refine hD _ ?_
  clear hD hK D K
  refine AW_reg TB (fun D K hD hK => ?_)
  simp only [AwS, TS, binI, runR, runD, ostep, ostepB, aop, aopB, dstOk, aeff, aval, St.ev, alook, blook, aBox, AV.known, cav, St.app, tput, evs, evp, allKnown, gslot, min2, max2, AV.cs, AV.cell, loadC, aField, aIndex, TD.elem, TD.isAgg, TD.isInt, aSlice, aBound, aLen, aBuild, aFill, placesOf, bytesOf, aBin, aEql, TI.one, eqS, eqL, fits, srcOf, dstOf, killK, replZ, spl, splice, AV.tops, Tk.foot, addFoot, fine, apart, disj, St.behind, St.behindB, zipIo, newIo, gMap, ioMap, AV.map, AVs.map, nmap, ↓reduceIte, Nat.reduceAdd, Nat.reduceMul, Nat.reduceSub, Nat.reduceMod, Nat.reduceDiv, Nat.reduceEqDiff, Nat.reduceLT, Nat.reduceLeDiff, Nat.reduceBEq, Nat.reduceBNe, Int.reduceAdd, Int.reduceMul, Int.reduceSub, Int.reduceNeg, Int.reduceLT, Int.reduceLE, Int.reduceEq, Int.reduceToNat, reduceCtorEq, bind, x6]
  refine hK _ _ ?_
  clear hD hK D K
  refine AL_callPW rfl (.inr ⟨27, _, true, rfl, rfl, rfl⟩) rfl rfl en_17 (least_spec cb (by omega)) [] ?_ (by simp) rfl rfl ?_
  · simp [evs, St.ev, cav, alook, lendA, lentBx, lendC, blook, AVs.map, AV.map, ioMap, fzA, yvs_map]
  refine AL_runR TB _ _ (fun D K hD hK => ?_)
  simp only [AwS, TS, binI, runR, runD, ostep, ostepB, aop, aopB, dstOk, aeff, aval, St.ev, alook, blook, aBox, AV.known, cav, St.app, tput, evs, evp, allKnown, gslot, min2, max2, AV.cs, AV.cell, loadC, aField, aIndex, TD.elem, TD.isAgg, TD.isInt, aSlice, aBound, aLen, aBuild, aFill, placesOf, bytesOf, aBin, aEql, TI.one, eqS, eqL, fits, srcOf, dstOf, killK, replZ, spl, splice, AV.tops, Tk.foot, addFoot, fine, apart, disj, St.behind, St.behindB, zipIo, newIo, gMap, ioMap, AV.map, AVs.map, nmap, ↓reduceIte, Nat.reduceAdd, Nat.reduceMul, Nat.reduceSub, Nat.reduceMod, Nat.reduceDiv, Nat.reduceEqDiff, Nat.reduceLT, Nat.reduceLeDiff, Nat.reduceBEq, Nat.reduceBNe, Int.reduceAdd, Int.reduceMul, Int.reduceSub, Int.reduceNeg, Int.reduceLT, Int.reduceLE, Int.reduceEq, Int.reduceToNat, reduceCtorEq, bind, x7]
  refine hD _ ?_
  clear hD hK D K
  simp only [seqQ]
  refine AW_ret ?_
  simp only [Ret, blockQ, kQ, loopQ, seqQ, scopeQ, ↓reduceIte]
  exact retp (bv true) rfl rfl rfl rfl

theorem counts_spec (l : List Int) (t : Int) (hl : ∀ x ∈ l, 0 ≤ x ∧ x < 256) (hm : l.length ≤ maxLen) (ht : 0 ≤ t ∧ t < 256) : Spec Try.prog [] 8 [.ds true l.length (l.map yv), yv t] [] (fun o => o = .ret (bv true) [] []) := by
  refine spec_of TB 82 [.tmp 4] Try.func8 rfl rfl rfl (Nat.le_of_ble_eq_true rfl) ?_
  intro X w0 E0 hE hX
  simp only [idx, List.map_nil, List.length_nil]
  refine AW_reg TB (fun D K hD hK => ?_)
  simp only [AwS, TS, binI, runR, runD, ostep, ostepB, aop, aopB, dstOk, aeff, aval, St.ev, alook, blook, aBox, AV.known, cav, St.app, tput, evs, evp, allKnown, gslot, min2, max2, AV.cs, AV.cell, loadC, aField, aIndex, TD.elem, TD.isAgg, TD.isInt, aSlice, aBound, aLen, aBuild, aFill, placesOf, bytesOf, aBin, aEql, TI.one, eqS, eqL, fits, srcOf, dstOf, killK, replZ, spl, splice, AV.tops, Tk.foot, addFoot, fine, apart, disj, St.behind, St.behindB, zipIo, newIo, gMap, ioMap, AV.map, AVs.map, nmap, ↓reduceIte, Nat.reduceAdd, Nat.reduceMul, Nat.reduceSub, Nat.reduceMod, Nat.reduceDiv, Nat.reduceEqDiff, Nat.reduceLT, Nat.reduceLeDiff, Nat.reduceBEq, Nat.reduceBNe, Int.reduceAdd, Int.reduceMul, Int.reduceSub, Int.reduceNeg, Int.reduceLT, Int.reduceLE, Int.reduceEq, Int.reduceToNat, reduceCtorEq, bind]
  refine hD _ ?_
  clear hD hK D K
  refine AW_reg TB (fun D K hD hK => ?_)
  simp only [AwS, TS, binI, runR, runD, ostep, ostepB, aop, aopB, dstOk, aeff, aval, St.ev, alook, blook, aBox, AV.known, cav, St.app, tput, evs, evp, allKnown, gslot, min2, max2, AV.cs, AV.cell, loadC, aField, aIndex, TD.elem, TD.isAgg, TD.isInt, aSlice, aBound, aLen, aBuild, aFill, placesOf, bytesOf, aBin, aEql, TI.one, eqS, eqL, fits, srcOf, dstOf, killK, replZ, spl, splice, AV.tops, Tk.foot, addFoot, fine, apart, disj, St.behind, St.behindB, zipIo, newIo, gMap, ioMap, AV.map, AVs.map, nmap, ↓reduceIte, Nat.reduceAdd, Nat.reduceMul, Nat.reduceSub, Nat.reduceMod, Nat.reduceDiv, Nat.reduceEqDiff, Nat.reduceLT, Nat.reduceLeDiff, Nat.reduceBEq, Nat.reduceBNe, Int.reduceAdd, Int.reduceMul, Int.reduceSub, Int.reduceNeg, Int.reduceLT, Int.reduceLE, Int.reduceEq, Int.reduceToNat, reduceCtorEq, bind]
  refine hK _ _ ?_
  clear hD hK D K
  refine AL_callP rfl rfl rfl rfl en_9 sanity_spec [] ?_ (by simp) rfl rfl ?_
  · simp [evs, St.ev, cav, alook, lendA, lentBx, lendC, blook, AVs.map, AV.map, ioMap]
  refine AL_runR TB _ _ (fun D K hD hK => ?_)
  simp only [AwS, TS, binI, runR, runD, ostep, ostepB, aop, aopB, dstOk, aeff, aval, St.ev, alook, blook, aBox, AV.known, cav, St.app, tput, evs, evp, allKnown, gslot, min2, max2, AV.cs, AV.cell, loadC, aField, aIndex, TD.elem, TD.isAgg, TD.isInt, aSlice, aBound, aLen, aBuild, aFill, placesOf, bytesOf, aBin, aEql, TI.one, eqS, eqL, fits, srcOf, dstOf, killK, replZ, spl, splice, AV.tops, Tk.foot, addFoot, fine, apart, disj, St.behind, St.behindB, zipIo, newIo, gMap, ioMap, AV.map, AVs.map, nmap, ↓reduceIte, Nat.reduceAdd, Nat.reduceMul, Nat.reduceSub, Nat.reduceMod, Nat.reduceDiv, Nat.reduceEqDiff, Nat.reduceLT, Nat.reduceLeDiff, Nat.reduceBEq, Nat.reduceBNe, Int.reduceAdd, Int.reduceMul, Int.reduceSub, Int.reduceNeg, Int.reduceLT, Int.reduceLE, Int.reduceEq, Int.reduceToNat, reduceCtorEq, bind]
  refine hD _ ?_
  clear hD hK D K
  simp only [seqQ]
  refine AW_seq ?_
  refine AW_reg TB (fun D K hD hK => ?_)
  simp only [AwS, TS, binI, runR, runD, ostep, ostepB, aop, aopB, dstOk, aeff, aval, St.ev, alook, blook, aBox, AV.known, cav, St.app, tput, evs, evp, allKnown, gslot, min2, max2, AV.cs, AV.cell, loadC, aField, aIndex, TD.elem, TD.isAgg, TD.isInt, aSlice, aBound, aLen, aBuild, aFill, placesOf, bytesOf, aBin, aEql, TI.one, eqS, eqL, fits, srcOf, dstOf, killK, replZ, spl, splice, AV.tops, Tk.foot, addFoot, fine, apart, disj, St.behind, St.behindB, zipIo, newIo, gMap, ioMap, AV.map, AVs.map, nmap, ↓reduceIte, Nat.reduceAdd, Nat.reduceMul, Nat.reduceSub, Nat.reduceMod, Nat.reduceDiv, Nat.reduceEqDiff, Nat.reduceLT, Nat.reduceLeDiff, Nat.reduceBEq, Nat.reduceBNe, Int.reduceAdd, Int.reduceMul, Int.reduceSub, Int.reduceNeg, Int.reduceLT, Int.reduceLE, Int.reduceEq, Int.reduceToNat, reduceCtorEq, bind]
  refine hD _ ?_
  clear hD hK D K
  refine AW_cond rfl (fun h => ?_) (fun h => AW_skip ?_)
  · refine AW_reg TB (fun D K hD hK => ?_)
    simp only [AwS, TS, binI, runR, runD, ostep, ostepB, aop, aopB, dstOk, aeff, aval, St.ev, alook, blook, aBox, AV.known, cav, St.app, tput, evs, evp, allKnown, gslot, min2, max2, AV.cs, AV.cell, loadC, aField, aIndex, TD.elem, TD.isAgg, TD.isInt, aSlice, aBound, aLen, aBuild, aFill, placesOf, bytesOf, aBin, aEql, TI.one, eqS, eqL, fits, srcOf, dstOf, killK, replZ, spl, splice, AV.tops, Tk.foot, addFoot, fine, apart, disj, St.behind, St.behindB, zipIo, newIo, gMap, ioMap, AV.map, AVs.map, nmap, ↓reduceIte, Nat.reduceAdd, Nat.reduceMul, Nat.reduceSub, Nat.reduceMod, Nat.reduceDiv, Nat.reduceEqDiff, Nat.reduceLT, Nat.reduceLeDiff, Nat.reduceBEq, Nat.reduceBNe, Int.reduceAdd, Int.reduceMul, Int.reduceSub, Int.reduceNeg, Int.reduceLT, Int.reduceLE, Int.reduceEq, Int.reduceToNat, reduceCtorEq, bind]
    refine hD _ ?_
    clear hD hK D K
    refine AW_ret ?_
    simp only [Ret, blockQ, kQ, loopQ, seqQ, scopeQ, ↓reduceIte]
    exact retp (bv true) rfl rfl rfl rfl
  have hl48 : l.length ≤ 48 := by simp at h; omega
  have hB : l.length / 3 ≤ 16 := by omega
  have hlen := cellsL_len l false
  obtain ⟨n, ca, hn, e1, o, cb, j, e2, hj⟩ := counts (t := t) hB hlen
  have htn := (Ses.mk true t []).tn_le (l.length / 3)
  have ok0 : Ses.ok ⟨false, 0, []⟩ := ⟨by decide, by decide, by simp⟩
  have okt : Ses.ok ⟨true, t, []⟩ := ⟨ht.1, ht.2, by simp⟩
  have x1 : IntKind.i64.wrap t = t := wrap_i64 (by omega) (by omega)
  have x2 : IntKind.i64.wrap ((l.length / 3 : Nat) + 1 : Int) = (l.length / 3 : Nat) + 1 := wrap_i64 (by omega) (by omega)
  have x3 : (((l.length / 3 : Nat) : Int) + 1 = 0) = False := by simp; omega
  have x4 : t.tmod ((l.length / 3 : Nat) + 1 : Int) = (((Ses.mk true t []).tn (l.length / 3) : Nat) : Int) := by rw [Ses.tn_eq]; exact Int.tmod_eq_emod_of_nonneg ht.1
  have x5 : IntKind.i64.wrap (6 * (n : Int)) = ((6 * n : Nat) : Int) := by rw [wrap_i64 (by omega) (by omega)]; omega
  have x6 : IntKind.i64.wrap (((6 * n : Nat) : Int) + 3) = ((6 * n + 3 : Nat) : Int) := by rw [wrap_i64 (by omega) (by omega)]; omega
  have x7 : IntKind.i64.wrap ((((Ses.mk true t []).tn (l.length / 3) : Nat) : Int) - (n : Int)) = (((Ses.mk true t []).tn (l.length / 3) : Nat) : Int) - (n : Int) := wrap_i64 (by omega) (by omega)
  have x8 : (if 0 > (((Ses.mk true t []).tn (l.length / 3) : Nat) : Int) - (n : Int) then 0 else (((Ses.mk true t []).tn (l.length / 3) : Nat) : Int) - (n : Int)) = (((Ses.mk true t []).tn (l.length / 3) - n : Nat) : Int) := by split <;> omega
  have x9 : IntKind.i64.wrap (6 * (((Ses.mk true t []).tn (l.length / 3) - n : Nat) : Int)) = ((6 * ((Ses.mk true t []).tn (l.length / 3) - n) : Nat) : Int) := by rw [wrap_i64 (by omega) (by omega)]; omega
  simp only [seqQ]
  refine AW_reg TB (fun D K hD hK => ?_)
  simp only [AwS, TS, binI, runR, runD, ostep, ostepB, aop, aopB, dstOk, aeff, aval, St.ev, alook, blook, aBox, AV.known, cav, St.app, tput, evs, evp, allKnown, gslot, min2, max2, AV.cs, AV.cell, loadC, aField, aIndex, TD.elem, TD.isAgg, TD.isInt, aSlice, aBound, aLen, aBuild, aFill, placesOf, bytesOf, aBin, aEql, TI.one, eqS, eqL, fits, srcOf, dstOf, killK, replZ, spl, splice, AV.tops, Tk.foot, addFoot, fine, apart, disj, St.behind, St.behindB, zipIo, newIo, gMap, ioMap, AV.map, AVs.map, nmap, ↓reduceIte, Nat.reduceAdd, Nat.reduceMul, Nat.reduceSub, Nat.reduceMod, Nat.reduceDiv, Nat.reduceEqDiff, Nat.reduceLT, Nat.reduceLeDiff, Nat.reduceBEq, Nat.reduceBNe, Int.reduceAdd, Int.reduceMul, Int.reduceSub, Int.reduceNeg, Int.reduceLT, Int.reduceLE, Int.reduceEq, Int.reduceToNat, reduceCtorEq, bind]
  refine hK _ _ ?_
  clear hD hK D K
  refine AL_callP rfl rfl rfl rfl en_15 (cells_spec true l false hl48 hl) [] ?_ (by simp) rfl ?_ ?_
  · simp [evs, St.ev, cav, alook, lendA, lentBx, lendC, blook, AVs.map, AV.map, ioMap, yvs_map]
  · simp only [AV.map, AVs.map, fzA_flat _ _]
  simp only [fzA]
  refine AL_runR TB _ _ (fun D K hD hK => ?_)
  simp only [AwS, TS, binI, runR, runD, ostep, ostepB, aop, aopB, dstOk, aeff, aval, St.ev, alook, blook, aBox, AV.known, cav, St.app, tput, evs, evp, allKnown, gslot, min2, max2, AV.cs, AV.cell, loadC, aField, aIndex, TD.elem, TD.isAgg, TD.isInt, aSlice, aBound, aLen, aBuild, aFill, placesOf, bytesOf, aBin, aEql, TI.one, eqS, eqL, fits, srcOf, dstOf, killK, replZ, spl, splice, AV.tops, Tk.foot, addFoot, fine, apart, disj, St.behind, St.behindB, zipIo, newIo, gMap, ioMap, AV.map, AVs.map, nmap, ↓reduceIte, Nat.reduceAdd, Nat.reduceMul, Nat.reduceSub, Nat.reduceMod, Nat.reduceDiv, Nat.reduceEqDiff, Nat.reduceLT, Nat.reduceLeDiff, Nat.reduceBEq, Nat.reduceBNe, Int.reduceAdd, Int.reduceMul, Int.reduceSub, Int.reduceNeg, Int.reduceLT, Int.reduceLE, Int.reduceEq, Int.reduceToNat, reduceCtorEq, bind]
  refine hD _ ?_
  clear hD hK D K
  simp only [seqQ]
  by_cases hnb : n < l.length / 3
  · have y1 : ((n : Int) < ((l.length / 3 : Nat) : Int)) = True := by simp; omega
    rw [if_pos hnb] at e1 hj
    refine AW_reg TB (fun D K hD hK => ?_)
    simp only [AwS, TS, binI, runR, runD, ostep, ostepB, aop, aopB, dstOk, aeff, aval, St.ev, alook, blook, aBox, AV.known, cav, St.app, tput, evs, evp, allKnown, gslot, min2, max2, AV.cs, AV.cell, loadC, aField, aIndex, TD.elem, TD.isAgg, TD.isInt, aSlice, aBound, aLen, aBuild, aFill, placesOf, bytesOf, aBin, aEql, TI.one, eqS, eqL, fits, srcOf, dstOf, killK, replZ, spl, splice, AV.tops, Tk.foot, addFoot, fine, apart, disj, St.behind, St.behindB, zipIo, newIo, gMap, ioMap, AV.map, AVs.map, nmap, ↓reduceIte, Nat.reduceAdd, Nat.reduceMul, Nat.reduceSub, Nat.reduceMod, Nat.reduceDiv, Nat.reduceEqDiff, Nat.reduceLT, Nat.reduceLeDiff, Nat.reduceBEq, Nat.reduceBNe, Int.reduceAdd, Int.reduceMul, Int.reduceSub, Int.reduceNeg, Int.reduceLT, Int.reduceLE, Int.reduceEq, Int.reduceToNat, reduceCtorEq, bind]
    refine hK _ _ ?_
    clear hD hK D K
    refine AL_callP rfl rfl rfl rfl en_16 (exec_run (bits := l.length / 3) (c := cellsL l false) ok0 (by omega) hlen e1) [] ?_ (by simp) rfl ?_ ?_
    · simp [evs, St.ev, cav, alook, lendA, lentBx, lendC, blook, AVs.map, AV.map, ioMap, fzA, yvs_map, Ses.cs]
    · simp only [AV.map, RunR.flat _ _]
    simp only [RunR.cs]
    refine AL_runR TB _ _ (fun D K hD hK => ?_)
    simp only [AwS, TS, binI, runR, runD, ostep, ostepB, aop, aopB, dstOk, aeff, aval, St.ev, alook, blook, aBox, AV.known, cav, St.app, tput, evs, evp, allKnown, gslot, min2, max2, AV.cs, AV.cell, loadC, aField, aIndex, TD.elem, TD.isAgg, TD.isInt, aSlice, aBound, aLen, aBuild, aFill, placesOf, bytesOf, aBin, aEql, TI.one, eqS, eqL, fits, srcOf, dstOf, killK, replZ, spl, splice, AV.tops, Tk.foot, addFoot, fine, apart, disj, St.behind, St.behindB, zipIo, newIo, gMap, ioMap, AV.map, AVs.map, nmap, ↓reduceIte, Nat.reduceAdd, Nat.reduceMul, Nat.reduceSub, Nat.reduceMod, Nat.reduceDiv, Nat.reduceEqDiff, Nat.reduceLT, Nat.reduceLeDiff, Nat.reduceBEq, Nat.reduceBNe, Int.reduceAdd, Int.reduceMul, Int.reduceSub, Int.reduceNeg, Int.reduceLT, Int.reduceLE, Int.reduceEq, Int.reduceToNat, reduceCtorEq, bind]
    refine hD _ ?_
    clear hD hK D K
    simp only [seqQ]
    refine AW_reg TB (fun D K hD hK => ?_)
    simp only [AwS, TS, binI, runR, runD, ostep, ostepB, aop, aopB, dstOk, aeff, aval, St.ev, alook, blook, aBox, AV.known, cav, St.app, tput, evs, evp, allKnown, gslot, min2, max2, AV.cs, AV.cell, loadC, aField, aIndex, TD.elem, TD.isAgg, TD.isInt, aSlice, aBound, aLen, aBuild, aFill, placesOf, bytesOf, aBin, aEql, TI.one, eqS, eqL, fits, srcOf, dstOf, killK, replZ, spl, splice, AV.tops, Tk.foot, addFoot, fine, apart, disj, St.behind, St.behindB, zipIo, newIo, gMap, ioMap, AV.map, AVs.map, nmap, ↓reduceIte, Nat.reduceAdd, Nat.reduceMul, Nat.reduceSub, Nat.reduceMod, Nat.reduceDiv, Nat.reduceEqDiff, Nat.reduceLT, Nat.reduceLeDiff, Nat.reduceBEq, Nat.reduceBNe, Int.reduceAdd, Int.reduceMul, Int.reduceSub, Int.reduceNeg, Int.reduceLT, Int.reduceLE, Int.reduceEq, Int.reduceToNat, reduceCtorEq, bind, x5]
    refine hD _ ?_
    clear hD hK D K
    refine AW_seq ?_
    refine AW_reg TB (fun D K hD hK => ?_)
    simp only [AwS, TS, binI, runR, runD, ostep, ostepB, aop, aopB, dstOk, aeff, aval, St.ev, alook, blook, aBox, AV.known, cav, St.app, tput, evs, evp, allKnown, gslot, min2, max2, AV.cs, AV.cell, loadC, aField, aIndex, TD.elem, TD.isAgg, TD.isInt, aSlice, aBound, aLen, aBuild, aFill, placesOf, bytesOf, aBin, aEql, TI.one, eqS, eqL, fits, srcOf, dstOf, killK, replZ, spl, splice, AV.tops, Tk.foot, addFoot, fine, apart, disj, St.behind, St.behindB, zipIo, newIo, gMap, ioMap, AV.map, AVs.map, nmap, ↓reduceIte, Nat.reduceAdd, Nat.reduceMul, Nat.reduceSub, Nat.reduceMod, Nat.reduceDiv, Nat.reduceEqDiff, Nat.reduceLT, Nat.reduceLeDiff, Nat.reduceBEq, Nat.reduceBNe, Int.reduceAdd, Int.reduceMul, Int.reduceSub, Int.reduceNeg, Int.reduceLT, Int.reduceLE, Int.reduceEq, Int.reduceToNat, reduceCtorEq, bind, y1]
    refine hD _ ?_
    clear hD hK D K
    refine AW_true rfl ?_
    refine AW_regl TB (fun D K hD hK => ?_)
    simp only [AwS, TS, binI, runR, runD, ostep, ostepB, aop, aopB, dstOk, aeff, aval, St.ev, alook, blook, aBox, AV.known, cav, St.app, tput, evs, evp, allKnown, gslot, min2, max2, AV.cs, AV.cell, loadC, aField, aIndex, TD.elem, TD.isAgg, TD.isInt, aSlice, aBound, aLen, aBuild, aFill, placesOf, bytesOf, aBin, aEql, TI.one, eqS, eqL, fits, srcOf, dstOf, killK, replZ, spl, splice, AV.tops, Tk.foot, addFoot, fine, apart, disj, St.behind, St.behindB, zipIo, newIo, gMap, ioMap, AV.map, AVs.map, nmap, ↓reduceIte, Nat.reduceAdd, Nat.reduceMul, Nat.reduceSub, Nat.reduceMod, Nat.reduceDiv, Nat.reduceEqDiff, Nat.reduceLT, Nat.reduceLeDiff, Nat.reduceBEq, Nat.reduceBNe, Int.reduceAdd, Int.reduceMul, Int.reduceSub, Int.reduceNeg, Int.reduceLT, Int.reduceLE, Int.reduceEq, Int.reduceToNat, reduceCtorEq, bind, x6]
    refine hD _ ?_
    clear hD hK D K
    simp only [seqQ]
    refine AW_reg TB (fun D K hD hK => ?_)
    simp only [AwS, TS, binI, runR, runD, ostep, ostepB, aop, aopB, dstOk, aeff, aval, St.ev, alook, blook, aBox, AV.known, cav, St.app, tput, evs, evp, allKnown, gslot, min2, max2, AV.cs, AV.cell, loadC, aField, aIndex, TD.elem, TD.isAgg, TD.isInt, aSlice, aBound, aLen, aBuild, aFill, placesOf, bytesOf, aBin, aEql, TI.one, eqS, eqL, fits, srcOf, dstOf, killK, replZ, spl, splice, AV.tops, Tk.foot, addFoot, fine, apart, disj, St.behind, St.behindB, zipIo, newIo, gMap, ioMap, AV.map, AVs.map, nmap, ↓reduceIte, Nat.reduceAdd, Nat.reduceMul, Nat.reduceSub, Nat.reduceMod, Nat.reduceDiv, Nat.reduceEqDiff, Nat.reduceLT, Nat.reduceLeDiff, Nat.reduceBEq, Nat.reduceBNe, Int.reduceAdd, Int.reduceMul, Int.reduceSub, Int.reduceNeg, Int.reduceLT, Int.reduceLE, Int.reduceEq, Int.reduceToNat, reduceCtorEq, bind]
    refine hK _ _ ?_
    clear hD hK D K
    refine AL_callP rfl rfl rfl rfl en_16 (exec_run (bits := l.length / 3) (c := cellsL l false) okt (by omega) hlen e2) [] ?_ (by simp) rfl ?_ ?_
    · simp [evs, St.ev, cav, alook, lendA, lentBx, lendC, blook, AVs.map, AV.map, ioMap, fzA, yvs_map, Ses.cs]
    · simp only [AV.map, RunR.flat _ _]
    simp only [RunR.cs]
    refine AL_runR TB _ _ (fun D K hD hK => ?_)
    simp only [AwS, TS, binI, runR, runD, ostep, ostepB, aop, aopB, dstOk, aeff, aval, St.ev, alook, blook, aBox, AV.known, cav, St.app, tput, evs, evp, allKnown, gslot, min2, max2, AV.cs, AV.cell, loadC, aField, aIndex, TD.elem, TD.isAgg, TD.isInt, aSlice, aBound, aLen, aBuild, aFill, placesOf, bytesOf, aBin, aEql, TI.one, eqS, eqL, fits, srcOf, dstOf, killK, replZ, spl, splice, AV.tops, Tk.foot, addFoot, fine, apart, disj, St.behind, St.behindB, zipIo, newIo, gMap, ioMap, AV.map, AVs.map, nmap, ↓reduceIte, Nat.reduceAdd, Nat.reduceMul, Nat.reduceSub, Nat.reduceMod, Nat.reduceDiv, Nat.reduceEqDiff, Nat.reduceLT, Nat.reduceLeDiff, Nat.reduceBEq, Nat.reduceBNe, Int.reduceAdd, Int.reduceMul, Int.reduceSub, Int.reduceNeg, Int.reduceLT, Int.reduceLE, Int.reduceEq, Int.reduceToNat, reduceCtorEq, bind]
    refine hD _ ?_
    clear hD hK D K
    simp only [seqQ]
    refine AW_dreg TB mx ([[], [0], [], [2], [1, 0, 3, 2], [], [5], [6, 5], [4, 1, 0, 3, 2, 7, 6, 5], [8, 4, 1, 0, 3, 2, 7, 6, 5], [9, 8, 4, 1, 0, 3, 2, 7, 6, 5], [10, 9, 8, 4, 1, 0, 3, 2, 7, 6, 5]]) (by kernel_rfl) (by kernel_rfl) (fun D K hD hK => ?_)
    simp only [AwS, TS, binI, runR, runD, ostep, ostepB, aop, aopB, dstOk, aeff, aval, St.ev, alook, blook, aBox, AV.known, cav, St.app, tput, evs, evp, allKnown, gslot, min2, max2, AV.cs, AV.cell, loadC, aField, aIndex, TD.elem, TD.isAgg, TD.isInt, aSlice, aBound, aLen, aBuild, aFill, placesOf, bytesOf, aBin, aEql, TI.one, eqS, eqL, fits, srcOf, dstOf, killK, replZ, spl, splice, AV.tops, Tk.foot, addFoot, fine, apart, disj, St.behind, St.behindB, zipIo, newIo, gMap, ioMap, AV.map, AVs.map, nmap, ↓reduceIte, Nat.reduceAdd, Nat.reduceMul, Nat.reduceSub, Nat.reduceMod, Nat.reduceDiv, Nat.reduceEqDiff, Nat.reduceLT, Nat.reduceLeDiff, Nat.reduceBEq, Nat.reduceBNe, Int.reduceAdd, Int.reduceMul, Int.reduceSub, Int.reduceNeg, Int.reduceLT, Int.reduceLE, Int.reduceEq, Int.reduceToNat, reduceCtorEq, bind, Op.operands, Call.operands, List.toList_toArray, List.size_toArray, cmp, List.getD_cons_zero, List.getD_cons_succ, Array.toList_append, Option.toArray, List.append_toArray,  x1, x2, x3, x4, x7, x8, x9]
    refine hD _ ?_
    clear hD hK D K
    rw [x9]
    rcases hj with hj | hj
    · have z1 : (o.2 = 0) = False := by simp; exact hj
      refine AW_reg TB (fun D K hD hK => ?_)
      simp only [AwS, TS, binI, runR, runD, ostep, ostepB, aop, aopB, dstOk, aeff, aval, St.ev, alook, blook, aBox, AV.known, cav, St.app, tput, evs, evp, allKnown, gslot, min2, max2, AV.cs, AV.cell, loadC, aField, aIndex, TD.elem, TD.isAgg, TD.isInt, aSlice, aBound, aLen, aBuild, aFill, placesOf, bytesOf, aBin, aEql, TI.one, eqS, eqL, fits, srcOf, dstOf, killK, replZ, spl, splice, AV.tops, Tk.foot, addFoot, fine, apart, disj, St.behind, St.behindB, zipIo, newIo, gMap, ioMap, AV.map, AVs.map, nmap, ↓reduceIte, Nat.reduceAdd, Nat.reduceMul, Nat.reduceSub, Nat.reduceMod, Nat.reduceDiv, Nat.reduceEqDiff, Nat.reduceLT, Nat.reduceLeDiff, Nat.reduceBEq, Nat.reduceBNe, Int.reduceAdd, Int.reduceMul, Int.reduceSub, Int.reduceNeg, Int.reduceLT, Int.reduceLE, Int.reduceEq, Int.reduceToNat, reduceCtorEq, bind, z1, x9]
      refine hD _ ?_
      clear hD hK D K
      refine AW_ret ?_
      simp only [Ret, blockQ, kQ, loopQ, seqQ, scopeQ, ↓reduceIte]
      exact retp (bv true) rfl rfl rfl rfl
    · have z2 : IntKind.i64.wrap (((6 * n + 3 : Nat) : Int) + ((6 * ((Ses.mk true t []).tn (l.length / 3) - n) : Nat) : Int)) = (j : Int) := by rw [wrap_i64 (by omega) (by omega)]; omega
      by_cases hz : o.2 = 0
      · refine AW_reg TB (fun D K hD hK => ?_)
        simp only [AwS, TS, binI, runR, runD, ostep, ostepB, aop, aopB, dstOk, aeff, aval, St.ev, alook, blook, aBox, AV.known, cav, St.app, tput, evs, evp, allKnown, gslot, min2, max2, AV.cs, AV.cell, loadC, aField, aIndex, TD.elem, TD.isAgg, TD.isInt, aSlice, aBound, aLen, aBuild, aFill, placesOf, bytesOf, aBin, aEql, TI.one, eqS, eqL, fits, srcOf, dstOf, killK, replZ, spl, splice, AV.tops, Tk.foot, addFoot, fine, apart, disj, St.behind, St.behindB, zipIo, newIo, gMap, ioMap, AV.map, AVs.map, nmap, ↓reduceIte, Nat.reduceAdd, Nat.reduceMul, Nat.reduceSub, Nat.reduceMod, Nat.reduceDiv, Nat.reduceEqDiff, Nat.reduceLT, Nat.reduceLeDiff, Nat.reduceBEq, Nat.reduceBNe, Int.reduceAdd, Int.reduceMul, Int.reduceSub, Int.reduceNeg, Int.reduceLT, Int.reduceLE, Int.reduceEq, Int.reduceToNat, reduceCtorEq, bind, hz, z2]
        refine hD _ ?_
        clear hD hK D K
        refine AW_ret ?_
        simp only [Ret, blockQ, kQ, loopQ, seqQ, scopeQ, ↓reduceIte]
        exact retp (bv true) rfl rfl rfl rfl
      · refine AW_reg TB (fun D K hD hK => ?_)
        simp only [AwS, TS, binI, runR, runD, ostep, ostepB, aop, aopB, dstOk, aeff, aval, St.ev, alook, blook, aBox, AV.known, cav, St.app, tput, evs, evp, allKnown, gslot, min2, max2, AV.cs, AV.cell, loadC, aField, aIndex, TD.elem, TD.isAgg, TD.isInt, aSlice, aBound, aLen, aBuild, aFill, placesOf, bytesOf, aBin, aEql, TI.one, eqS, eqL, fits, srcOf, dstOf, killK, replZ, spl, splice, AV.tops, Tk.foot, addFoot, fine, apart, disj, St.behind, St.behindB, zipIo, newIo, gMap, ioMap, AV.map, AVs.map, nmap, ↓reduceIte, Nat.reduceAdd, Nat.reduceMul, Nat.reduceSub, Nat.reduceMod, Nat.reduceDiv, Nat.reduceEqDiff, Nat.reduceLT, Nat.reduceLeDiff, Nat.reduceBEq, Nat.reduceBNe, Int.reduceAdd, Int.reduceMul, Int.reduceSub, Int.reduceNeg, Int.reduceLT, Int.reduceLE, Int.reduceEq, Int.reduceToNat, reduceCtorEq, bind, hz, z2]
        refine hD _ ?_
        clear hD hK D K
        refine AW_ret ?_
        simp only [Ret, blockQ, kQ, loopQ, seqQ, scopeQ, ↓reduceIte]
        exact retp (bv true) rfl rfl rfl rfl
  · have y1 : ((n : Int) < ((l.length / 3 : Nat) : Int)) = False := by simp; omega
    rw [if_neg hnb] at e1 hj
    simp only [Nat.add_zero] at e1 hj
    refine AW_reg TB (fun D K hD hK => ?_)
    simp only [AwS, TS, binI, runR, runD, ostep, ostepB, aop, aopB, dstOk, aeff, aval, St.ev, alook, blook, aBox, AV.known, cav, St.app, tput, evs, evp, allKnown, gslot, min2, max2, AV.cs, AV.cell, loadC, aField, aIndex, TD.elem, TD.isAgg, TD.isInt, aSlice, aBound, aLen, aBuild, aFill, placesOf, bytesOf, aBin, aEql, TI.one, eqS, eqL, fits, srcOf, dstOf, killK, replZ, spl, splice, AV.tops, Tk.foot, addFoot, fine, apart, disj, St.behind, St.behindB, zipIo, newIo, gMap, ioMap, AV.map, AVs.map, nmap, ↓reduceIte, Nat.reduceAdd, Nat.reduceMul, Nat.reduceSub, Nat.reduceMod, Nat.reduceDiv, Nat.reduceEqDiff, Nat.reduceLT, Nat.reduceLeDiff, Nat.reduceBEq, Nat.reduceBNe, Int.reduceAdd, Int.reduceMul, Int.reduceSub, Int.reduceNeg, Int.reduceLT, Int.reduceLE, Int.reduceEq, Int.reduceToNat, reduceCtorEq, bind]
    refine hK _ _ ?_
    clear hD hK D K
    refine AL_callP rfl rfl rfl rfl en_16 (exec_run (bits := l.length / 3) (c := cellsL l false) ok0 (by omega) hlen e1) [] ?_ (by simp) rfl ?_ ?_
    · simp [evs, St.ev, cav, alook, lendA, lentBx, lendC, blook, AVs.map, AV.map, ioMap, fzA, yvs_map, Ses.cs]
    · simp only [AV.map, RunR.flat _ _]
    simp only [RunR.cs]
    refine AL_runR TB _ _ (fun D K hD hK => ?_)
    simp only [AwS, TS, binI, runR, runD, ostep, ostepB, aop, aopB, dstOk, aeff, aval, St.ev, alook, blook, aBox, AV.known, cav, St.app, tput, evs, evp, allKnown, gslot, min2, max2, AV.cs, AV.cell, loadC, aField, aIndex, TD.elem, TD.isAgg, TD.isInt, aSlice, aBound, aLen, aBuild, aFill, placesOf, bytesOf, aBin, aEql, TI.one, eqS, eqL, fits, srcOf, dstOf, killK, replZ, spl, splice, AV.tops, Tk.foot, addFoot, fine, apart, disj, St.behind, St.behindB, zipIo, newIo, gMap, ioMap, AV.map, AVs.map, nmap, ↓reduceIte, Nat.reduceAdd, Nat.reduceMul, Nat.reduceSub, Nat.reduceMod, Nat.reduceDiv, Nat.reduceEqDiff, Nat.reduceLT, Nat.reduceLeDiff, Nat.reduceBEq, Nat.reduceBNe, Int.reduceAdd, Int.reduceMul, Int.reduceSub, Int.reduceNeg, Int.reduceLT, Int.reduceLE, Int.reduceEq, Int.reduceToNat, reduceCtorEq, bind]
    refine hD _ ?_
    clear hD hK D K
    simp only [seqQ]
    refine AW_reg TB (fun D K hD hK => ?_)
    simp only [AwS, TS, binI, runR, runD, ostep, ostepB, aop, aopB, dstOk, aeff, aval, St.ev, alook, blook, aBox, AV.known, cav, St.app, tput, evs, evp, allKnown, gslot, min2, max2, AV.cs, AV.cell, loadC, aField, aIndex, TD.elem, TD.isAgg, TD.isInt, aSlice, aBound, aLen, aBuild, aFill, placesOf, bytesOf, aBin, aEql, TI.one, eqS, eqL, fits, srcOf, dstOf, killK, replZ, spl, splice, AV.tops, Tk.foot, addFoot, fine, apart, disj, St.behind, St.behindB, zipIo, newIo, gMap, ioMap, AV.map, AVs.map, nmap, ↓reduceIte, Nat.reduceAdd, Nat.reduceMul, Nat.reduceSub, Nat.reduceMod, Nat.reduceDiv, Nat.reduceEqDiff, Nat.reduceLT, Nat.reduceLeDiff, Nat.reduceBEq, Nat.reduceBNe, Int.reduceAdd, Int.reduceMul, Int.reduceSub, Int.reduceNeg, Int.reduceLT, Int.reduceLE, Int.reduceEq, Int.reduceToNat, reduceCtorEq, bind, x5]
    refine hD _ ?_
    clear hD hK D K
    refine AW_seq ?_
    refine AW_reg TB (fun D K hD hK => ?_)
    simp only [AwS, TS, binI, runR, runD, ostep, ostepB, aop, aopB, dstOk, aeff, aval, St.ev, alook, blook, aBox, AV.known, cav, St.app, tput, evs, evp, allKnown, gslot, min2, max2, AV.cs, AV.cell, loadC, aField, aIndex, TD.elem, TD.isAgg, TD.isInt, aSlice, aBound, aLen, aBuild, aFill, placesOf, bytesOf, aBin, aEql, TI.one, eqS, eqL, fits, srcOf, dstOf, killK, replZ, spl, splice, AV.tops, Tk.foot, addFoot, fine, apart, disj, St.behind, St.behindB, zipIo, newIo, gMap, ioMap, AV.map, AVs.map, nmap, ↓reduceIte, Nat.reduceAdd, Nat.reduceMul, Nat.reduceSub, Nat.reduceMod, Nat.reduceDiv, Nat.reduceEqDiff, Nat.reduceLT, Nat.reduceLeDiff, Nat.reduceBEq, Nat.reduceBNe, Int.reduceAdd, Int.reduceMul, Int.reduceSub, Int.reduceNeg, Int.reduceLT, Int.reduceLE, Int.reduceEq, Int.reduceToNat, reduceCtorEq, bind, y1]
    refine hD _ ?_
    clear hD hK D K
    refine AW_false rfl (AW_skip ?_)
    simp only [seqQ]
    refine AW_reg TB (fun D K hD hK => ?_)
    simp only [AwS, TS, binI, runR, runD, ostep, ostepB, aop, aopB, dstOk, aeff, aval, St.ev, alook, blook, aBox, AV.known, cav, St.app, tput, evs, evp, allKnown, gslot, min2, max2, AV.cs, AV.cell, loadC, aField, aIndex, TD.elem, TD.isAgg, TD.isInt, aSlice, aBound, aLen, aBuild, aFill, placesOf, bytesOf, aBin, aEql, TI.one, eqS, eqL, fits, srcOf, dstOf, killK, replZ, spl, splice, AV.tops, Tk.foot, addFoot, fine, apart, disj, St.behind, St.behindB, zipIo, newIo, gMap, ioMap, AV.map, AVs.map, nmap, ↓reduceIte, Nat.reduceAdd, Nat.reduceMul, Nat.reduceSub, Nat.reduceMod, Nat.reduceDiv, Nat.reduceEqDiff, Nat.reduceLT, Nat.reduceLeDiff, Nat.reduceBEq, Nat.reduceBNe, Int.reduceAdd, Int.reduceMul, Int.reduceSub, Int.reduceNeg, Int.reduceLT, Int.reduceLE, Int.reduceEq, Int.reduceToNat, reduceCtorEq, bind]
    refine hK _ _ ?_
    clear hD hK D K
    refine AL_callP rfl rfl rfl rfl en_16 (exec_run (bits := l.length / 3) (c := cellsL l false) okt (by omega) hlen e2) [] ?_ (by simp) rfl ?_ ?_
    · simp [evs, St.ev, cav, alook, lendA, lentBx, lendC, blook, AVs.map, AV.map, ioMap, fzA, yvs_map, Ses.cs]
    · simp only [AV.map, RunR.flat _ _]
    simp only [RunR.cs]
    refine AL_runR TB _ _ (fun D K hD hK => ?_)
    simp only [AwS, TS, binI, runR, runD, ostep, ostepB, aop, aopB, dstOk, aeff, aval, St.ev, alook, blook, aBox, AV.known, cav, St.app, tput, evs, evp, allKnown, gslot, min2, max2, AV.cs, AV.cell, loadC, aField, aIndex, TD.elem, TD.isAgg, TD.isInt, aSlice, aBound, aLen, aBuild, aFill, placesOf, bytesOf, aBin, aEql, TI.one, eqS, eqL, fits, srcOf, dstOf, killK, replZ, spl, splice, AV.tops, Tk.foot, addFoot, fine, apart, disj, St.behind, St.behindB, zipIo, newIo, gMap, ioMap, AV.map, AVs.map, nmap, ↓reduceIte, Nat.reduceAdd, Nat.reduceMul, Nat.reduceSub, Nat.reduceMod, Nat.reduceDiv, Nat.reduceEqDiff, Nat.reduceLT, Nat.reduceLeDiff, Nat.reduceBEq, Nat.reduceBNe, Int.reduceAdd, Int.reduceMul, Int.reduceSub, Int.reduceNeg, Int.reduceLT, Int.reduceLE, Int.reduceEq, Int.reduceToNat, reduceCtorEq, bind]
    refine hD _ ?_
    clear hD hK D K
    simp only [seqQ]
    refine AW_dreg TB mx ([[], [0], [], [2], [1, 0, 3, 2], [], [5], [6, 5], [4, 1, 0, 3, 2, 7, 6, 5], [8, 4, 1, 0, 3, 2, 7, 6, 5], [9, 8, 4, 1, 0, 3, 2, 7, 6, 5], [10, 9, 8, 4, 1, 0, 3, 2, 7, 6, 5]]) (by kernel_rfl) (by kernel_rfl) (fun D K hD hK => ?_)
    simp only [AwS, TS, binI, runR, runD, ostep, ostepB, aop, aopB, dstOk, aeff, aval, St.ev, alook, blook, aBox, AV.known, cav, St.app, tput, evs, evp, allKnown, gslot, min2, max2, AV.cs, AV.cell, loadC, aField, aIndex, TD.elem, TD.isAgg, TD.isInt, aSlice, aBound, aLen, aBuild, aFill, placesOf, bytesOf, aBin, aEql, TI.one, eqS, eqL, fits, srcOf, dstOf, killK, replZ, spl, splice, AV.tops, Tk.foot, addFoot, fine, apart, disj, St.behind, St.behindB, zipIo, newIo, gMap, ioMap, AV.map, AVs.map, nmap, ↓reduceIte, Nat.reduceAdd, Nat.reduceMul, Nat.reduceSub, Nat.reduceMod, Nat.reduceDiv, Nat.reduceEqDiff, Nat.reduceLT, Nat.reduceLeDiff, Nat.reduceBEq, Nat.reduceBNe, Int.reduceAdd, Int.reduceMul, Int.reduceSub, Int.reduceNeg, Int.reduceLT, Int.reduceLE, Int.reduceEq, Int.reduceToNat, reduceCtorEq, bind, Op.operands, Call.operands, List.toList_toArray, List.size_toArray, cmp, List.getD_cons_zero, List.getD_cons_succ, Array.toList_append, Option.toArray, List.append_toArray,  x1, x2, x3, x4, x7, x8, x9]
    refine hD _ ?_
    clear hD hK D K
    rw [x9]
    rcases hj with hj | hj
    · have z1 : (o.2 = 0) = False := by simp; exact hj
      refine AW_reg TB (fun D K hD hK => ?_)
      simp only [AwS, TS, binI, runR, runD, ostep, ostepB, aop, aopB, dstOk, aeff, aval, St.ev, alook, blook, aBox, AV.known, cav, St.app, tput, evs, evp, allKnown, gslot, min2, max2, AV.cs, AV.cell, loadC, aField, aIndex, TD.elem, TD.isAgg, TD.isInt, aSlice, aBound, aLen, aBuild, aFill, placesOf, bytesOf, aBin, aEql, TI.one, eqS, eqL, fits, srcOf, dstOf, killK, replZ, spl, splice, AV.tops, Tk.foot, addFoot, fine, apart, disj, St.behind, St.behindB, zipIo, newIo, gMap, ioMap, AV.map, AVs.map, nmap, ↓reduceIte, Nat.reduceAdd, Nat.reduceMul, Nat.reduceSub, Nat.reduceMod, Nat.reduceDiv, Nat.reduceEqDiff, Nat.reduceLT, Nat.reduceLeDiff, Nat.reduceBEq, Nat.reduceBNe, Int.reduceAdd, Int.reduceMul, Int.reduceSub, Int.reduceNeg, Int.reduceLT, Int.reduceLE, Int.reduceEq, Int.reduceToNat, reduceCtorEq, bind, z1, x9]
      refine hD _ ?_
      clear hD hK D K
      refine AW_ret ?_
      simp only [Ret, blockQ, kQ, loopQ, seqQ, scopeQ, ↓reduceIte]
      exact retp (bv true) rfl rfl rfl rfl
    · have z2 : IntKind.i64.wrap (((6 * n : Nat) : Int) + ((6 * ((Ses.mk true t []).tn (l.length / 3) - n) : Nat) : Int)) = (j : Int) := by rw [wrap_i64 (by omega) (by omega)]; omega
      by_cases hz : o.2 = 0
      · refine AW_reg TB (fun D K hD hK => ?_)
        simp only [AwS, TS, binI, runR, runD, ostep, ostepB, aop, aopB, dstOk, aeff, aval, St.ev, alook, blook, aBox, AV.known, cav, St.app, tput, evs, evp, allKnown, gslot, min2, max2, AV.cs, AV.cell, loadC, aField, aIndex, TD.elem, TD.isAgg, TD.isInt, aSlice, aBound, aLen, aBuild, aFill, placesOf, bytesOf, aBin, aEql, TI.one, eqS, eqL, fits, srcOf, dstOf, killK, replZ, spl, splice, AV.tops, Tk.foot, addFoot, fine, apart, disj, St.behind, St.behindB, zipIo, newIo, gMap, ioMap, AV.map, AVs.map, nmap, ↓reduceIte, Nat.reduceAdd, Nat.reduceMul, Nat.reduceSub, Nat.reduceMod, Nat.reduceDiv, Nat.reduceEqDiff, Nat.reduceLT, Nat.reduceLeDiff, Nat.reduceBEq, Nat.reduceBNe, Int.reduceAdd, Int.reduceMul, Int.reduceSub, Int.reduceNeg, Int.reduceLT, Int.reduceLE, Int.reduceEq, Int.reduceToNat, reduceCtorEq, bind, hz, z2]
        refine hD _ ?_
        clear hD hK D K
        refine AW_ret ?_
        simp only [Ret, blockQ, kQ, loopQ, seqQ, scopeQ, ↓reduceIte]
        exact retp (bv true) rfl rfl rfl rfl
      · refine AW_reg TB (fun D K hD hK => ?_)
        simp only [AwS, TS, binI, runR, runD, ostep, ostepB, aop, aopB, dstOk, aeff, aval, St.ev, alook, blook, aBox, AV.known, cav, St.app, tput, evs, evp, allKnown, gslot, min2, max2, AV.cs, AV.cell, loadC, aField, aIndex, TD.elem, TD.isAgg, TD.isInt, aSlice, aBound, aLen, aBuild, aFill, placesOf, bytesOf, aBin, aEql, TI.one, eqS, eqL, fits, srcOf, dstOf, killK, replZ, spl, splice, AV.tops, Tk.foot, addFoot, fine, apart, disj, St.behind, St.behindB, zipIo, newIo, gMap, ioMap, AV.map, AVs.map, nmap, ↓reduceIte, Nat.reduceAdd, Nat.reduceMul, Nat.reduceSub, Nat.reduceMod, Nat.reduceDiv, Nat.reduceEqDiff, Nat.reduceLT, Nat.reduceLeDiff, Nat.reduceBEq, Nat.reduceBNe, Int.reduceAdd, Int.reduceMul, Int.reduceSub, Int.reduceNeg, Int.reduceLT, Int.reduceLE, Int.reduceEq, Int.reduceToNat, reduceCtorEq, bind, hz, z2]
        refine hD _ ?_
        clear hD hK D K
        refine AW_ret ?_
        simp only [Ret, blockQ, kQ, loopQ, seqQ, scopeQ, ↓reduceIte]
        exact retp (bv true) rfl rfl rfl rfl
end Go.Proofs.Ytdnmnafadondkaa
