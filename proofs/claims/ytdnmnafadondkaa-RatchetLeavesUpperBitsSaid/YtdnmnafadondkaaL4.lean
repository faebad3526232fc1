/- The walks of the laws RatchetWornOnlyIfStuck and RatchetLeavesUpperBits. No condition. -/
import Derived.Test.YtdnmnafadondkaaL3
set_option linter.unusedVariables false
set_option linter.unusedSimpArgs false
set_option maxRecDepth 100000
namespace Go.Proofs.Ytdnmnafadondkaa
open Go Go.RowKit

/-- How many of a bit's first i cells are stuck. -/
def stc (c : List Int) (r : Nat) : Nat → Nat
  | 0 => 0
  | i + 1 => stc c r i + if c.getD (3 * r + i) 0 = 3 then 1 else 0
theorem stc_le (c : List Int) (r : Nat) : ∀ i, stc c r i ≤ i
  | 0 => Nat.le_refl _
  | i + 1 => by have := stc_le c r i; unfold stc; split <;> omega

def woF (c c' : List Int) (r j : Nat) (i : Nat) : St :=
  { nt := 92, nx := 2, tm := [(10, iv i), (9, iv (stc c r i)), (8, .ptr 1 0), (6, .ptr 0 0), (5, bv true)], bx := [(0, some [.ds true 1 [.ds true c.length (c.map yv)]]), (1, some [.ds true 1 [.ds true c'.length (c'.map yv)], iv r, iv 12, bv true, iv j, bv false])], gl := [], df := [] }


theorem worn_spec (l : List Int) (t : Int) (hl : ∀ x ∈ l, 0 ≤ x ∧ x < 256) (hm : l.length ≤ maxLen) (ht : 0 ≤ t ∧ t < 256) : Spec Try.prog [] 6 [.ds true l.length (l.map yv), yv t] [] (fun o => o = .ret (bv true) [] []) := by
  refine spec_of TB 92 [.tmp 4] Try.func6 rfl rfl rfl (Nat.le_of_ble_eq_true rfl) ?_
  intro X w0 E0 hE hX
  simp only [idx, List.map_nil, List.length_nil]
  refine AW_reg TB (fun D K hD hK => ?_)
  simp only [AwS, TS, binI, runR, runD, ostep, ostepB, aop, aopB, dstOk, aeff, aval, St.ev, alook, blook, aBox, AV.known, cav, St.app, tput, evs, evp, allKnown, gslot, min2, max2, AV.cs, AV.cell, loadC, aField, aIndex, TD.elem, TD.isAgg, TD.isInt, aSlice, aBound, aLen, aBuild, aFill, placesOf, bytesOf, aBin, aEql, TI.one, eqS, eqL, fits, srcOf, dstOf, killK, replZ, spl, splice, AV.tops, Tk.foot, addFoot, fine, apart, disj, St.behind, St.behindB, zipIo, newIo, gMap, ioMap, AV.map, AVs.map, nmap, ↓reduceIte, Nat.reduceAdd, Nat.reduceMul, Nat.reduceSub, Nat.reduceMod, Nat.reduceDiv, Nat.reduceEqDiff, Nat.reduceLT, Nat.reduceLeDiff, Nat.reduceBEq, Nat.reduceBNe, Int.reduceAdd, Int.reduceMul, Int.reduceSub, Int.reduceNeg, Int.reduceLT, Int.reduceLE, Int.reduceEq, Int.reduceToNat, reduceCtorEq, bind]
  refine hD _ ?_
  clear hD hK D K
  refine AW_reg TB (fun D K hD hK => ?_)
  simp only [AwS, TS, binI, runR, runD, ostep, ostepB, aop, aopB, dstOk, aeff, aval, St.ev, alook, blook, aBox, AV.known, cav, St.app, tput, evs, evp, allKnown, gslot, min2, max2, AV.cs, AV.cell, loadC, aField, aIndex, TD.elem, TD.isAgg, TD.isInt, aSlice, aBound, aLen, aBuild, aFill, placesOf, bytesOf, aBin, aEql, TI.one, eqS, eqL, fits, srcOf, dstOf, killK, replZ, spl, splice, AV.tops, Tk.foot, addFoot, fine, apart, disj, St.behind, St.behindB, zipIo, newIo, gMap, ioMap, AV.map, AVs.map, nmap, ↓reduceIte, Nat.reduceAdd, Nat.reduceMul, Nat.reduceSub, Nat.reduceMod, Nat.reduceDiv, Nat.reduceEqDiff, Nat.reduceLT, Nat.reduceLeDiff, Nat.reduceBEq, Nat.reduceBNe, Int.reduceAdd, Int.reduceMul, Int.reduceSub, Int.reduceNeg, Int.reduceLT, Int.reduceLE, Int.reduceEq, Int.reduceToNat, reduceCtorEq, bind]
  refine hK _ _ ?_
  clear hD hK D K
  refine AL_callP rfl rfl rfl rfl en_9 sanity_spec [] ?_ (by simp) rfl rfl ?_
  · simp [evs, St.ev, cav, alook, lendA, lentBx, lendC, blook, AVs.map, AV.map, ioMap]
  refine AL_runR TB _ _ (fun D K hD hK => ?_)
  simp only [AwS, TS, binI, runR, runD, ostep, ostepB, aop, aopB, dstOk, aeff, aval, St.ev, alook, blook, aBox, AV.known, cav, St.app, tput, evs, evp, allKnown, gslot, min2, max2, AV.cs, AV.cell, loadC, aField, aIndex, TD.elem, TD.isAgg, TD.isInt, aSlice, aBound, aLen, aBuild, aFill, placesOf, bytesOf, aBin, aEql, TI.one, eqS, eqL, fits, srcOf, dstOf, killK, replZ, spl, splice, AV.tops, Tk.foot, addFoot, fine, apart, disj, St.behind, St.behindB, zipIo, newIo, gMap, ioMap, AV.map, AVs.map, nmap, ↓reduceIte, Nat.reduceAdd, Nat.reduceMul, Nat.reduceSub, Nat.reduceMod, Nat.reduceDiv, Nat.reduceEqDiff, Nat.reduceLT, Nat.reduceLeDiff, Nat.reduceBEq, Nat.reduceBNe, Int.reduceAdd, Int.reduceMul, Int.reduceSub, Int.reduceNeg, Int.reduceLT, Int.reduceLE, Int.reduceEq, Int.reduceToNat, reduceCtorEq, bind]
  refine hD _ ?_
  clear hD hK D K
  simp only [seqQ]
  refine AW_seq ?_
  refine AW_reg TB (fun D K hD hK => ?_)
  simp only [AwS, TS, binI, runR, runD, ostep, ostepB, aop, aopB, dstOk, aeff, aval, St.ev, alook, blook, aBox, AV.known, cav, St.app, tput, evs, evp, allKnown, gslot, min2, max2, AV.cs, AV.cell, loadC, aField, aIndex, TD.elem, TD.isAgg, TD.isInt, aSlice, aBound, aLen, aBuild, aFill, placesOf, bytesOf, aBin, aEql, TI.one, eqS, eqL, fits, srcOf, dstOf, killK, replZ, spl, splice, AV.tops, Tk.foot, addFoot, fine, apart, disj, St.behind, St.behindB, zipIo, newIo, gMap, ioMap, AV.map, AVs.map, nmap, ↓reduceIte, Nat.reduceAdd, Nat.reduceMul, Nat.reduceSub, Nat.reduceMod, Nat.reduceDiv, Nat.reduceEqDiff, Nat.reduceLT, Nat.reduceLeDiff, Nat.reduceBEq, Nat.reduceBNe, Int.reduceAdd, Int.reduceMul, Int.reduceSub, Int.reduceNeg, Int.reduceLT, Int.reduceLE, Int.reduceEq, Int.reduceToNat, reduceCtorEq, bind]
  refine hD _ ?_
  clear hD hK D K
  refine AW_cond rfl (fun h => ?_) (fun h => AW_skip ?_)
  · refine AW_reg TB (fun D K hD hK => ?_)
    simp only [AwS, TS, binI, runR, runD, ostep, ostepB, aop, aopB, dstOk, aeff, aval, St.ev, alook, blook, aBox, AV.known, cav, St.app, tput, evs, evp, allKnown, gslot, min2, max2, AV.cs, AV.cell, loadC, aField, aIndex, TD.elem, TD.isAgg, TD.isInt, aSlice, aBound, aLen, aBuild, aFill, placesOf, bytesOf, aBin, aEql, TI.one, eqS, eqL, fits, srcOf, dstOf, killK, replZ, spl, splice, AV.tops, Tk.foot, addFoot, fine, apart, disj, St.behind, St.behindB, zipIo, newIo, gMap, ioMap, AV.map, AVs.map, nmap, ↓reduceIte, Nat.reduceAdd, Nat.reduceMul, Nat.reduceSub, Nat.reduceMod, Nat.reduceDiv, Nat.reduceEqDiff, Nat.reduceLT, Nat.reduceLeDiff, Nat.reduceBEq, Nat.reduceBNe, Int.reduceAdd, Int.reduceMul, Int.reduceSub, Int.reduceNeg, Int.reduceLT, Int.reduceLE, Int.reduceEq, Int.reduceToNat, reduceCtorEq, bind]
    refine hD _ ?_
    clear hD hK D K
    refine AW_ret ?_
    simp only [Ret, blockQ, kQ, loopQ, seqQ, scopeQ, ↓reduceIte]
    exact retp (bv true) rfl rfl rfl rfl
  have hl48 : l.length ≤ 48 := by simp at h; omega
  have hB : l.length / 3 ≤ 16 := by omega
  have hlen := cellsL_len l false
  obtain ⟨r, e, c', j, e1, hres⟩ := worn (t := t) hB hlen (cellsL_rng hl)
  have htn := (Ses.mk true t []).tn_le (l.length / 3)
  have okt : Ses.ok ⟨true, t, []⟩ := ⟨ht.1, ht.2, by simp⟩
  have x1 : IntKind.i64.wrap t = t := wrap_i64 (by omega) (by omega)
  have x2 : IntKind.i64.wrap ((l.length / 3 : Nat) + 1 : Int) = (l.length / 3 : Nat) + 1 := wrap_i64 (by omega) (by omega)
  have x3 : (((l.length / 3 : Nat) : Int) + 1 = 0) = False := by simp; omega
  have x4 : t.tmod ((l.length / 3 : Nat) + 1 : Int) = (((Ses.mk true t []).tn (l.length / 3) : Nat) : Int) := by rw [Ses.tn_eq]; exact Int.tmod_eq_emod_of_nonneg ht.1
  simp only [seqQ]
  refine AW_reg TB (fun D K hD hK => ?_)
  simp only [AwS, TS, binI, runR, runD, ostep, ostepB, aop, aopB, dstOk, aeff, aval, St.ev, alook, blook, aBox, AV.known, cav, St.app, tput, evs, evp, allKnown, gslot, min2, max2, AV.cs, AV.cell, loadC, aField, aIndex, TD.elem, TD.isAgg, TD.isInt, aSlice, aBound, aLen, aBuild, aFill, placesOf, bytesOf, aBin, aEql, TI.one, eqS, eqL, fits, srcOf, dstOf, killK, replZ, spl, splice, AV.tops, Tk.foot, addFoot, fine, apart, disj, St.behind, St.behindB, zipIo, newIo, gMap, ioMap, AV.map, AVs.map, nmap, ↓reduceIte, Nat.reduceAdd, Nat.reduceMul, Nat.reduceSub, Nat.reduceMod, Nat.reduceDiv, Nat.reduceEqDiff, Nat.reduceLT, Nat.reduceLeDiff, Nat.reduceBEq, Nat.reduceBNe, Int.reduceAdd, Int.reduceMul, Int.reduceSub, Int.reduceNeg, Int.reduceLT, Int.reduceLE, Int.reduceEq, Int.reduceToNat, reduceCtorEq, bind]
  refine hK _ _ ?_
  clear hD hK D K
  refine AL_callP rfl rfl rfl rfl en_15 (cells_spec true l false hl48 hl) [] ?_ (by simp) rfl ?_ ?_
  · simp [evs, St.ev, cav, alook, lendA, lentBx, lendC, blook, AVs.map, AV.map, ioMap, yvs_map]
  · simp only [AV.map, AVs.map, fzA_flat _ _]
  simp only [fzA]
  refine AL_runR TB _ _ (fun D K hD hK => ?_)
  simp only [AwS, TS, binI, runR, runD, ostep, ostepB, aop, aopB, dstOk, aeff, aval, St.ev, alook, blook, aBox, AV.known, cav, St.app, tput, evs, evp, allKnown, gslot, min2, max2, AV.cs, AV.cell, loadC, aField, aIndex, TD.elem, TD.isAgg, TD.isInt, aSlice, aBound, aLen, aBuild, aFill, placesOf, bytesOf, aBin, aEql, TI.one, eqS, eqL, fits, srcOf, dstOf, killK, replZ, spl, splice, AV.tops, Tk.foot, addFoot, fine, apart, disj, St.behind, St.behindB, zipIo, newIo, gMap, ioMap, AV.map, AVs.map, nmap, ↓reduceIte, Nat.reduceAdd, Nat.reduceMul, Nat.reduceSub, Nat.reduceMod, Nat.reduceDiv, Nat.reduceEqDiff, Nat.reduceLT, Nat.reduceLeDiff, Nat.reduceBEq, Nat.reduceBNe, Int.reduceAdd, Int.reduceMul, Int.reduceSub, Int.reduceNeg, Int.reduceLT, Int.reduceLE, Int.reduceEq, Int.reduceToNat, reduceCtorEq, bind]
  refine hD _ ?_
  clear hD hK D K
  simp only [seqQ]
  refine AW_reg TB (fun D K hD hK => ?_)
  simp only [AwS, TS, binI, runR, runD, ostep, ostepB, aop, aopB, dstOk, aeff, aval, St.ev, alook, blook, aBox, AV.known, cav, St.app, tput, evs, evp, allKnown, gslot, min2, max2, AV.cs, AV.cell, loadC, aField, aIndex, TD.elem, TD.isAgg, TD.isInt, aSlice, aBound, aLen, aBuild, aFill, placesOf, bytesOf, aBin, aEql, TI.one, eqS, eqL, fits, srcOf, dstOf, killK, replZ, spl, splice, AV.tops, Tk.foot, addFoot, fine, apart, disj, St.behind, St.behindB, zipIo, newIo, gMap, ioMap, AV.map, AVs.map, nmap, ↓reduceIte, Nat.reduceAdd, Nat.reduceMul, Nat.reduceSub, Nat.reduceMod, Nat.reduceDiv, Nat.reduceEqDiff, Nat.reduceLT, Nat.reduceLeDiff, Nat.reduceBEq, Nat.reduceBNe, Int.reduceAdd, Int.reduceMul, Int.reduceSub, Int.reduceNeg, Int.reduceLT, Int.reduceLE, Int.reduceEq, Int.reduceToNat, reduceCtorEq, bind]
  refine hK _ _ ?_
  clear hD hK D K
  refine AL_callP rfl rfl rfl rfl en_16 (exec_run (bits := l.length / 3) (c := cellsL l false) okt (by omega) hlen e1) [] ?_ (by simp) rfl ?_ ?_
  · simp [evs, St.ev, cav, alook, lendA, lentBx, lendC, blook, AVs.map, AV.map, ioMap, fzA, yvs_map, Ses.cs]
  · simp only [AV.map, RunR.flat _ _]
  simp only [RunR.cs]
  refine AL_runR TB _ _ (fun D K hD hK => ?_)
  simp only [AwS, TS, binI, runR, runD, ostep, ostepB, aop, aopB, dstOk, aeff, aval, St.ev, alook, blook, aBox, AV.known, cav, St.app, tput, evs, evp, allKnown, gslot, min2, max2, AV.cs, AV.cell, loadC, aField, aIndex, TD.elem, TD.isAgg, TD.isInt, aSlice, aBound, aLen, aBuild, aFill, placesOf, bytesOf, aBin, aEql, TI.one, eqS, eqL, fits, srcOf, dstOf, killK, replZ, spl, splice, AV.tops, Tk.foot, addFoot, fine, apart, disj, St.behind, St.behindB, zipIo, newIo, gMap, ioMap, AV.map, AVs.map, nmap, ↓reduceIte, Nat.reduceAdd, Nat.reduceMul, Nat.reduceSub, Nat.reduceMod, Nat.reduceDiv, Nat.reduceEqDiff, Nat.reduceLT, Nat.reduceLeDiff, Nat.reduceBEq, Nat.reduceBNe, Int.reduceAdd, Int.reduceMul, Int.reduceSub, Int.reduceNeg, Int.reduceLT, Int.reduceLE, Int.reduceEq, Int.reduceToNat, reduceCtorEq, bind]
  refine hD _ ?_
  clear hD hK D K
  simp only [seqQ]
  refine AW_seq ?_
  rcases hres with ⟨rfl, hr⟩ | ⟨rfl, hr, hst⟩
  · refine AW_reg TB (fun D K hD hK => ?_)
    simp only [AwS, TS, binI, runR, runD, ostep, ostepB, aop, aopB, dstOk, aeff, aval, St.ev, alook, blook, aBox, AV.known, cav, St.app, tput, evs, evp, allKnown, gslot, min2, max2, AV.cs, AV.cell, loadC, aField, aIndex, TD.elem, TD.isAgg, TD.isInt, aSlice, aBound, aLen, aBuild, aFill, placesOf, bytesOf, aBin, aEql, TI.one, eqS, eqL, fits, srcOf, dstOf, killK, replZ, spl, splice, AV.tops, Tk.foot, addFoot, fine, apart, disj, St.behind, St.behindB, zipIo, newIo, gMap, ioMap, AV.map, AVs.map, nmap, ↓reduceIte, Nat.reduceAdd, Nat.reduceMul, Nat.reduceSub, Nat.reduceMod, Nat.reduceDiv, Nat.reduceEqDiff, Nat.reduceLT, Nat.reduceLeDiff, Nat.reduceBEq, Nat.reduceBNe, Int.reduceAdd, Int.reduceMul, Int.reduceSub, Int.reduceNeg, Int.reduceLT, Int.reduceLE, Int.reduceEq, Int.reduceToNat, reduceCtorEq, bind]
    refine hD _ ?_
    clear hD hK D K
    refine AW_false rfl (AW_skip ?_)
    simp only [seqQ]
    refine AW_seq ?_
    refine AW_reg TB (fun D K hD hK => ?_)
    simp only [AwS, TS, binI, runR, runD, ostep, ostepB, aop, aopB, dstOk, aeff, aval, St.ev, alook, blook, aBox, AV.known, cav, St.app, tput, evs, evp, allKnown, gslot, min2, max2, AV.cs, AV.cell, loadC, aField, aIndex, TD.elem, TD.isAgg, TD.isInt, aSlice, aBound, aLen, aBuild, aFill, placesOf, bytesOf, aBin, aEql, TI.one, eqS, eqL, fits, srcOf, dstOf, killK, replZ, spl, splice, AV.tops, Tk.foot, addFoot, fine, apart, disj, St.behind, St.behindB, zipIo, newIo, gMap, ioMap, AV.map, AVs.map, nmap, ↓reduceIte, Nat.reduceAdd, Nat.reduceMul, Nat.reduceSub, Nat.reduceMod, Nat.reduceDiv, Nat.reduceEqDiff, Nat.reduceLT, Nat.reduceLeDiff, Nat.reduceBEq, Nat.reduceBNe, Int.reduceAdd, Int.reduceMul, Int.reduceSub, Int.reduceNeg, Int.reduceLT, Int.reduceLE, Int.reduceEq, Int.reduceToNat, reduceCtorEq, bind]
    refine hD _ ?_
    clear hD hK D K
    refine AW_true rfl ?_
    have x5 : ((r : Int) ≥ (((Ses.mk true t []).tn (l.length / 3) : Nat) : Int)) = True := by simp; omega
    refine AW_dreg TB mx ([[], [0], [1, 0], [2, 1, 0], [3, 2, 1, 0], [1, 0], [5, 1, 0], [1, 0], [7, 1, 0], [6, 5, 1, 0, 8, 7], [4, 3, 2, 1, 0, 9, 6, 5, 8, 7], [1, 0, 10, 4, 3, 2, 9, 6, 5, 8, 7], [11, 1, 0, 10, 4, 3, 2, 9, 6, 5, 8, 7]]) (by kernel_rfl) (by kernel_rfl) (fun D K hD hK => ?_)
    simp only [AwS, TS, binI, runR, runD, ostep, ostepB, aop, aopB, dstOk, aeff, aval, St.ev, alook, blook, aBox, AV.known, cav, St.app, tput, evs, evp, allKnown, gslot, min2, max2, AV.cs, AV.cell, loadC, aField, aIndex, TD.elem, TD.isAgg, TD.isInt, aSlice, aBound, aLen, aBuild, aFill, placesOf, bytesOf, aBin, aEql, TI.one, eqS, eqL, fits, srcOf, dstOf, killK, replZ, spl, splice, AV.tops, Tk.foot, addFoot, fine, apart, disj, St.behind, St.behindB, zipIo, newIo, gMap, ioMap, AV.map, AVs.map, nmap, ↓reduceIte, Nat.reduceAdd, Nat.reduceMul, Nat.reduceSub, Nat.reduceMod, Nat.reduceDiv, Nat.reduceEqDiff, Nat.reduceLT, Nat.reduceLeDiff, Nat.reduceBEq, Nat.reduceBNe, Int.reduceAdd, Int.reduceMul, Int.reduceSub, Int.reduceNeg, Int.reduceLT, Int.reduceLE, Int.reduceEq, Int.reduceToNat, reduceCtorEq, bind, Op.operands, Call.operands, List.toList_toArray, List.size_toArray, cmp, List.getD_cons_zero, List.getD_cons_succ, Array.toList_append, Option.toArray, List.append_toArray,  x1, x2, x3, x4, x5]
    refine hD _ ?_
    clear hD hK D K
    refine AW_ret ?_
    simp only [Ret, blockQ, kQ, loopQ, seqQ, scopeQ, ↓reduceIte]
    exact retp (bv true) rfl rfl rfl rfl
  · have y1 : ((r : Int) < 0) = False := by simp
    have y2 : ((r : Int) ≥ ((l.length / 3 : Nat) : Int)) = False := by simp; omega
    refine AW_reg TB (fun D K hD hK => ?_)
    simp only [AwS, TS, binI, runR, runD, ostep, ostepB, aop, aopB, dstOk, aeff, aval, St.ev, alook, blook, aBox, AV.known, cav, St.app, tput, evs, evp, allKnown, gslot, min2, max2, AV.cs, AV.cell, loadC, aField, aIndex, TD.elem, TD.isAgg, TD.isInt, aSlice, aBound, aLen, aBuild, aFill, placesOf, bytesOf, aBin, aEql, TI.one, eqS, eqL, fits, srcOf, dstOf, killK, replZ, spl, splice, AV.tops, Tk.foot, addFoot, fine, apart, disj, St.behind, St.behindB, zipIo, newIo, gMap, ioMap, AV.map, AVs.map, nmap, ↓reduceIte, Nat.reduceAdd, Nat.reduceMul, Nat.reduceSub, Nat.reduceMod, Nat.reduceDiv, Nat.reduceEqDiff, Nat.reduceLT, Nat.reduceLeDiff, Nat.reduceBEq, Nat.reduceBNe, Int.reduceAdd, Int.reduceMul, Int.reduceSub, Int.reduceNeg, Int.reduceLT, Int.reduceLE, Int.reduceEq, Int.reduceToNat, reduceCtorEq, bind]
    refine hD _ ?_
    clear hD hK D K
    refine AW_false rfl (AW_skip ?_)
    simp only [seqQ]
    refine AW_seq ?_
    refine AW_reg TB (fun D K hD hK => ?_)
    simp only [AwS, TS, binI, runR, runD, ostep, ostepB, aop, aopB, dstOk, aeff, aval, St.ev, alook, blook, aBox, AV.known, cav, St.app, tput, evs, evp, allKnown, gslot, min2, max2, AV.cs, AV.cell, loadC, aField, aIndex, TD.elem, TD.isAgg, TD.isInt, aSlice, aBound, aLen, aBuild, aFill, placesOf, bytesOf, aBin, aEql, TI.one, eqS, eqL, fits, srcOf, dstOf, killK, replZ, spl, splice, AV.tops, Tk.foot, addFoot, fine, apart, disj, St.behind, St.behindB, zipIo, newIo, gMap, ioMap, AV.map, AVs.map, nmap, ↓reduceIte, Nat.reduceAdd, Nat.reduceMul, Nat.reduceSub, Nat.reduceMod, Nat.reduceDiv, Nat.reduceEqDiff, Nat.reduceLT, Nat.reduceLeDiff, Nat.reduceBEq, Nat.reduceBNe, Int.reduceAdd, Int.reduceMul, Int.reduceSub, Int.reduceNeg, Int.reduceLT, Int.reduceLE, Int.reduceEq, Int.reduceToNat, reduceCtorEq, bind]
    refine hD _ ?_
    clear hD hK D K
    refine AW_false rfl (AW_skip ?_)
    simp only [seqQ]
    refine AW_seq ?_
    refine AW_reg TB (fun D K hD hK => ?_)
    simp only [AwS, TS, binI, runR, runD, ostep, ostepB, aop, aopB, dstOk, aeff, aval, St.ev, alook, blook, aBox, AV.known, cav, St.app, tput, evs, evp, allKnown, gslot, min2, max2, AV.cs, AV.cell, loadC, aField, aIndex, TD.elem, TD.isAgg, TD.isInt, aSlice, aBound, aLen, aBuild, aFill, placesOf, bytesOf, aBin, aEql, TI.one, eqS, eqL, fits, srcOf, dstOf, killK, replZ, spl, splice, AV.tops, Tk.foot, addFoot, fine, apart, disj, St.behind, St.behindB, zipIo, newIo, gMap, ioMap, AV.map, AVs.map, nmap, ↓reduceIte, Nat.reduceAdd, Nat.reduceMul, Nat.reduceSub, Nat.reduceMod, Nat.reduceDiv, Nat.reduceEqDiff, Nat.reduceLT, Nat.reduceLeDiff, Nat.reduceBEq, Nat.reduceBNe, Int.reduceAdd, Int.reduceMul, Int.reduceSub, Int.reduceNeg, Int.reduceLT, Int.reduceLE, Int.reduceEq, Int.reduceToNat, reduceCtorEq, bind, y1, y2]
    refine hD _ ?_
    clear hD hK D K
    refine AW_false rfl (AW_skip ?_)
    simp only [seqQ]
    refine AW_reg TB (fun D K hD hK => ?_)
    simp only [AwS, TS, binI, runR, runD, ostep, ostepB, aop, aopB, dstOk, aeff, aval, St.ev, alook, blook, aBox, AV.known, cav, St.app, tput, evs, evp, allKnown, gslot, min2, max2, AV.cs, AV.cell, loadC, aField, aIndex, TD.elem, TD.isAgg, TD.isInt, aSlice, aBound, aLen, aBuild, aFill, placesOf, bytesOf, aBin, aEql, TI.one, eqS, eqL, fits, srcOf, dstOf, killK, replZ, spl, splice, AV.tops, Tk.foot, addFoot, fine, apart, disj, St.behind, St.behindB, zipIo, newIo, gMap, ioMap, AV.map, AVs.map, nmap, ↓reduceIte, Nat.reduceAdd, Nat.reduceMul, Nat.reduceSub, Nat.reduceMod, Nat.reduceDiv, Nat.reduceEqDiff, Nat.reduceLT, Nat.reduceLeDiff, Nat.reduceBEq, Nat.reduceBNe, Int.reduceAdd, Int.reduceMul, Int.reduceSub, Int.reduceNeg, Int.reduceLT, Int.reduceLE, Int.reduceEq, Int.reduceToNat, reduceCtorEq, bind]
    refine hD _ ?_
    clear hD hK D K
    refine AW_seqk (fun K0 hK0 => ?_)
    refine AW_reg TB (fun D K hD hK => ?_)
    simp only [AwS, TS, binI, runR, runD, ostep, ostepB, aop, aopB, dstOk, aeff, aval, St.ev, alook, blook, aBox, AV.known, cav, St.app, tput, evs, evp, allKnown, gslot, min2, max2, AV.cs, AV.cell, loadC, aField, aIndex, TD.elem, TD.isAgg, TD.isInt, aSlice, aBound, aLen, aBuild, aFill, placesOf, bytesOf, aBin, aEql, TI.one, eqS, eqL, fits, srcOf, dstOf, killK, replZ, spl, splice, AV.tops, Tk.foot, addFoot, fine, apart, disj, St.behind, St.behindB, zipIo, newIo, gMap, ioMap, AV.map, AVs.map, nmap, ↓reduceIte, Nat.reduceAdd, Nat.reduceMul, Nat.reduceSub, Nat.reduceMod, Nat.reduceDiv, Nat.reduceEqDiff, Nat.reduceLT, Nat.reduceLeDiff, Nat.reduceBEq, Nat.reduceBNe, Int.reduceAdd, Int.reduceMul, Int.reduceSub, Int.reduceNeg, Int.reduceLT, Int.reduceLE, Int.reduceEq, Int.reduceToNat, reduceCtorEq, bind]
    refine hD _ ?_
    clear hD hK D K
    refine AW_block ?_
    have hst2 : 2 ≤ stc (cellsL l false) r 3 := by simp only [stc, Nat.add_zero, Nat.zero_add]; exact hst
    have hcl : (cellsL l false).length ≤ 48 := by omega
    refine AW_loop (woF (cellsL l false) c' r j) (fun i => i ≤ 3) (fun i => 3 - i) hE 0 [(0, 88), (1, 152)] (by omega) ?_ ?_
    · refine ⟨rfl, by simp [woF], ⟨rfl, rfl⟩, ?_, ?_, by simp [woF], by simp [woF, nmap], ?_⟩
      · simp [woF, alook, AV.map, AVs.map, nmap, AVs_map_append, ivs_map, yvs_map, yvs_map, stc]
      · simp [woF, blook, AV.map, AVs.map, nmap, AVs_map_append, ivs_map, yvs_map, yvs_map, stc]
      · intro k hk
        have hk2 : k < 0 := hk
        omega
    intro i hi
    simp only [woF]
    have v1 : IntKind.i64.wrap ((i : Int) + 1) = ((i + 1 : Nat) : Int) := by rw [wrap_i64 (by omega) (by omega)]; omega
    refine AW_seqk (fun K1 hK1 => ?_)
    refine AW_reg TB (fun D K hD hK => ?_)
    simp only [AwS, TS, binI, runR, runD, ostep, ostepB, aop, aopB, dstOk, aeff, aval, St.ev, alook, blook, aBox, AV.known, cav, St.app, tput, evs, evp, allKnown, gslot, min2, max2, AV.cs, AV.cell, loadC, aField, aIndex, TD.elem, TD.isAgg, TD.isInt, aSlice, aBound, aLen, aBuild, aFill, placesOf, bytesOf, aBin, aEql, TI.one, eqS, eqL, fits, srcOf, dstOf, killK, replZ, spl, splice, AV.tops, Tk.foot, addFoot, fine, apart, disj, St.behind, St.behindB, zipIo, newIo, gMap, ioMap, AV.map, AVs.map, nmap, ↓reduceIte, Nat.reduceAdd, Nat.reduceMul, Nat.reduceSub, Nat.reduceMod, Nat.reduceDiv, Nat.reduceEqDiff, Nat.reduceLT, Nat.reduceLeDiff, Nat.reduceBEq, Nat.reduceBNe, Int.reduceAdd, Int.reduceMul, Int.reduceSub, Int.reduceNeg, Int.reduceLT, Int.reduceLE, Int.reduceEq, Int.reduceToNat, reduceCtorEq, bind]
    refine hD _ ?_
    clear hD hK D K
    refine AW_cond rfl (fun h => AW_skip ?_) (fun h => AW_exit ?_)
    · have hi3 : i < 3 := by simp at h; omega
      have hx : 3 * r + i < (cellsL l false).length := by omega
      have u2 : IntKind.i64.wrap (3 * (r : Int)) = ((3 * r : Nat) : Int) := by rw [wrap_i64 (by omega) (by omega)]; omega
      have v2 : IntKind.i64.wrap (((3 * r : Nat) : Int) + i) = ((3 * r + i : Nat) : Int) := by rw [wrap_i64 (by omega) (by omega)]; omega
      have d1 : (0 ≤ ((3 * r + i : Nat) : Int) ∧ ((3 * r + i : Nat) : Int) < (cellsL l false).length) = True := by simp; omega
      have d2 : (List.drop (3 * r + i) ((cellsL l false).map yv))[0]? = some (yv (cellsL l false)[3 * r + i]) := by simp [hx]
      have g1 : (cellsL l false)[3 * r + i]?.getD 0 = (cellsL l false)[3 * r + i] := by rw [List.getElem?_eq_getElem hx]; rfl
      have hle := stc_le (cellsL l false) r i
      have v3 : IntKind.i64.wrap ((stc (cellsL l false) r i : Int) + 1) = ((stc (cellsL l false) r i + 1 : Nat) : Int) := by rw [wrap_i64 (by omega) (by omega)]; omega
      refine hK1 _ ?_
      refine AW_seqk (fun K2 hK2 => ?_)
      refine AW_block ?_
      refine AW_dreg TB mx ([[], [0], [1, 0], [2, 1, 0], [], [4], [5, 4], [6, 5, 4], [], [7, 6, 5, 4, 8], [3, 2, 1, 0, 9, 7, 6, 5, 4, 8], [10, 3, 2, 1, 0, 9, 7, 6, 5, 4, 8], [11, 10, 3, 2, 1, 0, 9, 7, 6, 5, 4, 8]]) (by kernel_rfl) (by kernel_rfl) (fun D K hD hK => ?_)
      simp only [AwS, TS, binI, runR, runD, ostep, ostepB, aop, aopB, dstOk, aeff, aval, St.ev, alook, blook, aBox, AV.known, cav, St.app, tput, evs, evp, allKnown, gslot, min2, max2, AV.cs, AV.cell, loadC, aField, aIndex, TD.elem, TD.isAgg, TD.isInt, aSlice, aBound, aLen, aBuild, aFill, placesOf, bytesOf, aBin, aEql, TI.one, eqS, eqL, fits, srcOf, dstOf, killK, replZ, spl, splice, AV.tops, Tk.foot, addFoot, fine, apart, disj, St.behind, St.behindB, zipIo, newIo, gMap, ioMap, AV.map, AVs.map, nmap, ↓reduceIte, Nat.reduceAdd, Nat.reduceMul, Nat.reduceSub, Nat.reduceMod, Nat.reduceDiv, Nat.reduceEqDiff, Nat.reduceLT, Nat.reduceLeDiff, Nat.reduceBEq, Nat.reduceBNe, Int.reduceAdd, Int.reduceMul, Int.reduceSub, Int.reduceNeg, Int.reduceLT, Int.reduceLE, Int.reduceEq, Int.reduceToNat, reduceCtorEq, bind, Op.operands, Call.operands, List.toList_toArray, List.size_toArray, cmp, List.getD_cons_zero, List.getD_cons_succ, Array.toList_append, Option.toArray, List.append_toArray,  u2, v2, d1, d2]
      refine hD _ ?_
      clear hD hK D K
      refine AW_cond rfl (fun h3 => ?_) (fun h3 => AW_skip ?_)
      · have h3' : (cellsL l false)[3 * r + i] = 3 := by simpa using h3
        refine AW_regl TB (fun D K hD hK => ?_)
        simp only [AwS, TS, binI, runR, runD, ostep, ostepB, aop, aopB, dstOk, aeff, aval, St.ev, alook, blook, aBox, AV.known, cav, St.app, tput, evs, evp, allKnown, gslot, min2, max2, AV.cs, AV.cell, loadC, aField, aIndex, TD.elem, TD.isAgg, TD.isInt, aSlice, aBound, aLen, aBuild, aFill, placesOf, bytesOf, aBin, aEql, TI.one, eqS, eqL, fits, srcOf, dstOf, killK, replZ, spl, splice, AV.tops, Tk.foot, addFoot, fine, apart, disj, St.behind, St.behindB, zipIo, newIo, gMap, ioMap, AV.map, AVs.map, nmap, ↓reduceIte, Nat.reduceAdd, Nat.reduceMul, Nat.reduceSub, Nat.reduceMod, Nat.reduceDiv, Nat.reduceEqDiff, Nat.reduceLT, Nat.reduceLeDiff, Nat.reduceBEq, Nat.reduceBNe, Int.reduceAdd, Int.reduceMul, Int.reduceSub, Int.reduceNeg, Int.reduceLT, Int.reduceLE, Int.reduceEq, Int.reduceToNat, reduceCtorEq, bind, v3]
        refine hD _ ?_
        clear hD hK D K
        refine hK2 _ ?_
        refine AW_regl TB (fun D K hD hK => ?_)
        simp only [AwS, TS, binI, runR, runD, ostep, ostepB, aop, aopB, dstOk, aeff, aval, St.ev, alook, blook, aBox, AV.known, cav, St.app, tput, evs, evp, allKnown, gslot, min2, max2, AV.cs, AV.cell, loadC, aField, aIndex, TD.elem, TD.isAgg, TD.isInt, aSlice, aBound, aLen, aBuild, aFill, placesOf, bytesOf, aBin, aEql, TI.one, eqS, eqL, fits, srcOf, dstOf, killK, replZ, spl, splice, AV.tops, Tk.foot, addFoot, fine, apart, disj, St.behind, St.behindB, zipIo, newIo, gMap, ioMap, AV.map, AVs.map, nmap, ↓reduceIte, Nat.reduceAdd, Nat.reduceMul, Nat.reduceSub, Nat.reduceMod, Nat.reduceDiv, Nat.reduceEqDiff, Nat.reduceLT, Nat.reduceLeDiff, Nat.reduceBEq, Nat.reduceBNe, Int.reduceAdd, Int.reduceMul, Int.reduceSub, Int.reduceNeg, Int.reduceLT, Int.reduceLE, Int.reduceEq, Int.reduceToNat, reduceCtorEq, bind, v1]
        refine hD _ ?_
        clear hD hK D K
        refine ⟨i + 1, [(0, 0), (1, 1)], by omega, by dsimp only; omega, ?_⟩
        refine ⟨rfl, by simp [woF], ⟨rfl, rfl⟩, ?_, ?_, by simp [woF], by simp [woF, nmap], ?_⟩
        · simp [woF, alook, AV.map, AVs.map, nmap, AVs_map_append, ivs_map, yvs_map, yvs_map, stc, g1, h3']
        · simp [woF, blook, AV.map, AVs.map, nmap, AVs_map_append, ivs_map, yvs_map, yvs_map, stc, g1, h3']
        · intro k hk
          have hk2 : k < 0 := hk
          omega
      · have h3' : ¬ (cellsL l false)[3 * r + i] = 3 := by simpa using h3
        refine hK2 _ ?_
        refine AW_regl TB (fun D K hD hK => ?_)
        simp only [AwS, TS, binI, runR, runD, ostep, ostepB, aop, aopB, dstOk, aeff, aval, St.ev, alook, blook, aBox, AV.known, cav, St.app, tput, evs, evp, allKnown, gslot, min2, max2, AV.cs, AV.cell, loadC, aField, aIndex, TD.elem, TD.isAgg, TD.isInt, aSlice, aBound, aLen, aBuild, aFill, placesOf, bytesOf, aBin, aEql, TI.one, eqS, eqL, fits, srcOf, dstOf, killK, replZ, spl, splice, AV.tops, Tk.foot, addFoot, fine, apart, disj, St.behind, St.behindB, zipIo, newIo, gMap, ioMap, AV.map, AVs.map, nmap, ↓reduceIte, Nat.reduceAdd, Nat.reduceMul, Nat.reduceSub, Nat.reduceMod, Nat.reduceDiv, Nat.reduceEqDiff, Nat.reduceLT, Nat.reduceLeDiff, Nat.reduceBEq, Nat.reduceBNe, Int.reduceAdd, Int.reduceMul, Int.reduceSub, Int.reduceNeg, Int.reduceLT, Int.reduceLE, Int.reduceEq, Int.reduceToNat, reduceCtorEq, bind, v1]
        refine hD _ ?_
        clear hD hK D K
        refine ⟨i + 1, [(0, 0), (1, 1)], by omega, by dsimp only; omega, ?_⟩
        refine ⟨rfl, by simp [woF], ⟨rfl, rfl⟩, ?_, ?_, by simp [woF], by simp [woF, nmap], ?_⟩
        · simp [woF, alook, AV.map, AVs.map, nmap, AVs_map_append, ivs_map, yvs_map, yvs_map, stc, g1, h3']
        · simp [woF, blook, AV.map, AVs.map, nmap, AVs_map_append, ivs_map, yvs_map, yvs_map, stc, g1, h3']
        · intro k hk
          have hk2 : k < 0 := hk
          omega
    · have hi3 : i = 3 := by simp at h; omega
      subst hi3
      refine hK0 _ ?_
      have z1 : ((stc (cellsL l false) r 3 : Int) ≥ 2) = True := by simp; omega
      refine AW_reg TB (fun D K hD hK => ?_)
      simp only [AwS, TS, binI, runR, runD, ostep, ostepB, aop, aopB, dstOk, aeff, aval, St.ev, alook, blook, aBox, AV.known, cav, St.app, tput, evs, evp, allKnown, gslot, min2, max2, AV.cs, AV.cell, loadC, aField, aIndex, TD.elem, TD.isAgg, TD.isInt, aSlice, aBound, aLen, aBuild, aFill, placesOf, bytesOf, aBin, aEql, TI.one, eqS, eqL, fits, srcOf, dstOf, killK, replZ, spl, splice, AV.tops, Tk.foot, addFoot, fine, apart, disj, St.behind, St.behindB, zipIo, newIo, gMap, ioMap, AV.map, AVs.map, nmap, ↓reduceIte, Nat.reduceAdd, Nat.reduceMul, Nat.reduceSub, Nat.reduceMod, Nat.reduceDiv, Nat.reduceEqDiff, Nat.reduceLT, Nat.reduceLeDiff, Nat.reduceBEq, Nat.reduceBNe, Int.reduceAdd, Int.reduceMul, Int.reduceSub, Int.reduceNeg, Int.reduceLT, Int.reduceLE, Int.reduceEq, Int.reduceToNat, reduceCtorEq, bind, z1]
      refine hD _ ?_
      clear hD hK D K
      refine AW_ret ?_
      simp only [Ret, blockQ, kQ, loopQ, seqQ, scopeQ, ↓reduceIte]
      exact retp (bv true) rfl rfl rfl rfl

def leF (c c' : List Int) (s : Ses) (B j : Nat) (o : Int × Int) (d : Bool) (i : Nat) : St :=
  { nt := 88, nx := 2, tm := [(10, iv i), (8, .ptr 1 0), (7, iv B), (6, .ptr 0 0), (5, bv true)], bx := [(0, some [.ds true 1 [.ds true c.length (c.map yv)]]), (1, some [.ds true 1 [.ds true c'.length (c'.map yv)], iv o.1, iv o.2, bv d, iv j, bv false])], gl := [], df := [] }


theorem leaves_spec (l : List Int) (s : Ses) (hl : ∀ x ∈ l, 0 ≤ x ∧ x < 256) (hm : l.length ≤ maxLen) (hs : s.ok) : Spec Try.prog [] 7 [.ds true l.length (l.map yv), .agg s.cs] [] (fun o => o = .ret (bv true) [] []) := by
  refine spec_of TB 88 [.tmp 4] Try.func7 rfl rfl rfl (Nat.le_of_ble_eq_true rfl) ?_
  intro X w0 E0 hE hX
  simp only [idx, Ses.cs, List.map_nil, List.length_nil]
  refine AW_reg TB (fun D K hD hK => ?_)
  simp only [AwS, TS, binI, runR, runD, ostep, ostepB, aop, aopB, dstOk, aeff, aval, St.ev, alook, blook, aBox, AV.known, cav, St.app, tput, evs, evp, allKnown, gslot, min2, max2, AV.cs, AV.cell, loadC, aField, aIndex, TD.elem, TD.isAgg, TD.isInt, aSlice, aBound, aLen, aBuild, aFill, placesOf, bytesOf, aBin, aEql, TI.one, eqS, eqL, fits, srcOf, dstOf, killK, replZ, spl, splice, AV.tops, Tk.foot, addFoot, fine, apart, disj, St.behind, St.behindB, zipIo, newIo, gMap, ioMap, AV.map, AVs.map, nmap, ↓reduceIte, Nat.reduceAdd, Nat.reduceMul, Nat.reduceSub, Nat.reduceMod, Nat.reduceDiv, Nat.reduceEqDiff, Nat.reduceLT, Nat.reduceLeDiff, Nat.reduceBEq, Nat.reduceBNe, Int.reduceAdd, Int.reduceMul, Int.reduceSub, Int.reduceNeg, Int.reduceLT, Int.reduceLE, Int.reduceEq, Int.reduceToNat, reduceCtorEq, bind]
  refine hD _ ?_
  clear hD hK D K
  refine AW_reg TB (fun D K hD hK => ?_)
  simp only [AwS, TS, binI, runR, runD, ostep, ostepB, aop, aopB, dstOk, aeff, aval, St.ev, alook, blook, aBox, AV.known, cav, St.app, tput, evs, evp, allKnown, gslot, min2, max2, AV.cs, AV.cell, loadC, aField, aIndex, TD.elem, TD.isAgg, TD.isInt, aSlice, aBound, aLen, aBuild, aFill, placesOf, bytesOf, aBin, aEql, TI.one, eqS, eqL, fits, srcOf, dstOf, killK, replZ, spl, splice, AV.tops, Tk.foot, addFoot, fine, apart, disj, St.behind, St.behindB, zipIo, newIo, gMap, ioMap, AV.map, AVs.map, nmap, ↓reduceIte, Nat.reduceAdd, Nat.reduceMul, Nat.reduceSub, Nat.reduceMod, Nat.reduceDiv, Nat.reduceEqDiff, Nat.reduceLT, Nat.reduceLeDiff, Nat.reduceBEq, Nat.reduceBNe, Int.reduceAdd, Int.reduceMul, Int.reduceSub, Int.reduceNeg, Int.reduceLT, Int.reduceLE, Int.reduceEq, Int.reduceToNat, reduceCtorEq, bind]
  refine hK _ _ ?_
  clear hD hK D K
  refine AL_callP rfl rfl rfl rfl en_9 sanity_spec [] ?_ (by simp) rfl rfl ?_
  · simp [evs, St.ev, cav, alook, lendA, lentBx, lendC, blook, AVs.map, AV.map, ioMap]
  refine AL_runR TB _ _ (fun D K hD hK => ?_)
  simp only [AwS, TS, binI, runR, runD, ostep, ostepB, aop, aopB, dstOk, aeff, aval, St.ev, alook, blook, aBox, AV.known, cav, St.app, tput, evs, evp, allKnown, gslot, min2, max2, AV.cs, AV.cell, loadC, aField, aIndex, TD.elem, TD.isAgg, TD.isInt, aSlice, aBound, aLen, aBuild, aFill, placesOf, bytesOf, aBin, aEql, TI.one, eqS, eqL, fits, srcOf, dstOf, killK, replZ, spl, splice, AV.tops, Tk.foot, addFoot, fine, apart, disj, St.behind, St.behindB, zipIo, newIo, gMap, ioMap, AV.map, AVs.map, nmap, ↓reduceIte, Nat.reduceAdd, Nat.reduceMul, Nat.reduceSub, Nat.reduceMod, Nat.reduceDiv, Nat.reduceEqDiff, Nat.reduceLT, Nat.reduceLeDiff, Nat.reduceBEq, Nat.reduceBNe, Int.reduceAdd, Int.reduceMul, Int.reduceSub, Int.reduceNeg, Int.reduceLT, Int.reduceLE, Int.reduceEq, Int.reduceToNat, reduceCtorEq, bind]
  refine hD _ ?_
  clear hD hK D K
  simp only [seqQ]
  refine AW_seq ?_
  by_cases h48 : l.length > 48
  · have y1 : ((l.length : Int) > 48) = True := by simp; omega
    refine AW_reg TB (fun D K hD hK => ?_)
    simp only [AwS, TS, binI, runR, runD, ostep, ostepB, aop, aopB, dstOk, aeff, aval, St.ev, alook, blook, aBox, AV.known, cav, St.app, tput, evs, evp, allKnown, gslot, min2, max2, AV.cs, AV.cell, loadC, aField, aIndex, TD.elem, TD.isAgg, TD.isInt, aSlice, aBound, aLen, aBuild, aFill, placesOf, bytesOf, aBin, aEql, TI.one, eqS, eqL, fits, srcOf, dstOf, killK, replZ, spl, splice, AV.tops, Tk.foot, addFoot, fine, apart, disj, St.behind, St.behindB, zipIo, newIo, gMap, ioMap, AV.map, AVs.map, nmap, ↓reduceIte, Nat.reduceAdd, Nat.reduceMul, Nat.reduceSub, Nat.reduceMod, Nat.reduceDiv, Nat.reduceEqDiff, Nat.reduceLT, Nat.reduceLeDiff, Nat.reduceBEq, Nat.reduceBNe, Int.reduceAdd, Int.reduceMul, Int.reduceSub, Int.reduceNeg, Int.reduceLT, Int.reduceLE, Int.reduceEq, Int.reduceToNat, reduceCtorEq, bind, y1]
    refine hD _ ?_
    clear hD hK D K
    refine AW_true rfl ?_
    refine AW_reg TB (fun D K hD hK => ?_)
    simp only [AwS, TS, binI, runR, runD, ostep, ostepB, aop, aopB, dstOk, aeff, aval, St.ev, alook, blook, aBox, AV.known, cav, St.app, tput, evs, evp, allKnown, gslot, min2, max2, AV.cs, AV.cell, loadC, aField, aIndex, TD.elem, TD.isAgg, TD.isInt, aSlice, aBound, aLen, aBuild, aFill, placesOf, bytesOf, aBin, aEql, TI.one, eqS, eqL, fits, srcOf, dstOf, killK, replZ, spl, splice, AV.tops, Tk.foot, addFoot, fine, apart, disj, St.behind, St.behindB, zipIo, newIo, gMap, ioMap, AV.map, AVs.map, nmap, ↓reduceIte, Nat.reduceAdd, Nat.reduceMul, Nat.reduceSub, Nat.reduceMod, Nat.reduceDiv, Nat.reduceEqDiff, Nat.reduceLT, Nat.reduceLeDiff, Nat.reduceBEq, Nat.reduceBNe, Int.reduceAdd, Int.reduceMul, Int.reduceSub, Int.reduceNeg, Int.reduceLT, Int.reduceLE, Int.reduceEq, Int.reduceToNat, reduceCtorEq, bind]
    refine hD _ ?_
    clear hD hK D K
    refine AW_ret ?_
    simp only [Ret, blockQ, kQ, loopQ, seqQ, scopeQ, ↓reduceIte]
    exact retp (bv true) rfl rfl rfl rfl
  have y1 : ((l.length : Int) > 48) = False := by simp; omega
  by_cases h200 : s.fl.length > 200
  · have y2 : ((s.fl.length : Int) > 200) = True := by simp; omega
    refine AW_reg TB (fun D K hD hK => ?_)
    simp only [AwS, TS, binI, runR, runD, ostep, ostepB, aop, aopB, dstOk, aeff, aval, St.ev, alook, blook, aBox, AV.known, cav, St.app, tput, evs, evp, allKnown, gslot, min2, max2, AV.cs, AV.cell, loadC, aField, aIndex, TD.elem, TD.isAgg, TD.isInt, aSlice, aBound, aLen, aBuild, aFill, placesOf, bytesOf, aBin, aEql, TI.one, eqS, eqL, fits, srcOf, dstOf, killK, replZ, spl, splice, AV.tops, Tk.foot, addFoot, fine, apart, disj, St.behind, St.behindB, zipIo, newIo, gMap, ioMap, AV.map, AVs.map, nmap, ↓reduceIte, Nat.reduceAdd, Nat.reduceMul, Nat.reduceSub, Nat.reduceMod, Nat.reduceDiv, Nat.reduceEqDiff, Nat.reduceLT, Nat.reduceLeDiff, Nat.reduceBEq, Nat.reduceBNe, Int.reduceAdd, Int.reduceMul, Int.reduceSub, Int.reduceNeg, Int.reduceLT, Int.reduceLE, Int.reduceEq, Int.reduceToNat, reduceCtorEq, bind, y1, y2, Bool.true_eq_false, Bool.false_eq_true]
    refine hD _ ?_
    clear hD hK D K
    refine AW_true rfl ?_
    refine AW_reg TB (fun D K hD hK => ?_)
    simp only [AwS, TS, binI, runR, runD, ostep, ostepB, aop, aopB, dstOk, aeff, aval, St.ev, alook, blook, aBox, AV.known, cav, St.app, tput, evs, evp, allKnown, gslot, min2, max2, AV.cs, AV.cell, loadC, aField, aIndex, TD.elem, TD.isAgg, TD.isInt, aSlice, aBound, aLen, aBuild, aFill, placesOf, bytesOf, aBin, aEql, TI.one, eqS, eqL, fits, srcOf, dstOf, killK, replZ, spl, splice, AV.tops, Tk.foot, addFoot, fine, apart, disj, St.behind, St.behindB, zipIo, newIo, gMap, ioMap, AV.map, AVs.map, nmap, ↓reduceIte, Nat.reduceAdd, Nat.reduceMul, Nat.reduceSub, Nat.reduceMod, Nat.reduceDiv, Nat.reduceEqDiff, Nat.reduceLT, Nat.reduceLeDiff, Nat.reduceBEq, Nat.reduceBNe, Int.reduceAdd, Int.reduceMul, Int.reduceSub, Int.reduceNeg, Int.reduceLT, Int.reduceLE, Int.reduceEq, Int.reduceToNat, reduceCtorEq, bind]
    refine hD _ ?_
    clear hD hK D K
    refine AW_ret ?_
    simp only [Ret, blockQ, kQ, loopQ, seqQ, scopeQ, ↓reduceIte]
    exact retp (bv true) rfl rfl rfl rfl
  have y2 : ((s.fl.length : Int) > 200) = False := by simp; omega
  have hB : l.length / 3 ≤ 16 := by omega
  have hlen := cellsL_len l false
  obtain ⟨b1, b2, b3⟩ := leaves (s := s) hB hlen
  generalize hr : s.run (l.length / 3) (cellsL l false) = r at b1 b2 b3
  obtain ⟨c', o, d, j, bd⟩ := r
  simp only at b1 b2 b3
  subst b1
  have htn := s.tn_le (l.length / 3)
  have hlv := lv7_le_len (cellsL l false) true
  have x1 : IntKind.i64.wrap s.t = s.t := wrap_i64 (by have := hs.1; omega) (by have := hs.2.1; omega)
  have x2 : IntKind.i64.wrap ((l.length / 3 : Nat) + 1 : Int) = (l.length / 3 : Nat) + 1 := wrap_i64 (by omega) (by omega)
  have x3 : (((l.length / 3 : Nat) : Int) + 1 = 0) = False := by simp; omega
  have x4 : s.t.tmod ((l.length / 3 : Nat) + 1 : Int) = ((s.tn (l.length / 3) : Nat) : Int) := by rw [Ses.tn_eq]; exact Int.tmod_eq_emod_of_nonneg hs.1
  have x5 : (if ((s.tn (l.length / 3) : Nat) : Int) > ((lv7 (cellsL l false) true : Nat) : Int) then ((s.tn (l.length / 3) : Nat) : Int) else ((lv7 (cellsL l false) true : Nat) : Int)) = ((max (lv7 (cellsL l false) true) (s.tn (l.length / 3)) : Nat) : Int) := by split <;> omega
  have x6 : IntKind.i64.wrap (3 * ((l.length / 3 : Nat) : Int)) = ((3 * (l.length / 3) : Nat) : Int) := by rw [wrap_i64 (by omega) (by omega)]; omega
  have x7 : ((c'.length : Int) = ((3 * (l.length / 3) : Nat) : Int)) = True := by simp; omega
  refine AW_reg TB (fun D K hD hK => ?_)
  simp only [AwS, TS, binI, runR, runD, ostep, ostepB, aop, aopB, dstOk, aeff, aval, St.ev, alook, blook, aBox, AV.known, cav, St.app, tput, evs, evp, allKnown, gslot, min2, max2, AV.cs, AV.cell, loadC, aField, aIndex, TD.elem, TD.isAgg, TD.isInt, aSlice, aBound, aLen, aBuild, aFill, placesOf, bytesOf, aBin, aEql, TI.one, eqS, eqL, fits, srcOf, dstOf, killK, replZ, spl, splice, AV.tops, Tk.foot, addFoot, fine, apart, disj, St.behind, St.behindB, zipIo, newIo, gMap, ioMap, AV.map, AVs.map, nmap, ↓reduceIte, Nat.reduceAdd, Nat.reduceMul, Nat.reduceSub, Nat.reduceMod, Nat.reduceDiv, Nat.reduceEqDiff, Nat.reduceLT, Nat.reduceLeDiff, Nat.reduceBEq, Nat.reduceBNe, Int.reduceAdd, Int.reduceMul, Int.reduceSub, Int.reduceNeg, Int.reduceLT, Int.reduceLE, Int.reduceEq, Int.reduceToNat, reduceCtorEq, bind, y1, y2, Bool.true_eq_false, Bool.false_eq_true]
  refine hD _ ?_
  clear hD hK D K
  refine AW_false rfl (AW_skip ?_)
  simp only [seqQ]
  refine AW_reg TB (fun D K hD hK => ?_)
  simp only [AwS, TS, binI, runR, runD, ostep, ostepB, aop, aopB, dstOk, aeff, aval, St.ev, alook, blook, aBox, AV.known, cav, St.app, tput, evs, evp, allKnown, gslot, min2, max2, AV.cs, AV.cell, loadC, aField, aIndex, TD.elem, TD.isAgg, TD.isInt, aSlice, aBound, aLen, aBuild, aFill, placesOf, bytesOf, aBin, aEql, TI.one, eqS, eqL, fits, srcOf, dstOf, killK, replZ, spl, splice, AV.tops, Tk.foot, addFoot, fine, apart, disj, St.behind, St.behindB, zipIo, newIo, gMap, ioMap, AV.map, AVs.map, nmap, ↓reduceIte, Nat.reduceAdd, Nat.reduceMul, Nat.reduceSub, Nat.reduceMod, Nat.reduceDiv, Nat.reduceEqDiff, Nat.reduceLT, Nat.reduceLeDiff, Nat.reduceBEq, Nat.reduceBNe, Int.reduceAdd, Int.reduceMul, Int.reduceSub, Int.reduceNeg, Int.reduceLT, Int.reduceLE, Int.reduceEq, Int.reduceToNat, reduceCtorEq, bind]
  refine hK _ _ ?_
  clear hD hK D K
  refine AL_callP rfl rfl rfl rfl en_15 (cells_spec true l false (by omega) hl) [] ?_ (by simp) rfl ?_ ?_
  · simp [evs, St.ev, cav, alook, lendA, lentBx, lendC, blook, AVs.map, AV.map, ioMap, yvs_map]
  · simp only [AV.map, AVs.map, fzA_flat _ _]
  simp only [fzA]
  refine AL_runR TB _ _ (fun D K hD hK => ?_)
  simp only [AwS, TS, binI, runR, runD, ostep, ostepB, aop, aopB, dstOk, aeff, aval, St.ev, alook, blook, aBox, AV.known, cav, St.app, tput, evs, evp, allKnown, gslot, min2, max2, AV.cs, AV.cell, loadC, aField, aIndex, TD.elem, TD.isAgg, TD.isInt, aSlice, aBound, aLen, aBuild, aFill, placesOf, bytesOf, aBin, aEql, TI.one, eqS, eqL, fits, srcOf, dstOf, killK, replZ, spl, splice, AV.tops, Tk.foot, addFoot, fine, apart, disj, St.behind, St.behindB, zipIo, newIo, gMap, ioMap, AV.map, AVs.map, nmap, ↓reduceIte, Nat.reduceAdd, Nat.reduceMul, Nat.reduceSub, Nat.reduceMod, Nat.reduceDiv, Nat.reduceEqDiff, Nat.reduceLT, Nat.reduceLeDiff, Nat.reduceBEq, Nat.reduceBNe, Int.reduceAdd, Int.reduceMul, Int.reduceSub, Int.reduceNeg, Int.reduceLT, Int.reduceLE, Int.reduceEq, Int.reduceToNat, reduceCtorEq, bind]
  refine hD _ ?_
  clear hD hK D K
  simp only [seqQ]
  refine AW_reg TB (fun D K hD hK => ?_)
  simp only [AwS, TS, binI, runR, runD, ostep, ostepB, aop, aopB, dstOk, aeff, aval, St.ev, alook, blook, aBox, AV.known, cav, St.app, tput, evs, evp, allKnown, gslot, min2, max2, AV.cs, AV.cell, loadC, aField, aIndex, TD.elem, TD.isAgg, TD.isInt, aSlice, aBound, aLen, aBuild, aFill, placesOf, bytesOf, aBin, aEql, TI.one, eqS, eqL, fits, srcOf, dstOf, killK, replZ, spl, splice, AV.tops, Tk.foot, addFoot, fine, apart, disj, St.behind, St.behindB, zipIo, newIo, gMap, ioMap, AV.map, AVs.map, nmap, ↓reduceIte, Nat.reduceAdd, Nat.reduceMul, Nat.reduceSub, Nat.reduceMod, Nat.reduceDiv, Nat.reduceEqDiff, Nat.reduceLT, Nat.reduceLeDiff, Nat.reduceBEq, Nat.reduceBNe, Int.reduceAdd, Int.reduceMul, Int.reduceSub, Int.reduceNeg, Int.reduceLT, Int.reduceLE, Int.reduceEq, Int.reduceToNat, reduceCtorEq, bind]
  refine hK _ _ ?_
  clear hD hK D K
  refine AL_callP rfl rfl rfl rfl en_16 (exec_run (bits := l.length / 3) (c := cellsL l false) hs (by omega) hlen hr) [] ?_ (by simp) rfl ?_ ?_
  · simp [evs, St.ev, cav, alook, lendA, lentBx, lendC, blook, AVs.map, AV.map, ioMap, fzA, yvs_map, Ses.cs]
  · simp only [AV.map, RunR.flat _ _]
  simp only [RunR.cs]
  refine AL_runR TB _ _ (fun D K hD hK => ?_)
  simp only [AwS, TS, binI, runR, runD, ostep, ostepB, aop, aopB, dstOk, aeff, aval, St.ev, alook, blook, aBox, AV.known, cav, St.app, tput, evs, evp, allKnown, gslot, min2, max2, AV.cs, AV.cell, loadC, aField, aIndex, TD.elem, TD.isAgg, TD.isInt, aSlice, aBound, aLen, aBuild, aFill, placesOf, bytesOf, aBin, aEql, TI.one, eqS, eqL, fits, srcOf, dstOf, killK, replZ, spl, splice, AV.tops, Tk.foot, addFoot, fine, apart, disj, St.behind, St.behindB, zipIo, newIo, gMap, ioMap, AV.map, AVs.map, nmap, ↓reduceIte, Nat.reduceAdd, Nat.reduceMul, Nat.reduceSub, Nat.reduceMod, Nat.reduceDiv, Nat.reduceEqDiff, Nat.reduceLT, Nat.reduceLeDiff, Nat.reduceBEq, Nat.reduceBNe, Int.reduceAdd, Int.reduceMul, Int.reduceSub, Int.reduceNeg, Int.reduceLT, Int.reduceLE, Int.reduceEq, Int.reduceToNat, reduceCtorEq, bind]
  refine hD _ ?_
  clear hD hK D K
  simp only [seqQ]
  refine AW_reg TB (fun D K hD hK => ?_)
  simp only [AwS, TS, binI, runR, runD, ostep, ostepB, aop, aopB, dstOk, aeff, aval, St.ev, alook, blook, aBox, AV.known, cav, St.app, tput, evs, evp, allKnown, gslot, min2, max2, AV.cs, AV.cell, loadC, aField, aIndex, TD.elem, TD.isAgg, TD.isInt, aSlice, aBound, aLen, aBuild, aFill, placesOf, bytesOf, aBin, aEql, TI.one, eqS, eqL, fits, srcOf, dstOf, killK, replZ, spl, splice, AV.tops, Tk.foot, addFoot, fine, apart, disj, St.behind, St.behindB, zipIo, newIo, gMap, ioMap, AV.map, AVs.map, nmap, ↓reduceIte, Nat.reduceAdd, Nat.reduceMul, Nat.reduceSub, Nat.reduceMod, Nat.reduceDiv, Nat.reduceEqDiff, Nat.reduceLT, Nat.reduceLeDiff, Nat.reduceBEq, Nat.reduceBNe, Int.reduceAdd, Int.reduceMul, Int.reduceSub, Int.reduceNeg, Int.reduceLT, Int.reduceLE, Int.reduceEq, Int.reduceToNat, reduceCtorEq, bind]
  refine hK _ _ ?_
  clear hD hK D K
  refine AL_callP rfl rfl rfl rfl en_18 (most_spec (cellsL l false) (by omega)) [] ?_ (by simp) rfl rfl ?_
  · simp [evs, St.ev, cav, alook, lendA, lentBx, lendC, blook, AVs.map, AV.map, ioMap, fzA, yvs_map]
  refine AL_runR TB _ _ (fun D K hD hK => ?_)
  simp only [AwS, TS, binI, runR, runD, ostep, ostepB, aop, aopB, dstOk, aeff, aval, St.ev, alook, blook, aBox, AV.known, cav, St.app, tput, evs, evp, allKnown, gslot, min2, max2, AV.cs, AV.cell, loadC, aField, aIndex, TD.elem, TD.isAgg, TD.isInt, aSlice, aBound, aLen, aBuild, aFill, placesOf, bytesOf, aBin, aEql, TI.one, eqS, eqL, fits, srcOf, dstOf, killK, replZ, spl, splice, AV.tops, Tk.foot, addFoot, fine, apart, disj, St.behind, St.behindB, zipIo, newIo, gMap, ioMap, AV.map, AVs.map, nmap, ↓reduceIte, Nat.reduceAdd, Nat.reduceMul, Nat.reduceSub, Nat.reduceMod, Nat.reduceDiv, Nat.reduceEqDiff, Nat.reduceLT, Nat.reduceLeDiff, Nat.reduceBEq, Nat.reduceBNe, Int.reduceAdd, Int.reduceMul, Int.reduceSub, Int.reduceNeg, Int.reduceLT, Int.reduceLE, Int.reduceEq, Int.reduceToNat, reduceCtorEq, bind]
  refine hD _ ?_
  clear hD hK D K
  simp only [seqQ]
  refine AW_seq ?_
  cases hra : s.ra with
  | true =>
    simp only [hra, if_true] at b3
    refine AW_reg TB (fun D K hD hK => ?_)
    simp only [AwS, TS, binI, runR, runD, ostep, ostepB, aop, aopB, dstOk, aeff, aval, St.ev, alook, blook, aBox, AV.known, cav, St.app, tput, evs, evp, allKnown, gslot, min2, max2, AV.cs, AV.cell, loadC, aField, aIndex, TD.elem, TD.isAgg, TD.isInt, aSlice, aBound, aLen, aBuild, aFill, placesOf, bytesOf, aBin, aEql, TI.one, eqS, eqL, fits, srcOf, dstOf, killK, replZ, spl, splice, AV.tops, Tk.foot, addFoot, fine, apart, disj, St.behind, St.behindB, zipIo, newIo, gMap, ioMap, AV.map, AVs.map, nmap, ↓reduceIte, Nat.reduceAdd, Nat.reduceMul, Nat.reduceSub, Nat.reduceMod, Nat.reduceDiv, Nat.reduceEqDiff, Nat.reduceLT, Nat.reduceLeDiff, Nat.reduceBEq, Nat.reduceBNe, Int.reduceAdd, Int.reduceMul, Int.reduceSub, Int.reduceNeg, Int.reduceLT, Int.reduceLE, Int.reduceEq, Int.reduceToNat, reduceCtorEq, bind]
    refine hD _ ?_
    clear hD hK D K
    refine AW_true rfl ?_
    refine AW_regl TB (fun D K hD hK => ?_)
    simp only [AwS, TS, binI, runR, runD, ostep, ostepB, aop, aopB, dstOk, aeff, aval, St.ev, alook, blook, aBox, AV.known, cav, St.app, tput, evs, evp, allKnown, gslot, min2, max2, AV.cs, AV.cell, loadC, aField, aIndex, TD.elem, TD.isAgg, TD.isInt, aSlice, aBound, aLen, aBuild, aFill, placesOf, bytesOf, aBin, aEql, TI.one, eqS, eqL, fits, srcOf, dstOf, killK, replZ, spl, splice, AV.tops, Tk.foot, addFoot, fine, apart, disj, St.behind, St.behindB, zipIo, newIo, gMap, ioMap, AV.map, AVs.map, nmap, ↓reduceIte, Nat.reduceAdd, Nat.reduceMul, Nat.reduceSub, Nat.reduceMod, Nat.reduceDiv, Nat.reduceEqDiff, Nat.reduceLT, Nat.reduceLeDiff, Nat.reduceBEq, Nat.reduceBNe, Int.reduceAdd, Int.reduceMul, Int.reduceSub, Int.reduceNeg, Int.reduceLT, Int.reduceLE, Int.reduceEq, Int.reduceToNat, reduceCtorEq, bind, x1, x2, x3, x4, x5]
    refine hD _ ?_
    clear hD hK D K
    simp only [seqQ]
    refine AW_seq ?_
    refine AW_reg TB (fun D K hD hK => ?_)
    simp only [AwS, TS, binI, runR, runD, ostep, ostepB, aop, aopB, dstOk, aeff, aval, St.ev, alook, blook, aBox, AV.known, cav, St.app, tput, evs, evp, allKnown, gslot, min2, max2, AV.cs, AV.cell, loadC, aField, aIndex, TD.elem, TD.isAgg, TD.isInt, aSlice, aBound, aLen, aBuild, aFill, placesOf, bytesOf, aBin, aEql, TI.one, eqS, eqL, fits, srcOf, dstOf, killK, replZ, spl, splice, AV.tops, Tk.foot, addFoot, fine, apart, disj, St.behind, St.behindB, zipIo, newIo, gMap, ioMap, AV.map, AVs.map, nmap, ↓reduceIte, Nat.reduceAdd, Nat.reduceMul, Nat.reduceSub, Nat.reduceMod, Nat.reduceDiv, Nat.reduceEqDiff, Nat.reduceLT, Nat.reduceLeDiff, Nat.reduceBEq, Nat.reduceBNe, Int.reduceAdd, Int.reduceMul, Int.reduceSub, Int.reduceNeg, Int.reduceLT, Int.reduceLE, Int.reduceEq, Int.reduceToNat, reduceCtorEq, bind, x6, x7]
    refine hD _ ?_
    clear hD hK D K
    refine AW_false rfl (AW_skip ?_)
    simp only [seqQ]
    refine AW_seqk (fun K0 hK0 => ?_)
    have u0 : IntKind.i64.wrap (3 * ((max (lv7 (cellsL l false) true) (s.tn (l.length / 3)) : Nat) : Int)) = ((3 * (max (lv7 (cellsL l false) true) (s.tn (l.length / 3))) : Nat) : Int) := by rw [wrap_i64 (by omega) (by omega)]; omega
    refine AW_reg TB (fun D K hD hK => ?_)
    simp only [AwS, TS, binI, runR, runD, ostep, ostepB, aop, aopB, dstOk, aeff, aval, St.ev, alook, blook, aBox, AV.known, cav, St.app, tput, evs, evp, allKnown, gslot, min2, max2, AV.cs, AV.cell, loadC, aField, aIndex, TD.elem, TD.isAgg, TD.isInt, aSlice, aBound, aLen, aBuild, aFill, placesOf, bytesOf, aBin, aEql, TI.one, eqS, eqL, fits, srcOf, dstOf, killK, replZ, spl, splice, AV.tops, Tk.foot, addFoot, fine, apart, disj, St.behind, St.behindB, zipIo, newIo, gMap, ioMap, AV.map, AVs.map, nmap, ↓reduceIte, Nat.reduceAdd, Nat.reduceMul, Nat.reduceSub, Nat.reduceMod, Nat.reduceDiv, Nat.reduceEqDiff, Nat.reduceLT, Nat.reduceLeDiff, Nat.reduceBEq, Nat.reduceBNe, Int.reduceAdd, Int.reduceMul, Int.reduceSub, Int.reduceNeg, Int.reduceLT, Int.reduceLE, Int.reduceEq, Int.reduceToNat, reduceCtorEq, bind, u0]
    refine hD _ ?_
    clear hD hK D K
    refine AW_block ?_
    refine AW_loop (leF (cellsL l false) c' s (l.length / 3) j o d) (fun i => 3 * (max (lv7 (cellsL l false) true) (s.tn (l.length / 3))) ≤ i ∧ i ≤ 3 * (l.length / 3)) (fun i => 3 * (l.length / 3) - i) hE (3 * (max (lv7 (cellsL l false) true) (s.tn (l.length / 3)))) [(0, 144), (1, 200)] ⟨by omega, by omega⟩ ?_ ?_
    · refine ⟨rfl, by simp [leF], ⟨rfl, rfl⟩, ?_, ?_, by simp [leF], by simp [leF, nmap], ?_⟩
      · simp [leF, alook, AV.map, AVs.map, nmap, AVs_map_append, ivs_map, yvs_map, yvs_map]
      · simp [leF, blook, AV.map, AVs.map, nmap, AVs_map_append, ivs_map, yvs_map, yvs_map]
      · intro k hk
        have hk2 : k < 0 := hk
        omega
    rintro i ⟨hi1, hi⟩
    simp only [leF]
    have v1 : IntKind.i64.wrap ((i : Int) + 1) = ((i + 1 : Nat) : Int) := by rw [wrap_i64 (by omega) (by omega)]; omega
    refine AW_seqk (fun K1 hK1 => ?_)
    refine AW_reg TB (fun D K hD hK => ?_)
    simp only [AwS, TS, binI, runR, runD, ostep, ostepB, aop, aopB, dstOk, aeff, aval, St.ev, alook, blook, aBox, AV.known, cav, St.app, tput, evs, evp, allKnown, gslot, min2, max2, AV.cs, AV.cell, loadC, aField, aIndex, TD.elem, TD.isAgg, TD.isInt, aSlice, aBound, aLen, aBuild, aFill, placesOf, bytesOf, aBin, aEql, TI.one, eqS, eqL, fits, srcOf, dstOf, killK, replZ, spl, splice, AV.tops, Tk.foot, addFoot, fine, apart, disj, St.behind, St.behindB, zipIo, newIo, gMap, ioMap, AV.map, AVs.map, nmap, ↓reduceIte, Nat.reduceAdd, Nat.reduceMul, Nat.reduceSub, Nat.reduceMod, Nat.reduceDiv, Nat.reduceEqDiff, Nat.reduceLT, Nat.reduceLeDiff, Nat.reduceBEq, Nat.reduceBNe, Int.reduceAdd, Int.reduceMul, Int.reduceSub, Int.reduceNeg, Int.reduceLT, Int.reduceLE, Int.reduceEq, Int.reduceToNat, reduceCtorEq, bind, x6]
    refine hD _ ?_
    clear hD hK D K
    refine AW_cond rfl (fun h => AW_skip ?_) (fun h => AW_exit ?_)
    · have hlt : i < 3 * (l.length / 3) := by simp at h; omega
      have hc1 : i < (cellsL l false).length := by omega
      have hc2 : i < c'.length := by omega
      have d1 : (0 ≤ (i : Int) ∧ (i : Int) < (cellsL l false).length) = True := by simp; omega
      have d2 : (0 ≤ (i : Int) ∧ (i : Int) < c'.length) = True := by simp; omega
      have d3 : (List.drop i ((cellsL l false).map yv))[0]? = some (yv (cellsL l false)[i]) := by simp [hc1]
      have d4 : (List.drop i (c'.map yv))[0]? = some (yv c'[i]) := by simp [hc2]
      have d5 : c'[i] = (cellsL l false)[i] := by
        have := b3 i hi1
        rw [List.getD_eq_getElem?_getD, List.getD_eq_getElem?_getD, List.getElem?_eq_getElem hc1, List.getElem?_eq_getElem hc2] at this
        exact this
      refine hK1 _ ?_
      refine AW_seqk (fun K2 hK2 => ?_)
      refine AW_block ?_
      refine AW_dreg TB mx ([[], [0], [1, 0], [2, 1, 0], [3, 2, 1, 0], [], [4, 3, 2, 1, 0, 5], [6, 4, 3, 2, 1, 0, 5], [], [8], [9, 8], [10, 9, 8], [], [11, 10, 9, 8, 12], [13, 11, 10, 9, 8, 12], [7, 6, 4, 3, 2, 1, 0, 5, 14, 13, 11, 10, 9, 8, 12]]) (by kernel_rfl) (by kernel_rfl) (fun D K hD hK => ?_)
      simp only [AwS, TS, binI, runR, runD, ostep, ostepB, aop, aopB, dstOk, aeff, aval, St.ev, alook, blook, aBox, AV.known, cav, St.app, tput, evs, evp, allKnown, gslot, min2, max2, AV.cs, AV.cell, loadC, aField, aIndex, TD.elem, TD.isAgg, TD.isInt, aSlice, aBound, aLen, aBuild, aFill, placesOf, bytesOf, aBin, aEql, TI.one, eqS, eqL, fits, srcOf, dstOf, killK, replZ, spl, splice, AV.tops, Tk.foot, addFoot, fine, apart, disj, St.behind, St.behindB, zipIo, newIo, gMap, ioMap, AV.map, AVs.map, nmap, ↓reduceIte, Nat.reduceAdd, Nat.reduceMul, Nat.reduceSub, Nat.reduceMod, Nat.reduceDiv, Nat.reduceEqDiff, Nat.reduceLT, Nat.reduceLeDiff, Nat.reduceBEq, Nat.reduceBNe, Int.reduceAdd, Int.reduceMul, Int.reduceSub, Int.reduceNeg, Int.reduceLT, Int.reduceLE, Int.reduceEq, Int.reduceToNat, reduceCtorEq, bind, Op.operands, Call.operands, List.toList_toArray, List.size_toArray, cmp, List.getD_cons_zero, List.getD_cons_succ, Array.toList_append, Option.toArray, List.append_toArray,  d1, d2, d3, d4, d5]
      refine hD _ ?_
      clear hD hK D K
      refine AW_false rfl (AW_skip ?_)
      refine hK2 _ ?_
      refine AW_regl TB (fun D K hD hK => ?_)
      simp only [AwS, TS, binI, runR, runD, ostep, ostepB, aop, aopB, dstOk, aeff, aval, St.ev, alook, blook, aBox, AV.known, cav, St.app, tput, evs, evp, allKnown, gslot, min2, max2, AV.cs, AV.cell, loadC, aField, aIndex, TD.elem, TD.isAgg, TD.isInt, aSlice, aBound, aLen, aBuild, aFill, placesOf, bytesOf, aBin, aEql, TI.one, eqS, eqL, fits, srcOf, dstOf, killK, replZ, spl, splice, AV.tops, Tk.foot, addFoot, fine, apart, disj, St.behind, St.behindB, zipIo, newIo, gMap, ioMap, AV.map, AVs.map, nmap, ↓reduceIte, Nat.reduceAdd, Nat.reduceMul, Nat.reduceSub, Nat.reduceMod, Nat.reduceDiv, Nat.reduceEqDiff, Nat.reduceLT, Nat.reduceLeDiff, Nat.reduceBEq, Nat.reduceBNe, Int.reduceAdd, Int.reduceMul, Int.reduceSub, Int.reduceNeg, Int.reduceLT, Int.reduceLE, Int.reduceEq, Int.reduceToNat, reduceCtorEq, bind, v1]
      refine hD _ ?_
      clear hD hK D K
      refine ⟨i + 1, [(0, 0), (1, 1)], ⟨by omega, by omega⟩, by dsimp only; omega, ?_⟩
      refine ⟨rfl, by simp [leF], ⟨rfl, rfl⟩, ?_, ?_, by simp [leF], by simp [leF, nmap], ?_⟩
      · simp [leF, alook, AV.map, AVs.map, nmap, AVs_map_append, ivs_map, yvs_map, yvs_map]
      · simp [leF, blook, AV.map, AVs.map, nmap, AVs_map_append, ivs_map, yvs_map, yvs_map]
      · intro k hk
        have hk2 : k < 0 := hk
        omega
    · refine hK0 _ ?_
      refine AW_reg TB (fun D K hD hK => ?_)
      simp only [AwS, TS, binI, runR, runD, ostep, ostepB, aop, aopB, dstOk, aeff, aval, St.ev, alook, blook, aBox, AV.known, cav, St.app, tput, evs, evp, allKnown, gslot, min2, max2, AV.cs, AV.cell, loadC, aField, aIndex, TD.elem, TD.isAgg, TD.isInt, aSlice, aBound, aLen, aBuild, aFill, placesOf, bytesOf, aBin, aEql, TI.one, eqS, eqL, fits, srcOf, dstOf, killK, replZ, spl, splice, AV.tops, Tk.foot, addFoot, fine, apart, disj, St.behind, St.behindB, zipIo, newIo, gMap, ioMap, AV.map, AVs.map, nmap, ↓reduceIte, Nat.reduceAdd, Nat.reduceMul, Nat.reduceSub, Nat.reduceMod, Nat.reduceDiv, Nat.reduceEqDiff, Nat.reduceLT, Nat.reduceLeDiff, Nat.reduceBEq, Nat.reduceBNe, Int.reduceAdd, Int.reduceMul, Int.reduceSub, Int.reduceNeg, Int.reduceLT, Int.reduceLE, Int.reduceEq, Int.reduceToNat, reduceCtorEq, bind]
      refine hD _ ?_
      clear hD hK D K
      refine AW_ret ?_
      simp only [Ret, blockQ, kQ, loopQ, seqQ, scopeQ, ↓reduceIte]
      exact retp (bv true) rfl rfl rfl rfl
  | false =>
    simp only [hra, Bool.false_eq_true, if_false] at b3
    refine AW_reg TB (fun D K hD hK => ?_)
    simp only [AwS, TS, binI, runR, runD, ostep, ostepB, aop, aopB, dstOk, aeff, aval, St.ev, alook, blook, aBox, AV.known, cav, St.app, tput, evs, evp, allKnown, gslot, min2, max2, AV.cs, AV.cell, loadC, aField, aIndex, TD.elem, TD.isAgg, TD.isInt, aSlice, aBound, aLen, aBuild, aFill, placesOf, bytesOf, aBin, aEql, TI.one, eqS, eqL, fits, srcOf, dstOf, killK, replZ, spl, splice, AV.tops, Tk.foot, addFoot, fine, apart, disj, St.behind, St.behindB, zipIo, newIo, gMap, ioMap, AV.map, AVs.map, nmap, ↓reduceIte, Nat.reduceAdd, Nat.reduceMul, Nat.reduceSub, Nat.reduceMod, Nat.reduceDiv, Nat.reduceEqDiff, Nat.reduceLT, Nat.reduceLeDiff, Nat.reduceBEq, Nat.reduceBNe, Int.reduceAdd, Int.reduceMul, Int.reduceSub, Int.reduceNeg, Int.reduceLT, Int.reduceLE, Int.reduceEq, Int.reduceToNat, reduceCtorEq, bind]
    refine hD _ ?_
    clear hD hK D K
    refine AW_false rfl (AW_skip ?_)
    simp only [seqQ]
    refine AW_seq ?_
    refine AW_reg TB (fun D K hD hK => ?_)
    simp only [AwS, TS, binI, runR, runD, ostep, ostepB, aop, aopB, dstOk, aeff, aval, St.ev, alook, blook, aBox, AV.known, cav, St.app, tput, evs, evp, allKnown, gslot, min2, max2, AV.cs, AV.cell, loadC, aField, aIndex, TD.elem, TD.isAgg, TD.isInt, aSlice, aBound, aLen, aBuild, aFill, placesOf, bytesOf, aBin, aEql, TI.one, eqS, eqL, fits, srcOf, dstOf, killK, replZ, spl, splice, AV.tops, Tk.foot, addFoot, fine, apart, disj, St.behind, St.behindB, zipIo, newIo, gMap, ioMap, AV.map, AVs.map, nmap, ↓reduceIte, Nat.reduceAdd, Nat.reduceMul, Nat.reduceSub, Nat.reduceMod, Nat.reduceDiv, Nat.reduceEqDiff, Nat.reduceLT, Nat.reduceLeDiff, Nat.reduceBEq, Nat.reduceBNe, Int.reduceAdd, Int.reduceMul, Int.reduceSub, Int.reduceNeg, Int.reduceLT, Int.reduceLE, Int.reduceEq, Int.reduceToNat, reduceCtorEq, bind, x6, x7]
    refine hD _ ?_
    clear hD hK D K
    refine AW_false rfl (AW_skip ?_)
    simp only [seqQ]
    refine AW_seqk (fun K0 hK0 => ?_)
    have u0 : IntKind.i64.wrap (3 * ((lv7 (cellsL l false) true : Nat) : Int)) = ((3 * (lv7 (cellsL l false) true) : Nat) : Int) := by rw [wrap_i64 (by omega) (by omega)]; omega
    refine AW_reg TB (fun D K hD hK => ?_)
    simp only [AwS, TS, binI, runR, runD, ostep, ostepB, aop, aopB, dstOk, aeff, aval, St.ev, alook, blook, aBox, AV.known, cav, St.app, tput, evs, evp, allKnown, gslot, min2, max2, AV.cs, AV.cell, loadC, aField, aIndex, TD.elem, TD.isAgg, TD.isInt, aSlice, aBound, aLen, aBuild, aFill, placesOf, bytesOf, aBin, aEql, TI.one, eqS, eqL, fits, srcOf, dstOf, killK, replZ, spl, splice, AV.tops, Tk.foot, addFoot, fine, apart, disj, St.behind, St.behindB, zipIo, newIo, gMap, ioMap, AV.map, AVs.map, nmap, ↓reduceIte, Nat.reduceAdd, Nat.reduceMul, Nat.reduceSub, Nat.reduceMod, Nat.reduceDiv, Nat.reduceEqDiff, Nat.reduceLT, Nat.reduceLeDiff, Nat.reduceBEq, Nat.reduceBNe, Int.reduceAdd, Int.reduceMul, Int.reduceSub, Int.reduceNeg, Int.reduceLT, Int.reduceLE, Int.reduceEq, Int.reduceToNat, reduceCtorEq, bind, u0]
    refine hD _ ?_
    clear hD hK D K
    refine AW_block ?_
    refine AW_loop (leF (cellsL l false) c' s (l.length / 3) j o d) (fun i => 3 * (lv7 (cellsL l false) true) ≤ i ∧ i ≤ 3 * (l.length / 3)) (fun i => 3 * (l.length / 3) - i) hE (3 * (lv7 (cellsL l false) true)) [(0, 144), (1, 200)] ⟨by omega, by omega⟩ ?_ ?_
    · refine ⟨rfl, by simp [leF], ⟨rfl, rfl⟩, ?_, ?_, by simp [leF], by simp [leF, nmap], ?_⟩
      · simp [leF, alook, AV.map, AVs.map, nmap, AVs_map_append, ivs_map, yvs_map, yvs_map]
      · simp [leF, blook, AV.map, AVs.map, nmap, AVs_map_append, ivs_map, yvs_map, yvs_map]
      · intro k hk
        have hk2 : k < 0 := hk
        omega
    rintro i ⟨hi1, hi⟩
    simp only [leF]
    have v1 : IntKind.i64.wrap ((i : Int) + 1) = ((i + 1 : Nat) : Int) := by rw [wrap_i64 (by omega) (by omega)]; omega
    refine AW_seqk (fun K1 hK1 => ?_)
    refine AW_reg TB (fun D K hD hK => ?_)
    simp only [AwS, TS, binI, runR, runD, ostep, ostepB, aop, aopB, dstOk, aeff, aval, St.ev, alook, blook, aBox, AV.known, cav, St.app, tput, evs, evp, allKnown, gslot, min2, max2, AV.cs, AV.cell, loadC, aField, aIndex, TD.elem, TD.isAgg, TD.isInt, aSlice, aBound, aLen, aBuild, aFill, placesOf, bytesOf, aBin, aEql, TI.one, eqS, eqL, fits, srcOf, dstOf, killK, replZ, spl, splice, AV.tops, Tk.foot, addFoot, fine, apart, disj, St.behind, St.behindB, zipIo, newIo, gMap, ioMap, AV.map, AVs.map, nmap, ↓reduceIte, Nat.reduceAdd, Nat.reduceMul, Nat.reduceSub, Nat.reduceMod, Nat.reduceDiv, Nat.reduceEqDiff, Nat.reduceLT, Nat.reduceLeDiff, Nat.reduceBEq, Nat.reduceBNe, Int.reduceAdd, Int.reduceMul, Int.reduceSub, Int.reduceNeg, Int.reduceLT, Int.reduceLE, Int.reduceEq, Int.reduceToNat, reduceCtorEq, bind, x6]
    refine hD _ ?_
    clear hD hK D K
    refine AW_cond rfl (fun h => AW_skip ?_) (fun h => AW_exit ?_)
    · have hlt : i < 3 * (l.length / 3) := by simp at h; omega
      have hc1 : i < (cellsL l false).length := by omega
      have hc2 : i < c'.length := by omega
      have d1 : (0 ≤ (i : Int) ∧ (i : Int) < (cellsL l false).length) = True := by simp; omega
      have d2 : (0 ≤ (i : Int) ∧ (i : Int) < c'.length) = True := by simp; omega
      have d3 : (List.drop i ((cellsL l false).map yv))[0]? = some (yv (cellsL l false)[i]) := by simp [hc1]
      have d4 : (List.drop i (c'.map yv))[0]? = some (yv c'[i]) := by simp [hc2]
      have d5 : c'[i] = (cellsL l false)[i] := by
        have := b3 i hi1
        rw [List.getD_eq_getElem?_getD, List.getD_eq_getElem?_getD, List.getElem?_eq_getElem hc1, List.getElem?_eq_getElem hc2] at this
        exact this
      refine hK1 _ ?_
      refine AW_seqk (fun K2 hK2 => ?_)
      refine AW_block ?_
      refine AW_dreg TB mx ([[], [0], [1, 0], [2, 1, 0], [3, 2, 1, 0], [], [4, 3, 2, 1, 0, 5], [6, 4, 3, 2, 1, 0, 5], [], [8], [9, 8], [10, 9, 8], [], [11, 10, 9, 8, 12], [13, 11, 10, 9, 8, 12], [7, 6, 4, 3, 2, 1, 0, 5, 14, 13, 11, 10, 9, 8, 12]]) (by kernel_rfl) (by kernel_rfl) (fun D K hD hK => ?_)
      simp only [AwS, TS, binI, runR, runD, ostep, ostepB, aop, aopB, dstOk, aeff, aval, St.ev, alook, blook, aBox, AV.known, cav, St.app, tput, evs, evp, allKnown, gslot, min2, max2, AV.cs, AV.cell, loadC, aField, aIndex, TD.elem, TD.isAgg, TD.isInt, aSlice, aBound, aLen, aBuild, aFill, placesOf, bytesOf, aBin, aEql, TI.one, eqS, eqL, fits, srcOf, dstOf, killK, replZ, spl, splice, AV.tops, Tk.foot, addFoot, fine, apart, disj, St.behind, St.behindB, zipIo, newIo, gMap, ioMap, AV.map, AVs.map, nmap, ↓reduceIte, Nat.reduceAdd, Nat.reduceMul, Nat.reduceSub, Nat.reduceMod, Nat.reduceDiv, Nat.reduceEqDiff, Nat.reduceLT, Nat.reduceLeDiff, Nat.reduceBEq, Nat.reduceBNe, Int.reduceAdd, Int.reduceMul, Int.reduceSub, Int.reduceNeg, Int.reduceLT, Int.reduceLE, Int.reduceEq, Int.reduceToNat, reduceCtorEq, bind, Op.operands, Call.operands, List.toList_toArray, List.size_toArray, cmp, List.getD_cons_zero, List.getD_cons_succ, Array.toList_append, Option.toArray, List.append_toArray,  d1, d2, d3, d4, d5]
      refine hD _ ?_
      clear hD hK D K
      refine AW_false rfl (AW_skip ?_)
      refine hK2 _ ?_
      refine AW_regl TB (fun D K hD hK => ?_)
      simp only [AwS, TS, binI, runR, runD, ostep, ostepB, aop, aopB, dstOk, aeff, aval, St.ev, alook, blook, aBox, AV.known, cav, St.app, tput, evs, evp, allKnown, gslot, min2, max2, AV.cs, AV.cell, loadC, aField, aIndex, TD.elem, TD.isAgg, TD.isInt, aSlice, aBound, aLen, aBuild, aFill, placesOf, bytesOf, aBin, aEql, TI.one, eqS, eqL, fits, srcOf, dstOf, killK, replZ, spl, splice, AV.tops, Tk.foot, addFoot, fine, apart, disj, St.behind, St.behindB, zipIo, newIo, gMap, ioMap, AV.map, AVs.map, nmap, ↓reduceIte, Nat.reduceAdd, Nat.reduceMul, Nat.reduceSub, Nat.reduceMod, Nat.reduceDiv, Nat.reduceEqDiff, Nat.reduceLT, Nat.reduceLeDiff, Nat.reduceBEq, Nat.reduceBNe, Int.reduceAdd, Int.reduceMul, Int.reduceSub, Int.reduceNeg, Int.reduceLT, Int.reduceLE, Int.reduceEq, Int.reduceToNat, reduceCtorEq, bind, v1]
      refine hD _ ?_
      clear hD hK D K
      refine ⟨i + 1, [(0, 0), (1, 1)], ⟨by omega, by omega⟩, by dsimp only; omega, ?_⟩
      refine ⟨rfl, by simp [leF], ⟨rfl, rfl⟩, ?_, ?_, by simp [leF], by simp [leF, nmap], ?_⟩
      · simp [leF, alook, AV.map, AVs.map, nmap, AVs_map_append, ivs_map, yvs_map, yvs_map]
      · simp [leF, blook, AV.map, AVs.map, nmap, AVs_map_append, ivs_map, yvs_map, yvs_map]
      · intro k hk
        have hk2 : k < 0 := hk
        omega
    · refine hK0 _ ?_
      refine AW_reg TB (fun D K hD hK => ?_)
      simp only [AwS, TS, binI, runR, runD, ostep, ostepB, aop, aopB, dstOk, aeff, aval, St.ev, alook, blook, aBox, AV.known, cav, St.app, tput, evs, evp, allKnown, gslot, min2, max2, AV.cs, AV.cell, loadC, aField, aIndex, TD.elem, TD.isAgg, TD.isInt, aSlice, aBound, aLen, aBuild, aFill, placesOf, bytesOf, aBin, aEql, TI.one, eqS, eqL, fits, srcOf, dstOf, killK, replZ, spl, splice, AV.tops, Tk.foot, addFoot, fine, apart, disj, St.behind, St.behindB, zipIo, newIo, gMap, ioMap, AV.map, AVs.map, nmap, ↓reduceIte, Nat.reduceAdd, Nat.reduceMul, Nat.reduceSub, Nat.reduceMod, Nat.reduceDiv, Nat.reduceEqDiff, Nat.reduceLT, Nat.reduceLeDiff, Nat.reduceBEq, Nat.reduceBNe, Int.reduceAdd, Int.reduceMul, Int.reduceSub, Int.reduceNeg, Int.reduceLT, Int.reduceLE, Int.reduceEq, Int.reduceToNat, reduceCtorEq, bind]
      refine hD _ ?_
      clear hD hK D K
      refine AW_ret ?_
      simp only [Ret, blockQ, kQ, loopQ, seqQ, scopeQ, ↓reduceIte]
      exact retp (bv true) rfl rfl rfl rfl
end Go.Proofs.Ytdnmnafadondkaa
