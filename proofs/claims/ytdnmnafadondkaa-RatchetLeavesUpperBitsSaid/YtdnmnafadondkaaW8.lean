/- The walks of the reference's ratchet. No condition. -/
import Derived.Test.YtdnmnafadondkaaW7
set_option linter.unusedVariables false
set_option linter.unusedSimpArgs false
set_option maxRecDepth 100000
namespace Go.Proofs.Ytdnmnafadondkaa
open Go Go.RowKit

/-- The place in the log stays within it. -/
theorem cdo_le {L : List Rs} {ac : Ac} {s : CurSt} (h : s.1 ≤ L.length) : (cdo L ac s).2.1 ≤ L.length := by
  unfold cdo
  split
  · exact h
  · split
    · rename_i r hr
      have : s.1 < L.length := by
        rcases Nat.lt_or_ge s.1 L.length with h1 | h1
        · exact h1
        · rw [List.getElem?_eq_none h1] at hr; simp at hr
      exact this
    · exact h
theorem cbitGo_le {L : List Rs} {bank bit : Int} : ∀ {n i c : Nat} {s : CurSt}, s.1 ≤ L.length → (cbitGo L bank bit n i c s).2.1 ≤ L.length
  | 0, _, _, _, h => h
  | n + 1, i, c, s, h => cbitGo_le (n := n) (cdo_le h)
theorem cpulGo_le {L : List Rs} {bank bit : Int} : ∀ {n i : Nat} {s : CurSt}, s.1 ≤ L.length → (cpulGo L bank bit n i s).1 ≤ L.length
  | 0, _, _, h => h
  | n + 1, i, s, h => cpulGo_le (n := n) (cdo_le h)
theorem cbit_le {L : List Rs} {bank bit : Int} {s : CurSt} (h : s.1 ≤ L.length) : (cbit L bank bit s).2.1 ≤ L.length := cbitGo_le h
theorem cpul3_le {L : List Rs} {bank bit : Int} {s : CurSt} (h : s.1 ≤ L.length) : (cpul3 L bank bit s).1 ≤ L.length := cpulGo_le h
theorem cup_le {L : List Rs} {bank : Int} : ∀ {k n : Nat} {s : CurSt}, s.1 ≤ L.length → (cup L bank k n s).2.1 ≤ L.length
  | 0, _, _, h => h
  | k + 1, n, s, h => by
    unfold cup
    split
    · exact h
    · split
      · exact cup_le (cbit_le h)
      · exact cbit_le h
theorem cdown_le {L : List Rs} {bank : Int} : ∀ {k n : Nat} {s : CurSt}, s.1 ≤ L.length → (cdown L bank k n s).1 ≤ L.length
  | 0, _, _, h => h
  | k + 1, n, s, h => by
    unfold cdown
    split
    · exact h
    · exact cdown_le (cpul3_le h)
theorem clevel_le {L : List Rs} {bank : Int} {bits : Nat} {s : CurSt} (h : s.1 ≤ L.length) : (clevel L bank bits s).2.1 ≤ L.length := cdown_le (cup_le h)
theorem cup_n {L : List Rs} {bank : Int} : ∀ {k n : Nat} {s : CurSt}, (cup L bank k n s).1 ≤ n + k
  | 0, _, _ => Nat.le_refl _
  | k + 1, n, s => by
    unfold cup
    split
    · simp
    · split
      · have := cup_n (L := L) (bank := bank) (k := k) (n := n + 1) (s := (cbit L bank n s).2)
        omega
      · simp

theorem AL_cur {X : Nat → Prop} {w0 : World} {E0 : Env} {b : Bool} {L : List Rs} {s s' : CurSt} {x : AV} {ops : Array Oper} {o : Oper} {l : List Oper} {σ : St} {Q : Exit → St → Prop} {f : Operand} {fargs : Array Operand} {fty : Array TypeId} {K : FuncId} {caps : List AV} {args' : List AV} (k : Nat)
    (ho : o.op = .call ⟨.value f, fargs, fty⟩) (hgd : o.guard = none) (hd : dstOk σ o.dst = true) (hf : σ.ev f = .clo K caps) (hen : Enters Try.prog K) (hspec : Spec Try.prog [] K args' [curC b L s] (fun o => o = .ret x [curC b L s'] []))
    (hargs : (evs σ fargs.toList ++ caps).map (lendA (lentBx [] σ)) = AVs.map (ioMap σ.nx [k]) args') (h0 : blook k σ.bx = some (curC b L s)) (hflat : Flat x)
    (h : AL Try.prog X w0 E0 ops l { σ with nx := σ.nx + 8, tm := tput o.dst x σ.tm, bx := (k, some (curC b L s')) :: σ.bx } Q) : AL Try.prog X w0 E0 ops (o :: l) σ Q := by
  refine AL_callD ho hgd hd hf hen hspec [k] [] rfl (by simp) (by simp [curC]) hargs ?_ (by simp) rfl (by simp) ?_
  · intro j k' cs hj hc
    rcases j with _ | j
    · simp at hj hc; subst hj; subst hc; rw [curC_flat b L s]; exact h0
    · simp at hc
  · simp only [St.behind, St.behindB, zipIo, newIo, curC_flat b L s' _, List.cons_append, List.nil_append]
    rw [hflat]
    exact h

theorem cur_flat1 (b : Bool) (L : List Rs) (s : CurSt) : ∀ cs ∈ [curC b L s], Flats cs := fun cs hc => by simp at hc; subst hc; exact curC_flat b L s

theorem cfuse_spec (b : Bool) (L : List Rs) (s : CurSt) (bank cell : Int) (hi : s.1 ≤ L.length) (hL : L.length ≤ 1000) : Spec Try.prog [] 46 [.ptr 0 0, iv bank, iv cell] [curC b L s] (fun o => o = .ret (iv (cfuse L bank cell s).1) [curC b L (cfuse L bank cell s).2] []) := by
  refine spec_of TB 15 [.tmp 6] Try.func46 rfl rfl rfl (Nat.le_of_ble_eq_true rfl) ?_
  intro X w0 E0 hE hX
  simp only [idx, List.map_cons, List.map_nil, List.length_cons, List.length_nil]
  refine AW_reg TB (fun D K hD hK => ?_)
  simp only [AwS, TS, binI, runR, runD, ostep, ostepB, aop, aopB, dstOk, aeff, aval, St.ev, alook, blook, aBox, AV.known, cav, St.app, tput, evs, evp, allKnown, gslot, min2, max2, AV.cs, AV.cell, loadC, aField, aIndex, TD.elem, TD.isAgg, TD.isInt, aSlice, aBound, aLen, aBuild, aFill, placesOf, bytesOf, aBin, aEql, TI.one, eqS, eqL, fits, srcOf, dstOf, killK, replZ, spl, splice, AV.tops, Tk.foot, addFoot, fine, apart, disj, St.behind, St.behindB, zipIo, newIo, gMap, ioMap, AV.map, AVs.map, nmap, ↓reduceIte, Nat.reduceAdd, Nat.reduceMul, Nat.reduceSub, Nat.reduceMod, Nat.reduceDiv, Nat.reduceEqDiff, Nat.reduceLT, Nat.reduceLeDiff, Nat.reduceBEq, Nat.reduceBNe, Int.reduceAdd, Int.reduceMul, Int.reduceSub, Int.reduceNeg, Int.reduceLT, Int.reduceLE, Int.reduceEq, Int.reduceToNat, reduceCtorEq, bind]
  refine hD _ ?_
  clear hD hK D K
  refine AW_reg TB (fun D K hD hK => ?_)
  simp only [AwS, TS, binI, runR, runD, ostep, ostepB, aop, aopB, dstOk, aeff, aval, St.ev, alook, blook, aBox, AV.known, cav, St.app, tput, evs, evp, allKnown, gslot, min2, max2, AV.cs, AV.cell, loadC, aField, aIndex, TD.elem, TD.isAgg, TD.isInt, aSlice, aBound, aLen, aBuild, aFill, placesOf, bytesOf, aBin, aEql, TI.one, eqS, eqL, fits, srcOf, dstOf, killK, replZ, spl, splice, AV.tops, Tk.foot, addFoot, fine, apart, disj, St.behind, St.behindB, zipIo, newIo, gMap, ioMap, AV.map, AVs.map, nmap, ↓reduceIte, Nat.reduceAdd, Nat.reduceMul, Nat.reduceSub, Nat.reduceMod, Nat.reduceDiv, Nat.reduceEqDiff, Nat.reduceLT, Nat.reduceLeDiff, Nat.reduceBEq, Nat.reduceBNe, Int.reduceAdd, Int.reduceMul, Int.reduceSub, Int.reduceNeg, Int.reduceLT, Int.reduceLE, Int.reduceEq, Int.reduceToNat, reduceCtorEq, bind]
  refine hK _ _ ?_
  clear hD hK D K
  refine AL_cur 0 rfl rfl rfl rfl en_49 (cdo_spec b L s (1, bank, cell) hi hL) rfl rfl (fun _ => rfl) ?_
  refine AL_runR TB _ _ (fun D K hD hK => ?_)
  simp only [AwS, TS, binI, runR, runD, ostep, ostepB, aop, aopB, dstOk, aeff, aval, St.ev, alook, blook, aBox, AV.known, cav, St.app, tput, evs, evp, allKnown, gslot, min2, max2, AV.cs, AV.cell, loadC, aField, aIndex, TD.elem, TD.isAgg, TD.isInt, aSlice, aBound, aLen, aBuild, aFill, placesOf, bytesOf, aBin, aEql, TI.one, eqS, eqL, fits, srcOf, dstOf, killK, replZ, spl, splice, AV.tops, Tk.foot, addFoot, fine, apart, disj, St.behind, St.behindB, zipIo, newIo, gMap, ioMap, AV.map, AVs.map, nmap, ↓reduceIte, Nat.reduceAdd, Nat.reduceMul, Nat.reduceSub, Nat.reduceMod, Nat.reduceDiv, Nat.reduceEqDiff, Nat.reduceLT, Nat.reduceLeDiff, Nat.reduceBEq, Nat.reduceBNe, Int.reduceAdd, Int.reduceMul, Int.reduceSub, Int.reduceNeg, Int.reduceLT, Int.reduceLE, Int.reduceEq, Int.reduceToNat, reduceCtorEq, bind, Rs.cs]
  refine hD _ ?_
  clear hD hK D K
  simp only [seqQ]
  refine AW_reg TB (fun D K hD hK => ?_)
  simp only [AwS, TS, binI, runR, runD, ostep, ostepB, aop, aopB, dstOk, aeff, aval, St.ev, alook, blook, aBox, AV.known, cav, St.app, tput, evs, evp, allKnown, gslot, min2, max2, AV.cs, AV.cell, loadC, aField, aIndex, TD.elem, TD.isAgg, TD.isInt, aSlice, aBound, aLen, aBuild, aFill, placesOf, bytesOf, aBin, aEql, TI.one, eqS, eqL, fits, srcOf, dstOf, killK, replZ, spl, splice, AV.tops, Tk.foot, addFoot, fine, apart, disj, St.behind, St.behindB, zipIo, newIo, gMap, ioMap, AV.map, AVs.map, nmap, ↓reduceIte, Nat.reduceAdd, Nat.reduceMul, Nat.reduceSub, Nat.reduceMod, Nat.reduceDiv, Nat.reduceEqDiff, Nat.reduceLT, Nat.reduceLeDiff, Nat.reduceBEq, Nat.reduceBNe, Int.reduceAdd, Int.reduceMul, Int.reduceSub, Int.reduceNeg, Int.reduceLT, Int.reduceLE, Int.reduceEq, Int.reduceToNat, reduceCtorEq, bind]
  refine hD _ ?_
  clear hD hK D K
  refine AW_ret ?_
  simp only [Ret, seqQ]
  exact retio (iv (cfuse L bank cell s).1) [curC b L (cfuse L bank cell s).2] rfl rfl rfl (fun _ => rfl) rfl (cur_flat1 _ _ _) rfl

theorem cpulse_spec (b : Bool) (L : List Rs) (s : CurSt) (bank cell : Int) (hi : s.1 ≤ L.length) (hL : L.length ≤ 1000) : Spec Try.prog [] 47 [.ptr 0 0, iv bank, iv cell] [curC b L s] (fun o => o = .ret (.tup []) [curC b L (cpulse L bank cell s)] []) := by
  refine spec_of TB 11 [] Try.func47 rfl rfl rfl (Nat.le_of_ble_eq_true rfl) ?_
  intro X w0 E0 hE hX
  simp only [idx, List.map_cons, List.map_nil, List.length_cons, List.length_nil]
  refine AW_regl TB (fun D K hD hK => ?_)
  simp only [AwS, TS, binI, runR, runD, ostep, ostepB, aop, aopB, dstOk, aeff, aval, St.ev, alook, blook, aBox, AV.known, cav, St.app, tput, evs, evp, allKnown, gslot, min2, max2, AV.cs, AV.cell, loadC, aField, aIndex, TD.elem, TD.isAgg, TD.isInt, aSlice, aBound, aLen, aBuild, aFill, placesOf, bytesOf, aBin, aEql, TI.one, eqS, eqL, fits, srcOf, dstOf, killK, replZ, spl, splice, AV.tops, Tk.foot, addFoot, fine, apart, disj, St.behind, St.behindB, zipIo, newIo, gMap, ioMap, AV.map, AVs.map, nmap, ↓reduceIte, Nat.reduceAdd, Nat.reduceMul, Nat.reduceSub, Nat.reduceMod, Nat.reduceDiv, Nat.reduceEqDiff, Nat.reduceLT, Nat.reduceLeDiff, Nat.reduceBEq, Nat.reduceBNe, Int.reduceAdd, Int.reduceMul, Int.reduceSub, Int.reduceNeg, Int.reduceLT, Int.reduceLE, Int.reduceEq, Int.reduceToNat, reduceCtorEq, bind]
  refine hK _ _ ?_
  clear hD hK D K
  refine AL_cur 0 rfl rfl rfl rfl en_49 (cdo_spec b L s (2, bank, cell) hi hL) rfl rfl (fun _ => rfl) ?_
  refine AL_runR TB _ _ (fun D K hD hK => ?_)
  simp only [AwS, TS, binI, runR, runD, ostep, ostepB, aop, aopB, dstOk, aeff, aval, St.ev, alook, blook, aBox, AV.known, cav, St.app, tput, evs, evp, allKnown, gslot, min2, max2, AV.cs, AV.cell, loadC, aField, aIndex, TD.elem, TD.isAgg, TD.isInt, aSlice, aBound, aLen, aBuild, aFill, placesOf, bytesOf, aBin, aEql, TI.one, eqS, eqL, fits, srcOf, dstOf, killK, replZ, spl, splice, AV.tops, Tk.foot, addFoot, fine, apart, disj, St.behind, St.behindB, zipIo, newIo, gMap, ioMap, AV.map, AVs.map, nmap, ↓reduceIte, Nat.reduceAdd, Nat.reduceMul, Nat.reduceSub, Nat.reduceMod, Nat.reduceDiv, Nat.reduceEqDiff, Nat.reduceLT, Nat.reduceLeDiff, Nat.reduceBEq, Nat.reduceBNe, Int.reduceAdd, Int.reduceMul, Int.reduceSub, Int.reduceNeg, Int.reduceLT, Int.reduceLE, Int.reduceEq, Int.reduceToNat, reduceCtorEq, bind, Rs.cs]
  refine hD _ ?_
  clear hD hK D K
  simp only [Ret, seqQ]
  exact retio (.tup []) [curC b L (cpulse L bank cell s)] rfl rfl rfl (fun _ => rfl) rfl (cur_flat1 _ _ _) rfl

def cbF (b : Bool) (L : List Rs) (bank bit : Int) (q : Nat × Nat × CurSt) : St :=
  { nt := 27, nx := 1, tm := [(8, iv q.1), (7, iv q.2.1), (0, .ptr 0 0), (1, iv bank), (2, iv bit)], bx := [(0, some (curC b L q.2.2))], gl := [], df := [] }

theorem cbit_spec (b : Bool) (L : List Rs) (s : CurSt) (bank bit : Int) (hi : s.1 ≤ L.length) (hL : L.length ≤ 1000) (h1 : 0 ≤ bit) (h2 : bit ≤ 100) : Spec Try.prog [] 36 [.ptr 0 0, iv bank, iv bit] [curC b L s] (fun o => o = .ret (bv (cbit L bank bit s).1) [curC b L (cbit L bank bit s).2] []) := by
  refine spec_of TB 27 [.tmp 6] Try.func36 rfl rfl rfl (Nat.le_of_ble_eq_true rfl) ?_
  intro X w0 E0 hE hX
  simp only [idx, List.map_cons, List.map_nil, List.length_cons, List.length_nil]
  refine AW_reg TB (fun D K hD hK => ?_)
  simp only [AwS, TS, binI, runR, runD, ostep, ostepB, aop, aopB, dstOk, aeff, aval, St.ev, alook, blook, aBox, AV.known, cav, St.app, tput, evs, evp, allKnown, gslot, min2, max2, AV.cs, AV.cell, loadC, aField, aIndex, TD.elem, TD.isAgg, TD.isInt, aSlice, aBound, aLen, aBuild, aFill, placesOf, bytesOf, aBin, aEql, TI.one, eqS, eqL, fits, srcOf, dstOf, killK, replZ, spl, splice, AV.tops, Tk.foot, addFoot, fine, apart, disj, St.behind, St.behindB, zipIo, newIo, gMap, ioMap, AV.map, AVs.map, nmap, ↓reduceIte, Nat.reduceAdd, Nat.reduceMul, Nat.reduceSub, Nat.reduceMod, Nat.reduceDiv, Nat.reduceEqDiff, Nat.reduceLT, Nat.reduceLeDiff, Nat.reduceBEq, Nat.reduceBNe, Int.reduceAdd, Int.reduceMul, Int.reduceSub, Int.reduceNeg, Int.reduceLT, Int.reduceLE, Int.reduceEq, Int.reduceToNat, reduceCtorEq, bind]
  refine hD _ ?_
  clear hD hK D K
  refine AW_reg TB (fun D K hD hK => ?_)
  simp only [AwS, TS, binI, runR, runD, ostep, ostepB, aop, aopB, dstOk, aeff, aval, St.ev, alook, blook, aBox, AV.known, cav, St.app, tput, evs, evp, allKnown, gslot, min2, max2, AV.cs, AV.cell, loadC, aField, aIndex, TD.elem, TD.isAgg, TD.isInt, aSlice, aBound, aLen, aBuild, aFill, placesOf, bytesOf, aBin, aEql, TI.one, eqS, eqL, fits, srcOf, dstOf, killK, replZ, spl, splice, AV.tops, Tk.foot, addFoot, fine, apart, disj, St.behind, St.behindB, zipIo, newIo, gMap, ioMap, AV.map, AVs.map, nmap, ↓reduceIte, Nat.reduceAdd, Nat.reduceMul, Nat.reduceSub, Nat.reduceMod, Nat.reduceDiv, Nat.reduceEqDiff, Nat.reduceLT, Nat.reduceLeDiff, Nat.reduceBEq, Nat.reduceBNe, Int.reduceAdd, Int.reduceMul, Int.reduceSub, Int.reduceNeg, Int.reduceLT, Int.reduceLE, Int.reduceEq, Int.reduceToNat, reduceCtorEq, bind]
  refine hD _ ?_
  clear hD hK D K
  refine AW_seqk (fun K0 hK0 => ?_)
  refine AW_reg TB (fun D K hD hK => ?_)
  simp only [AwS, TS, binI, runR, runD, ostep, ostepB, aop, aopB, dstOk, aeff, aval, St.ev, alook, blook, aBox, AV.known, cav, St.app, tput, evs, evp, allKnown, gslot, min2, max2, AV.cs, AV.cell, loadC, aField, aIndex, TD.elem, TD.isAgg, TD.isInt, aSlice, aBound, aLen, aBuild, aFill, placesOf, bytesOf, aBin, aEql, TI.one, eqS, eqL, fits, srcOf, dstOf, killK, replZ, spl, splice, AV.tops, Tk.foot, addFoot, fine, apart, disj, St.behind, St.behindB, zipIo, newIo, gMap, ioMap, AV.map, AVs.map, nmap, ↓reduceIte, Nat.reduceAdd, Nat.reduceMul, Nat.reduceSub, Nat.reduceMod, Nat.reduceDiv, Nat.reduceEqDiff, Nat.reduceLT, Nat.reduceLeDiff, Nat.reduceBEq, Nat.reduceBNe, Int.reduceAdd, Int.reduceMul, Int.reduceSub, Int.reduceNeg, Int.reduceLT, Int.reduceLE, Int.reduceEq, Int.reduceToNat, reduceCtorEq, bind]
  refine hD _ ?_
  clear hD hK D K
  refine AW_block ?_
  refine AW_loop (cbF b L bank bit) (fun q => q.1 ≤ 3 ∧ q.2.1 ≤ q.1 ∧ q.2.2.1 ≤ L.length ∧ cbitGo L bank bit (3 - q.1) q.1 q.2.1 q.2.2 = cbitGo L bank bit 3 0 0 s) (fun q => 3 - q.1) hE (0, 0, s) [(0, 0)] ⟨by omega, Nat.le_refl _, hi, rfl⟩ ?_ ?_
  · refine ⟨rfl, by simp [cbF], ⟨rfl, rfl⟩, ?_, ?_, by simp [cbF], by simp [cbF, nmap], ?_⟩
    · simp [cbF, alook, AV.map, AVs.map, nmap, AVs_map_append, ivs_map, yvs_map, curC_flat b L _ _]
    · simp [cbF, blook, AV.map, AVs.map, nmap, AVs_map_append, ivs_map, yvs_map, curC_flat b L _ _]
    · intro k hk
      have hk2 : k < 1 := hk
      rcases k with _ | k <;> first | rfl | omega
  rintro ⟨n, c, s1⟩ ⟨hn, hc, hs1, hrun⟩
  simp only at hn hc hs1 hrun
  simp only [cbF]
  have w1 : IntKind.i64.wrap ((n : Int) + 1) = (n : Int) + 1 := wrap_i64 (by omega) (by omega)
  have w2 : IntKind.i64.wrap (3 * bit) = 3 * bit := wrap_i64 (by omega) (by omega)
  have w3 : IntKind.i64.wrap (3 * bit + n) = 3 * bit + n := wrap_i64 (by omega) (by omega)
  have w4 : IntKind.i64.wrap ((c : Int) + 1) = (c : Int) + 1 := wrap_i64 (by omega) (by omega)
  refine AW_seqk (fun K1 hK1 => ?_)
  refine AW_reg TB (fun D K hD hK => ?_)
  simp only [AwS, TS, binI, runR, runD, ostep, ostepB, aop, aopB, dstOk, aeff, aval, St.ev, alook, blook, aBox, AV.known, cav, St.app, tput, evs, evp, allKnown, gslot, min2, max2, AV.cs, AV.cell, loadC, aField, aIndex, TD.elem, TD.isAgg, TD.isInt, aSlice, aBound, aLen, aBuild, aFill, placesOf, bytesOf, aBin, aEql, TI.one, eqS, eqL, fits, srcOf, dstOf, killK, replZ, spl, splice, AV.tops, Tk.foot, addFoot, fine, apart, disj, St.behind, St.behindB, zipIo, newIo, gMap, ioMap, AV.map, AVs.map, nmap, ↓reduceIte, Nat.reduceAdd, Nat.reduceMul, Nat.reduceSub, Nat.reduceMod, Nat.reduceDiv, Nat.reduceEqDiff, Nat.reduceLT, Nat.reduceLeDiff, Nat.reduceBEq, Nat.reduceBNe, Int.reduceAdd, Int.reduceMul, Int.reduceSub, Int.reduceNeg, Int.reduceLT, Int.reduceLE, Int.reduceEq, Int.reduceToNat, reduceCtorEq, bind]
  refine hD _ ?_
  clear hD hK D K
  refine AW_cond rfl (fun h => AW_skip ?_) (fun h => AW_exit ?_)
  · have hlt : n < 3 := by have : (n : Int) < 3 := by simpa using h
                           omega
    refine hK1 _ ?_
    refine AW_seqk (fun K2 hK2 => ?_)
    refine AW_block ?_
    refine AW_reg TB (fun D K hD hK => ?_)
    simp only [AwS, TS, binI, runR, runD, ostep, ostepB, aop, aopB, dstOk, aeff, aval, St.ev, alook, blook, aBox, AV.known, cav, St.app, tput, evs, evp, allKnown, gslot, min2, max2, AV.cs, AV.cell, loadC, aField, aIndex, TD.elem, TD.isAgg, TD.isInt, aSlice, aBound, aLen, aBuild, aFill, placesOf, bytesOf, aBin, aEql, TI.one, eqS, eqL, fits, srcOf, dstOf, killK, replZ, spl, splice, AV.tops, Tk.foot, addFoot, fine, apart, disj, St.behind, St.behindB, zipIo, newIo, gMap, ioMap, AV.map, AVs.map, nmap, ↓reduceIte, Nat.reduceAdd, Nat.reduceMul, Nat.reduceSub, Nat.reduceMod, Nat.reduceDiv, Nat.reduceEqDiff, Nat.reduceLT, Nat.reduceLeDiff, Nat.reduceBEq, Nat.reduceBNe, Int.reduceAdd, Int.reduceMul, Int.reduceSub, Int.reduceNeg, Int.reduceLT, Int.reduceLE, Int.reduceEq, Int.reduceToNat, reduceCtorEq, bind, w2, w3]
    refine hK _ _ ?_
    clear hD hK D K
    refine AL_cur 0 rfl rfl rfl rfl en_46 (cfuse_spec b L s1 bank (3 * bit + n) hs1 hL) rfl rfl (fun _ => rfl) ?_
    refine AL_runR TB _ _ (fun D K hD hK => ?_)
    simp only [AwS, TS, binI, runR, runD, ostep, ostepB, aop, aopB, dstOk, aeff, aval, St.ev, alook, blook, aBox, AV.known, cav, St.app, tput, evs, evp, allKnown, gslot, min2, max2, AV.cs, AV.cell, loadC, aField, aIndex, TD.elem, TD.isAgg, TD.isInt, aSlice, aBound, aLen, aBuild, aFill, placesOf, bytesOf, aBin, aEql, TI.one, eqS, eqL, fits, srcOf, dstOf, killK, replZ, spl, splice, AV.tops, Tk.foot, addFoot, fine, apart, disj, St.behind, St.behindB, zipIo, newIo, gMap, ioMap, AV.map, AVs.map, nmap, ↓reduceIte, Nat.reduceAdd, Nat.reduceMul, Nat.reduceSub, Nat.reduceMod, Nat.reduceDiv, Nat.reduceEqDiff, Nat.reduceLT, Nat.reduceLeDiff, Nat.reduceBEq, Nat.reduceBNe, Int.reduceAdd, Int.reduceMul, Int.reduceSub, Int.reduceNeg, Int.reduceLT, Int.reduceLE, Int.reduceEq, Int.reduceToNat, reduceCtorEq, bind]
    refine hD _ ?_
    clear hD hK D K
    simp only [seqQ]
    refine AW_reg TB (fun D K hD hK => ?_)
    simp only [AwS, TS, binI, runR, runD, ostep, ostepB, aop, aopB, dstOk, aeff, aval, St.ev, alook, blook, aBox, AV.known, cav, St.app, tput, evs, evp, allKnown, gslot, min2, max2, AV.cs, AV.cell, loadC, aField, aIndex, TD.elem, TD.isAgg, TD.isInt, aSlice, aBound, aLen, aBuild, aFill, placesOf, bytesOf, aBin, aEql, TI.one, eqS, eqL, fits, srcOf, dstOf, killK, replZ, spl, splice, AV.tops, Tk.foot, addFoot, fine, apart, disj, St.behind, St.behindB, zipIo, newIo, gMap, ioMap, AV.map, AVs.map, nmap, ↓reduceIte, Nat.reduceAdd, Nat.reduceMul, Nat.reduceSub, Nat.reduceMod, Nat.reduceDiv, Nat.reduceEqDiff, Nat.reduceLT, Nat.reduceLeDiff, Nat.reduceBEq, Nat.reduceBNe, Int.reduceAdd, Int.reduceMul, Int.reduceSub, Int.reduceNeg, Int.reduceLT, Int.reduceLE, Int.reduceEq, Int.reduceToNat, reduceCtorEq, bind]
    refine hD _ ?_
    clear hD hK D K
    have hstep : cbitGo L bank bit (3 - n) n c s1 = cbitGo L bank bit (3 - (n + 1)) (n + 1) (c + if (cfuse L bank (3 * bit + n) s1).1 ≠ 0 then 1 else 0) (cfuse L bank (3 * bit + n) s1).2 := by
      rw [show 3 - n = 3 - (n + 1) + 1 by omega, cbitGo]
    refine AW_cond rfl (fun hz => ?_) (fun hz => AW_skip ?_)
    · have hz' : (cfuse L bank (3 * bit + n) s1).1 ≠ 0 := by simpa using hz
      refine AW_regl TB (fun D K hD hK => ?_)
      simp only [AwS, TS, binI, runR, runD, ostep, ostepB, aop, aopB, dstOk, aeff, aval, St.ev, alook, blook, aBox, AV.known, cav, St.app, tput, evs, evp, allKnown, gslot, min2, max2, AV.cs, AV.cell, loadC, aField, aIndex, TD.elem, TD.isAgg, TD.isInt, aSlice, aBound, aLen, aBuild, aFill, placesOf, bytesOf, aBin, aEql, TI.one, eqS, eqL, fits, srcOf, dstOf, killK, replZ, spl, splice, AV.tops, Tk.foot, addFoot, fine, apart, disj, St.behind, St.behindB, zipIo, newIo, gMap, ioMap, AV.map, AVs.map, nmap, ↓reduceIte, Nat.reduceAdd, Nat.reduceMul, Nat.reduceSub, Nat.reduceMod, Nat.reduceDiv, Nat.reduceEqDiff, Nat.reduceLT, Nat.reduceLeDiff, Nat.reduceBEq, Nat.reduceBNe, Int.reduceAdd, Int.reduceMul, Int.reduceSub, Int.reduceNeg, Int.reduceLT, Int.reduceLE, Int.reduceEq, Int.reduceToNat, reduceCtorEq, bind, w4]
      refine hD _ ?_
      clear hD hK D K
      refine hK2 _ ?_
      refine AW_regl TB (fun D K hD hK => ?_)
      simp only [AwS, TS, binI, runR, runD, ostep, ostepB, aop, aopB, dstOk, aeff, aval, St.ev, alook, blook, aBox, AV.known, cav, St.app, tput, evs, evp, allKnown, gslot, min2, max2, AV.cs, AV.cell, loadC, aField, aIndex, TD.elem, TD.isAgg, TD.isInt, aSlice, aBound, aLen, aBuild, aFill, placesOf, bytesOf, aBin, aEql, TI.one, eqS, eqL, fits, srcOf, dstOf, killK, replZ, spl, splice, AV.tops, Tk.foot, addFoot, fine, apart, disj, St.behind, St.behindB, zipIo, newIo, gMap, ioMap, AV.map, AVs.map, nmap, ↓reduceIte, Nat.reduceAdd, Nat.reduceMul, Nat.reduceSub, Nat.reduceMod, Nat.reduceDiv, Nat.reduceEqDiff, Nat.reduceLT, Nat.reduceLeDiff, Nat.reduceBEq, Nat.reduceBNe, Int.reduceAdd, Int.reduceMul, Int.reduceSub, Int.reduceNeg, Int.reduceLT, Int.reduceLE, Int.reduceEq, Int.reduceToNat, reduceCtorEq, bind, w1]
      refine hD _ ?_
      clear hD hK D K
      refine ⟨(n + 1, c + 1, (cfuse L bank (3 * bit + n) s1).2), [(0, 0)], ⟨by dsimp only; omega, by dsimp only; omega, cdo_le hs1, ?_⟩, by dsimp only; omega, ?_⟩
      · rw [← hrun, hstep, if_pos hz']
      · refine ⟨rfl, by simp [cbF], ⟨rfl, rfl⟩, ?_, ?_, by simp [cbF], by simp [cbF, nmap], ?_⟩
        · simp [cbF, alook, AV.map, AVs.map, nmap, AVs_map_append, ivs_map, yvs_map, curC_flat b L _ _]
        · simp [cbF, blook, AV.map, AVs.map, nmap, AVs_map_append, ivs_map, yvs_map, curC_flat b L _ _]
        · intro k hk
          have hk2 : k < 1 := hk
          rcases k with _ | k <;> first | rfl | omega
    · have hz' : (cfuse L bank (3 * bit + n) s1).1 = 0 := by simpa using hz
      refine hK2 _ ?_
      refine AW_regl TB (fun D K hD hK => ?_)
      simp only [AwS, TS, binI, runR, runD, ostep, ostepB, aop, aopB, dstOk, aeff, aval, St.ev, alook, blook, aBox, AV.known, cav, St.app, tput, evs, evp, allKnown, gslot, min2, max2, AV.cs, AV.cell, loadC, aField, aIndex, TD.elem, TD.isAgg, TD.isInt, aSlice, aBound, aLen, aBuild, aFill, placesOf, bytesOf, aBin, aEql, TI.one, eqS, eqL, fits, srcOf, dstOf, killK, replZ, spl, splice, AV.tops, Tk.foot, addFoot, fine, apart, disj, St.behind, St.behindB, zipIo, newIo, gMap, ioMap, AV.map, AVs.map, nmap, ↓reduceIte, Nat.reduceAdd, Nat.reduceMul, Nat.reduceSub, Nat.reduceMod, Nat.reduceDiv, Nat.reduceEqDiff, Nat.reduceLT, Nat.reduceLeDiff, Nat.reduceBEq, Nat.reduceBNe, Int.reduceAdd, Int.reduceMul, Int.reduceSub, Int.reduceNeg, Int.reduceLT, Int.reduceLE, Int.reduceEq, Int.reduceToNat, reduceCtorEq, bind, w1]
      refine hD _ ?_
      clear hD hK D K
      refine ⟨(n + 1, c, (cfuse L bank (3 * bit + n) s1).2), [(0, 0)], ⟨by dsimp only; omega, by dsimp only; omega, cdo_le hs1, ?_⟩, by dsimp only; omega, ?_⟩
      · rw [← hrun, hstep, if_neg (by simp [hz'])]; rfl
      · refine ⟨rfl, by simp [cbF], ⟨rfl, rfl⟩, ?_, ?_, by simp [cbF], by simp [cbF, nmap], ?_⟩
        · simp [cbF, alook, AV.map, AVs.map, nmap, AVs_map_append, ivs_map, yvs_map, curC_flat b L _ _]
        · simp [cbF, blook, AV.map, AVs.map, nmap, AVs_map_append, ivs_map, yvs_map, curC_flat b L _ _]
        · intro k hk
          have hk2 : k < 1 := hk
          rcases k with _ | k <;> first | rfl | omega
  · have hge : n = 3 := by have : ¬ (n : Int) < 3 := by simpa using h
                           omega
    subst hge
    refine hK0 _ ?_
    refine AW_reg TB (fun D K hD hK => ?_)
    simp only [AwS, TS, binI, runR, runD, ostep, ostepB, aop, aopB, dstOk, aeff, aval, St.ev, alook, blook, aBox, AV.known, cav, St.app, tput, evs, evp, allKnown, gslot, min2, max2, AV.cs, AV.cell, loadC, aField, aIndex, TD.elem, TD.isAgg, TD.isInt, aSlice, aBound, aLen, aBuild, aFill, placesOf, bytesOf, aBin, aEql, TI.one, eqS, eqL, fits, srcOf, dstOf, killK, replZ, spl, splice, AV.tops, Tk.foot, addFoot, fine, apart, disj, St.behind, St.behindB, zipIo, newIo, gMap, ioMap, AV.map, AVs.map, nmap, ↓reduceIte, Nat.reduceAdd, Nat.reduceMul, Nat.reduceSub, Nat.reduceMod, Nat.reduceDiv, Nat.reduceEqDiff, Nat.reduceLT, Nat.reduceLeDiff, Nat.reduceBEq, Nat.reduceBNe, Int.reduceAdd, Int.reduceMul, Int.reduceSub, Int.reduceNeg, Int.reduceLT, Int.reduceLE, Int.reduceEq, Int.reduceToNat, reduceCtorEq, bind]
    refine hD _ ?_
    clear hD hK D K
    refine AW_ret ?_
    simp only [Ret, seqQ]
    have hfin : cbitGo L bank bit 3 0 0 s = (c, s1) := by rw [← hrun]; rfl
    refine retio (bv (cbit L bank bit s).1) [curC b L (cbit L bank bit s).2] rfl rfl ?_ (fun _ => rfl) ?_ (cur_flat1 _ _ _) rfl
    · simp [resOf, resAll, resAV, alook, AV.known, cbit, hfin]
      omega
    · simp [blook, List.range_succ, cbit, hfin]

def cpF (b : Bool) (L : List Rs) (bank bit : Int) (q : Nat × CurSt) : St :=
  { nt := 18, nx := 1, tm := [(6, iv q.1), (0, .ptr 0 0), (1, iv bank), (2, iv bit)], bx := [(0, some (curC b L q.2))], gl := [], df := [] }

theorem cpul3_spec (b : Bool) (L : List Rs) (s : CurSt) (bank bit : Int) (hi : s.1 ≤ L.length) (hL : L.length ≤ 1000) (h1 : 0 ≤ bit) (h2 : bit ≤ 100) : Spec Try.prog [] 37 [.ptr 0 0, iv bank, iv bit] [curC b L s] (fun o => o = .ret (.tup []) [curC b L (cpul3 L bank bit s)] []) := by
  refine spec_of TB 18 [] Try.func37 rfl rfl rfl (Nat.le_of_ble_eq_true rfl) ?_
  intro X w0 E0 hE hX
  simp only [idx, List.map_cons, List.map_nil, List.length_cons, List.length_nil]
  refine AW_reg TB (fun D K hD hK => ?_)
  simp only [AwS, TS, binI, runR, runD, ostep, ostepB, aop, aopB, dstOk, aeff, aval, St.ev, alook, blook, aBox, AV.known, cav, St.app, tput, evs, evp, allKnown, gslot, min2, max2, AV.cs, AV.cell, loadC, aField, aIndex, TD.elem, TD.isAgg, TD.isInt, aSlice, aBound, aLen, aBuild, aFill, placesOf, bytesOf, aBin, aEql, TI.one, eqS, eqL, fits, srcOf, dstOf, killK, replZ, spl, splice, AV.tops, Tk.foot, addFoot, fine, apart, disj, St.behind, St.behindB, zipIo, newIo, gMap, ioMap, AV.map, AVs.map, nmap, ↓reduceIte, Nat.reduceAdd, Nat.reduceMul, Nat.reduceSub, Nat.reduceMod, Nat.reduceDiv, Nat.reduceEqDiff, Nat.reduceLT, Nat.reduceLeDiff, Nat.reduceBEq, Nat.reduceBNe, Int.reduceAdd, Int.reduceMul, Int.reduceSub, Int.reduceNeg, Int.reduceLT, Int.reduceLE, Int.reduceEq, Int.reduceToNat, reduceCtorEq, bind]
  refine hD _ ?_
  clear hD hK D K
  refine AW_block ?_
  refine AW_loop (cpF b L bank bit) (fun q => q.1 ≤ 3 ∧ q.2.1 ≤ L.length ∧ cpulGo L bank bit (3 - q.1) q.1 q.2 = cpulGo L bank bit 3 0 s) (fun q => 3 - q.1) hE (0, s) [(0, 0)] ⟨by omega, hi, rfl⟩ ?_ ?_
  · refine ⟨rfl, by simp [cpF], ⟨rfl, rfl⟩, ?_, ?_, by simp [cpF], by simp [cpF, nmap], ?_⟩
    · simp [cpF, alook, AV.map, AVs.map, nmap, AVs_map_append, ivs_map, yvs_map, curC_flat b L _ _]
    · simp [cpF, blook, AV.map, AVs.map, nmap, AVs_map_append, ivs_map, yvs_map, curC_flat b L _ _]
    · intro k hk
      have hk2 : k < 1 := hk
      rcases k with _ | k <;> first | rfl | omega
  rintro ⟨n, s1⟩ ⟨hn, hs1, hrun⟩
  simp only at hn hs1 hrun
  simp only [cpF]
  have w1 : IntKind.i64.wrap ((n : Int) + 1) = (n : Int) + 1 := wrap_i64 (by omega) (by omega)
  have w2 : IntKind.i64.wrap (3 * bit) = 3 * bit := wrap_i64 (by omega) (by omega)
  have w3 : IntKind.i64.wrap (3 * bit + n) = 3 * bit + n := wrap_i64 (by omega) (by omega)
  refine AW_seqk (fun K1 hK1 => ?_)
  refine AW_reg TB (fun D K hD hK => ?_)
  simp only [AwS, TS, binI, runR, runD, ostep, ostepB, aop, aopB, dstOk, aeff, aval, St.ev, alook, blook, aBox, AV.known, cav, St.app, tput, evs, evp, allKnown, gslot, min2, max2, AV.cs, AV.cell, loadC, aField, aIndex, TD.elem, TD.isAgg, TD.isInt, aSlice, aBound, aLen, aBuild, aFill, placesOf, bytesOf, aBin, aEql, TI.one, eqS, eqL, fits, srcOf, dstOf, killK, replZ, spl, splice, AV.tops, Tk.foot, addFoot, fine, apart, disj, St.behind, St.behindB, zipIo, newIo, gMap, ioMap, AV.map, AVs.map, nmap, ↓reduceIte, Nat.reduceAdd, Nat.reduceMul, Nat.reduceSub, Nat.reduceMod, Nat.reduceDiv, Nat.reduceEqDiff, Nat.reduceLT, Nat.reduceLeDiff, Nat.reduceBEq, Nat.reduceBNe, Int.reduceAdd, Int.reduceMul, Int.reduceSub, Int.reduceNeg, Int.reduceLT, Int.reduceLE, Int.reduceEq, Int.reduceToNat, reduceCtorEq, bind]
  refine hD _ ?_
  clear hD hK D K
  refine AW_cond rfl (fun h => AW_skip ?_) (fun h => AW_exit ?_)
  · have hlt : n < 3 := by have : (n : Int) < 3 := by simpa using h
                           omega
    refine hK1 _ ?_
    refine AW_seqk (fun K2 hK2 => ?_)
    refine AW_block ?_
    refine AW_regl TB (fun D K hD hK => ?_)
    simp only [AwS, TS, binI, runR, runD, ostep, ostepB, aop, aopB, dstOk, aeff, aval, St.ev, alook, blook, aBox, AV.known, cav, St.app, tput, evs, evp, allKnown, gslot, min2, max2, AV.cs, AV.cell, loadC, aField, aIndex, TD.elem, TD.isAgg, TD.isInt, aSlice, aBound, aLen, aBuild, aFill, placesOf, bytesOf, aBin, aEql, TI.one, eqS, eqL, fits, srcOf, dstOf, killK, replZ, spl, splice, AV.tops, Tk.foot, addFoot, fine, apart, disj, St.behind, St.behindB, zipIo, newIo, gMap, ioMap, AV.map, AVs.map, nmap, ↓reduceIte, Nat.reduceAdd, Nat.reduceMul, Nat.reduceSub, Nat.reduceMod, Nat.reduceDiv, Nat.reduceEqDiff, Nat.reduceLT, Nat.reduceLeDiff, Nat.reduceBEq, Nat.reduceBNe, Int.reduceAdd, Int.reduceMul, Int.reduceSub, Int.reduceNeg, Int.reduceLT, Int.reduceLE, Int.reduceEq, Int.reduceToNat, reduceCtorEq, bind, w2, w3]
    refine hK _ _ ?_
    clear hD hK D K
    refine AL_cur 0 rfl rfl rfl rfl en_47 (cpulse_spec b L s1 bank (3 * bit + n) hs1 hL) rfl rfl (fun _ => rfl) ?_
    refine AL_runR TB _ _ (fun D K hD hK => ?_)
    simp only [AwS, TS, binI, runR, runD, ostep, ostepB, aop, aopB, dstOk, aeff, aval, St.ev, alook, blook, aBox, AV.known, cav, St.app, tput, evs, evp, allKnown, gslot, min2, max2, AV.cs, AV.cell, loadC, aField, aIndex, TD.elem, TD.isAgg, TD.isInt, aSlice, aBound, aLen, aBuild, aFill, placesOf, bytesOf, aBin, aEql, TI.one, eqS, eqL, fits, srcOf, dstOf, killK, replZ, spl, splice, AV.tops, Tk.foot, addFoot, fine, apart, disj, St.behind, St.behindB, zipIo, newIo, gMap, ioMap, AV.map, AVs.map, nmap, ↓reduceIte, Nat.reduceAdd, Nat.reduceMul, Nat.reduceSub, Nat.reduceMod, Nat.reduceDiv, Nat.reduceEqDiff, Nat.reduceLT, Nat.reduceLeDiff, Nat.reduceBEq, Nat.reduceBNe, Int.reduceAdd, Int.reduceMul, Int.reduceSub, Int.reduceNeg, Int.reduceLT, Int.reduceLE, Int.reduceEq, Int.reduceToNat, reduceCtorEq, bind]
    refine hD _ ?_
    clear hD hK D K
    refine hK2 _ ?_
    refine AW_regl TB (fun D K hD hK => ?_)
    simp only [AwS, TS, binI, runR, runD, ostep, ostepB, aop, aopB, dstOk, aeff, aval, St.ev, alook, blook, aBox, AV.known, cav, St.app, tput, evs, evp, allKnown, gslot, min2, max2, AV.cs, AV.cell, loadC, aField, aIndex, TD.elem, TD.isAgg, TD.isInt, aSlice, aBound, aLen, aBuild, aFill, placesOf, bytesOf, aBin, aEql, TI.one, eqS, eqL, fits, srcOf, dstOf, killK, replZ, spl, splice, AV.tops, Tk.foot, addFoot, fine, apart, disj, St.behind, St.behindB, zipIo, newIo, gMap, ioMap, AV.map, AVs.map, nmap, ↓reduceIte, Nat.reduceAdd, Nat.reduceMul, Nat.reduceSub, Nat.reduceMod, Nat.reduceDiv, Nat.reduceEqDiff, Nat.reduceLT, Nat.reduceLeDiff, Nat.reduceBEq, Nat.reduceBNe, Int.reduceAdd, Int.reduceMul, Int.reduceSub, Int.reduceNeg, Int.reduceLT, Int.reduceLE, Int.reduceEq, Int.reduceToNat, reduceCtorEq, bind, w1]
    refine hD _ ?_
    clear hD hK D K
    refine ⟨(n + 1, cpulse L bank (3 * bit + n) s1), [(0, 0)], ⟨by dsimp only; omega, cdo_le hs1, ?_⟩, by dsimp only; omega, ?_⟩
    · rw [← hrun, show 3 - n = 3 - (n + 1) + 1 by omega, cpulGo]
    · refine ⟨rfl, by simp [cpF], ⟨rfl, rfl⟩, ?_, ?_, by simp [cpF], by simp [cpF, nmap], ?_⟩
      · simp [cpF, alook, AV.map, AVs.map, nmap, AVs_map_append, ivs_map, yvs_map, curC_flat b L _ _]
      · simp [cpF, blook, AV.map, AVs.map, nmap, AVs_map_append, ivs_map, yvs_map, curC_flat b L _ _]
      · intro k hk
        have hk2 : k < 1 := hk
        rcases k with _ | k <;> first | rfl | omega
  · have hge : n = 3 := by have : ¬ (n : Int) < 3 := by simpa using h
                           omega
    subst hge
    have hfin : cpulGo L bank bit 3 0 s = s1 := by rw [← hrun]; rfl
    simp only [seqQ, blockQ, kQ, loopQ, Ret, ↓reduceIte]
    refine retio (.tup []) [curC b L (cpul3 L bank bit s)] rfl rfl rfl (fun _ => rfl) ?_ (cur_flat1 _ _ _) rfl
    simp [blook, List.range_succ, cpul3, hfin]
end Go.Proofs.Ytdnmnafadondkaa
