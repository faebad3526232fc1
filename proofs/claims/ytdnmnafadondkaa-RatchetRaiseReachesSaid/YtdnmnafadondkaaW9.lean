/- The walks of the reference's levels. No condition. -/
import Derived.Test.YtdnmnafadondkaaW8
set_option linter.unusedVariables false
set_option linter.unusedSimpArgs false
set_option maxRecDepth 100000
namespace Go.Proofs.Ytdnmnafadondkaa
open Go Go.RowKit

def clF (b : Bool) (L : List Rs) (bank : Int) (bits : Nat) (q : Nat × CurSt) : St :=
  { nt := 45, nx := 1, tm := [(7, iv q.1), (0, .ptr 0 0), (1, iv bank), (2, iv bits)], bx := [(0, some (curC b L q.2))], gl := [], df := [] }

def clG (b : Bool) (L : List Rs) (bank : Int) (n : Nat) (q : Nat × CurSt) : St :=
  { nt := 45, nx := 1, tm := [(9, iv q.1), (7, iv n), (0, .ptr 0 0), (1, iv bank)], bx := [(0, some (curC b L q.2))], gl := [], df := [] }

theorem clevel_spec (b : Bool) (L : List Rs) (s : CurSt) (bank : Int) (bits : Nat) (hi : s.1 ≤ L.length) (hL : L.length ≤ 1000) (h2 : bits ≤ 16) : Spec Try.prog [] 23 [.ptr 0 0, iv bank, iv bits] [curC b L s] (fun o => o = .ret (iv (clevel L bank bits s).1) [curC b L (clevel L bank bits s).2] []) := by
  refine spec_of TB 45 [.tmp 6] Try.func23 rfl rfl rfl (Nat.le_of_ble_eq_true rfl) ?_
  intro X w0 E0 hE hX
  simp only [idx, List.map_cons, List.map_nil, List.length_cons, List.length_nil]
  refine AW_reg TB (fun D K hD hK => ?_)
  simp only [AwS, TS, binI, runR, runD, ostep, ostepB, aop, aopB, dstOk, aeff, aval, St.ev, alook, blook, aBox, AV.known, cav, St.app, tput, evs, evp, allKnown, gslot, min2, max2, AV.cs, AV.cell, loadC, aField, aIndex, TD.elem, TD.isAgg, TD.isInt, aSlice, aBound, aLen, aBuild, aFill, placesOf, bytesOf, aBin, aEql, TI.one, eqS, eqL, fits, srcOf, dstOf, killK, replZ, spl, splice, AV.tops, Tk.foot, addFoot, fine, apart, disj, St.behind, St.behindB, zipIo, newIo, gMap, ioMap, AV.map, AVs.map, nmap, ↓reduceIte, Nat.reduceAdd, Nat.reduceMul, Nat.reduceSub, Nat.reduceMod, Nat.reduceDiv, Nat.reduceEqDiff, Nat.reduceLT, Nat.reduceLeDiff, Nat.reduceBEq, Nat.reduceBNe, Int.reduceAdd, Int.reduceMul, Int.reduceSub, Int.reduceNeg, Int.reduceLT, Int.reduceLE, Int.reduceEq, Int.reduceToNat, reduceCtorEq, bind]
  refine hD _ ?_
  clear hD hK D K
  refine AW_reg TB (fun D K hD hK => ?_)
  simp only [AwS, TS, binI, runR, runD, ostep, ostepB, aop, aopB, dstOk, aeff, aval, St.ev, alook, blook, aBox, AV.known, cav, St.app, tput, evs, evp, allKnown, gslot, min2, max2, AV.cs, AV.cell, loadC, aField, aIndex, TD.elem, TD.isAgg, TD.isInt, aSlice, aBound, aLen, aBuild, aFill, placesOf, bytesOf, aBin, aEql, TI.one, eqS, eqL, fits, srcOf, dstOf, killK, replZ, spl, splice, AV.tops, Tk.foot, addFoot, fine, apart, disj, St.behind, St.behindB, zipIo, newIo, gMap, ioMap, AV.map, AVs.map, nmap, ↓reduceIte, Nat.reduceAdd, Nat.reduceMul, Nat.reduceSub, Nat.reduceMod, Nat.reduceDiv, Nat.reduceEqDiff, Nat.reduceLT, Nat.reduceLeDiff, Nat.reduceBEq, Nat.reduceBNe, Int.reduceAdd, Int.reduceMul, Int.reduceSub, Int.reduceNeg, Int.reduceLT, Int.reduceLE, Int.reduceEq, Int.reduceToNat, reduceCtorEq, bind]
  refine hD _ ?_
  clear hD hK D K
  refine AW_seqk (fun K0 hK0 => ?_)
  have cont : ∀ n s1, n ≤ bits → s1.1 ≤ L.length → cup L bank bits 0 s = (n, s1) → ∀ σ' l, Sub σ' (clF b L bank bits (n, s1)) l 1 → K0 σ' := by
    intro n s1 hn hs1 hup σ' l hsub
    refine hK0 _ (AW_sub hE hsub ?_)
    simp only [clF]
    refine AW_seqk (fun K1 hK1 => ?_)
    refine AW_reg TB (fun D K hD hK => ?_)
    simp only [AwS, TS, binI, runR, runD, ostep, ostepB, aop, aopB, dstOk, aeff, aval, St.ev, alook, blook, aBox, AV.known, cav, St.app, tput, evs, evp, allKnown, gslot, min2, max2, AV.cs, AV.cell, loadC, aField, aIndex, TD.elem, TD.isAgg, TD.isInt, aSlice, aBound, aLen, aBuild, aFill, placesOf, bytesOf, aBin, aEql, TI.one, eqS, eqL, fits, srcOf, dstOf, killK, replZ, spl, splice, AV.tops, Tk.foot, addFoot, fine, apart, disj, St.behind, St.behindB, zipIo, newIo, gMap, ioMap, AV.map, AVs.map, nmap, ↓reduceIte, Nat.reduceAdd, Nat.reduceMul, Nat.reduceSub, Nat.reduceMod, Nat.reduceDiv, Nat.reduceEqDiff, Nat.reduceLT, Nat.reduceLeDiff, Nat.reduceBEq, Nat.reduceBNe, Int.reduceAdd, Int.reduceMul, Int.reduceSub, Int.reduceNeg, Int.reduceLT, Int.reduceLE, Int.reduceEq, Int.reduceToNat, reduceCtorEq, bind]
    refine hD _ ?_
    clear hD hK D K
    refine AW_block ?_
    have fin : ∀ k s2, cdown L bank (n - k) k s2 = cdown L bank n 0 s1 → (k = n ∨ s2.2.isSome = true) → ∀ σ' l, Sub σ' (clG b L bank n (k, s2)) l 1 → K1 σ' := by
      intro k s2 hd hend σ' l hsub
      refine hK1 _ (AW_sub hE hsub ?_)
      simp only [clG]
      have hfin : cdown L bank n 0 s1 = s2 := by
        rw [← hd]
        rcases hend with rfl | h
        · rw [Nat.sub_self]; rfl
        · cases hk : n - k with
          | zero => rfl
          | succ m => simp [cdown, h]
      refine AW_reg TB (fun D K hD hK => ?_)
      simp only [AwS, TS, binI, runR, runD, ostep, ostepB, aop, aopB, dstOk, aeff, aval, St.ev, alook, blook, aBox, AV.known, cav, St.app, tput, evs, evp, allKnown, gslot, min2, max2, AV.cs, AV.cell, loadC, aField, aIndex, TD.elem, TD.isAgg, TD.isInt, aSlice, aBound, aLen, aBuild, aFill, placesOf, bytesOf, aBin, aEql, TI.one, eqS, eqL, fits, srcOf, dstOf, killK, replZ, spl, splice, AV.tops, Tk.foot, addFoot, fine, apart, disj, St.behind, St.behindB, zipIo, newIo, gMap, ioMap, AV.map, AVs.map, nmap, ↓reduceIte, Nat.reduceAdd, Nat.reduceMul, Nat.reduceSub, Nat.reduceMod, Nat.reduceDiv, Nat.reduceEqDiff, Nat.reduceLT, Nat.reduceLeDiff, Nat.reduceBEq, Nat.reduceBNe, Int.reduceAdd, Int.reduceMul, Int.reduceSub, Int.reduceNeg, Int.reduceLT, Int.reduceLE, Int.reduceEq, Int.reduceToNat, reduceCtorEq, bind]
      refine hD _ ?_
      clear hD hK D K
      refine AW_ret ?_
      simp only [Ret]
      refine retio (iv (clevel L bank bits s).1) [curC b L (clevel L bank bits s).2] rfl rfl ?_ (fun _ => rfl) ?_ (cur_flat1 _ _ _) rfl
      · simp [resOf, resAll, resAV, alook, AV.known, clevel, hup]
      · simp [blook, List.range_succ, clevel, hup, hfin]
    refine AW_loop (clG b L bank n) (fun q => q.1 ≤ n ∧ q.2.1 ≤ L.length ∧ cdown L bank (n - q.1) q.1 q.2 = cdown L bank n 0 s1) (fun q => n - q.1) hE (0, s1) [(0, 0)] ⟨by omega, hs1, rfl⟩ ?_ ?_
    · refine ⟨rfl, by simp [clG], ⟨rfl, rfl⟩, ?_, ?_, by simp [clG], by simp [clG, nmap], ?_⟩
      · simp [clG, alook, AV.map, AVs.map, nmap, AVs_map_append, ivs_map, yvs_map, curC_flat b L _ _]
      · simp [clG, blook, AV.map, AVs.map, nmap, AVs_map_append, ivs_map, yvs_map, curC_flat b L _ _]
      · intro k hk
        have hk2 : k < 1 := hk
        rcases k with _ | k <;> first | rfl | omega
    rintro ⟨k, s2⟩ ⟨hk, hs2, hrun⟩
    simp only at hk hs2 hrun
    simp only [clG]
    have w1 : IntKind.i64.wrap ((k : Int) + 1) = (k : Int) + 1 := wrap_i64 (by omega) (by omega)
    refine AW_seqk (fun K2 hK2 => ?_)
    by_cases hlt : k < n
    · have hlt' : ((k : Int) < n) := by omega
      cases hst : s2.2.isSome with
      | true =>
        refine AW_reg TB (fun D K hD hK => ?_)
        simp only [AwS, TS, binI, runR, runD, ostep, ostepB, aop, aopB, dstOk, aeff, aval, St.ev, alook, blook, aBox, AV.known, cav, St.app, tput, evs, evp, allKnown, gslot, min2, max2, AV.cs, AV.cell, loadC, aField, aIndex, TD.elem, TD.isAgg, TD.isInt, aSlice, aBound, aLen, aBuild, aFill, placesOf, bytesOf, aBin, aEql, TI.one, eqS, eqL, fits, srcOf, dstOf, killK, replZ, spl, splice, AV.tops, Tk.foot, addFoot, fine, apart, disj, St.behind, St.behindB, zipIo, newIo, gMap, ioMap, AV.map, AVs.map, nmap, ↓reduceIte, Nat.reduceAdd, Nat.reduceMul, Nat.reduceSub, Nat.reduceMod, Nat.reduceDiv, Nat.reduceEqDiff, Nat.reduceLT, Nat.reduceLeDiff, Nat.reduceBEq, Nat.reduceBNe, Int.reduceAdd, Int.reduceMul, Int.reduceSub, Int.reduceNeg, Int.reduceLT, Int.reduceLE, Int.reduceEq, Int.reduceToNat, reduceCtorEq, bind, hlt', curC, hst]
        refine hD _ ?_
        clear hD hK D K
        refine AW_false rfl (AW_exit ?_)
        refine fin k s2 hrun (.inr hst) _ [(0, 0)] ?_
        refine ⟨rfl, by simp [clG], ⟨rfl, rfl⟩, ?_, ?_, by simp [clG], by simp [clG, nmap], ?_⟩
        · simp [clG, alook, AV.map, AVs.map, nmap, AVs_map_append, ivs_map, yvs_map, curC_flat b L _ _, curC, hst, logC_flat L _]
        · simp [clG, blook, AV.map, AVs.map, nmap, AVs_map_append, ivs_map, yvs_map, curC_flat b L _ _, curC, hst, logC_flat L _]
        · intro k hk
          have hk2 : k < 1 := hk
          rcases k with _ | k <;> first | rfl | omega
      | false =>
        refine AW_reg TB (fun D K hD hK => ?_)
        simp only [AwS, TS, binI, runR, runD, ostep, ostepB, aop, aopB, dstOk, aeff, aval, St.ev, alook, blook, aBox, AV.known, cav, St.app, tput, evs, evp, allKnown, gslot, min2, max2, AV.cs, AV.cell, loadC, aField, aIndex, TD.elem, TD.isAgg, TD.isInt, aSlice, aBound, aLen, aBuild, aFill, placesOf, bytesOf, aBin, aEql, TI.one, eqS, eqL, fits, srcOf, dstOf, killK, replZ, spl, splice, AV.tops, Tk.foot, addFoot, fine, apart, disj, St.behind, St.behindB, zipIo, newIo, gMap, ioMap, AV.map, AVs.map, nmap, ↓reduceIte, Nat.reduceAdd, Nat.reduceMul, Nat.reduceSub, Nat.reduceMod, Nat.reduceDiv, Nat.reduceEqDiff, Nat.reduceLT, Nat.reduceLeDiff, Nat.reduceBEq, Nat.reduceBNe, Int.reduceAdd, Int.reduceMul, Int.reduceSub, Int.reduceNeg, Int.reduceLT, Int.reduceLE, Int.reduceEq, Int.reduceToNat, reduceCtorEq, bind, hlt', curC, hst]
        refine hD _ ?_
        clear hD hK D K
        refine AW_true rfl (AW_skip ?_)
        refine hK2 _ ?_
        refine AW_seqk (fun K3 hK3 => ?_)
        refine AW_block ?_
        refine AW_regl TB (fun D K hD hK => ?_)
        simp only [AwS, TS, binI, runR, runD, ostep, ostepB, aop, aopB, dstOk, aeff, aval, St.ev, alook, blook, aBox, AV.known, cav, St.app, tput, evs, evp, allKnown, gslot, min2, max2, AV.cs, AV.cell, loadC, aField, aIndex, TD.elem, TD.isAgg, TD.isInt, aSlice, aBound, aLen, aBuild, aFill, placesOf, bytesOf, aBin, aEql, TI.one, eqS, eqL, fits, srcOf, dstOf, killK, replZ, spl, splice, AV.tops, Tk.foot, addFoot, fine, apart, disj, St.behind, St.behindB, zipIo, newIo, gMap, ioMap, AV.map, AVs.map, nmap, ↓reduceIte, Nat.reduceAdd, Nat.reduceMul, Nat.reduceSub, Nat.reduceMod, Nat.reduceDiv, Nat.reduceEqDiff, Nat.reduceLT, Nat.reduceLeDiff, Nat.reduceBEq, Nat.reduceBNe, Int.reduceAdd, Int.reduceMul, Int.reduceSub, Int.reduceNeg, Int.reduceLT, Int.reduceLE, Int.reduceEq, Int.reduceToNat, reduceCtorEq, bind]
        refine hK _ _ ?_
        clear hD hK D K
        refine AL_cur 0 rfl rfl rfl rfl en_37 (cpul3_spec b L s2 bank k hs2 hL (by omega) (by omega)) rfl ?_ (fun _ => rfl) ?_
        · simp [blook, curC, hst]
        refine AL_runR TB _ _ (fun D K hD hK => ?_)
        simp only [AwS, TS, binI, runR, runD, ostep, ostepB, aop, aopB, dstOk, aeff, aval, St.ev, alook, blook, aBox, AV.known, cav, St.app, tput, evs, evp, allKnown, gslot, min2, max2, AV.cs, AV.cell, loadC, aField, aIndex, TD.elem, TD.isAgg, TD.isInt, aSlice, aBound, aLen, aBuild, aFill, placesOf, bytesOf, aBin, aEql, TI.one, eqS, eqL, fits, srcOf, dstOf, killK, replZ, spl, splice, AV.tops, Tk.foot, addFoot, fine, apart, disj, St.behind, St.behindB, zipIo, newIo, gMap, ioMap, AV.map, AVs.map, nmap, ↓reduceIte, Nat.reduceAdd, Nat.reduceMul, Nat.reduceSub, Nat.reduceMod, Nat.reduceDiv, Nat.reduceEqDiff, Nat.reduceLT, Nat.reduceLeDiff, Nat.reduceBEq, Nat.reduceBNe, Int.reduceAdd, Int.reduceMul, Int.reduceSub, Int.reduceNeg, Int.reduceLT, Int.reduceLE, Int.reduceEq, Int.reduceToNat, reduceCtorEq, bind]
        refine hD _ ?_
        clear hD hK D K
        refine hK3 _ ?_
        refine AW_regl TB (fun D K hD hK => ?_)
        simp only [AwS, TS, binI, runR, runD, ostep, ostepB, aop, aopB, dstOk, aeff, aval, St.ev, alook, blook, aBox, AV.known, cav, St.app, tput, evs, evp, allKnown, gslot, min2, max2, AV.cs, AV.cell, loadC, aField, aIndex, TD.elem, TD.isAgg, TD.isInt, aSlice, aBound, aLen, aBuild, aFill, placesOf, bytesOf, aBin, aEql, TI.one, eqS, eqL, fits, srcOf, dstOf, killK, replZ, spl, splice, AV.tops, Tk.foot, addFoot, fine, apart, disj, St.behind, St.behindB, zipIo, newIo, gMap, ioMap, AV.map, AVs.map, nmap, ↓reduceIte, Nat.reduceAdd, Nat.reduceMul, Nat.reduceSub, Nat.reduceMod, Nat.reduceDiv, Nat.reduceEqDiff, Nat.reduceLT, Nat.reduceLeDiff, Nat.reduceBEq, Nat.reduceBNe, Int.reduceAdd, Int.reduceMul, Int.reduceSub, Int.reduceNeg, Int.reduceLT, Int.reduceLE, Int.reduceEq, Int.reduceToNat, reduceCtorEq, bind, w1]
        refine hD _ ?_
        clear hD hK D K
        refine ⟨(k + 1, cpul3 L bank k s2), [(0, 0)], ⟨by dsimp only; omega, cpul3_le hs2, ?_⟩, by dsimp only; omega, ?_⟩
        · rw [← hrun, show n - k = n - (k + 1) + 1 by omega, cdown, if_neg (by simp [hst])]
        · refine ⟨rfl, by simp [clG], ⟨rfl, rfl⟩, ?_, ?_, by simp [clG], by simp [clG, nmap], ?_⟩
          · simp [clG, alook, AV.map, AVs.map, nmap, AVs_map_append, ivs_map, yvs_map, curC_flat b L _ _]
          · simp [clG, blook, AV.map, AVs.map, nmap, AVs_map_append, ivs_map, yvs_map, curC_flat b L _ _]
          · intro k hk
            have hk2 : k < 1 := hk
            rcases k with _ | k <;> first | rfl | omega
    · have hlt' : ¬ ((k : Int) < n) := by omega
      refine AW_reg TB (fun D K hD hK => ?_)
      simp only [AwS, TS, binI, runR, runD, ostep, ostepB, aop, aopB, dstOk, aeff, aval, St.ev, alook, blook, aBox, AV.known, cav, St.app, tput, evs, evp, allKnown, gslot, min2, max2, AV.cs, AV.cell, loadC, aField, aIndex, TD.elem, TD.isAgg, TD.isInt, aSlice, aBound, aLen, aBuild, aFill, placesOf, bytesOf, aBin, aEql, TI.one, eqS, eqL, fits, srcOf, dstOf, killK, replZ, spl, splice, AV.tops, Tk.foot, addFoot, fine, apart, disj, St.behind, St.behindB, zipIo, newIo, gMap, ioMap, AV.map, AVs.map, nmap, ↓reduceIte, Nat.reduceAdd, Nat.reduceMul, Nat.reduceSub, Nat.reduceMod, Nat.reduceDiv, Nat.reduceEqDiff, Nat.reduceLT, Nat.reduceLeDiff, Nat.reduceBEq, Nat.reduceBNe, Int.reduceAdd, Int.reduceMul, Int.reduceSub, Int.reduceNeg, Int.reduceLT, Int.reduceLE, Int.reduceEq, Int.reduceToNat, reduceCtorEq, bind, hlt', Bool.false_eq_true]
      refine hD _ ?_
      clear hD hK D K
      refine AW_false rfl (AW_exit ?_)
      refine fin k s2 hrun (.inl (by omega)) _ [(0, 0)] ?_
      refine ⟨rfl, by simp [clG], ⟨rfl, rfl⟩, ?_, ?_, by simp [clG], by simp [clG, nmap], ?_⟩
      · simp [clG, alook, AV.map, AVs.map, nmap, AVs_map_append, ivs_map, yvs_map, curC_flat b L _ _]
      · simp [clG, blook, AV.map, AVs.map, nmap, AVs_map_append, ivs_map, yvs_map, curC_flat b L _ _]
      · intro k hk
        have hk2 : k < 1 := hk
        rcases k with _ | k <;> first | rfl | omega
  refine AW_block ?_
  refine AW_loop (clF b L bank bits) (fun q => q.1 ≤ bits ∧ q.2.1 ≤ L.length ∧ cup L bank (bits - q.1) q.1 q.2 = cup L bank bits 0 s) (fun q => bits - q.1) hE (0, s) [(0, 0)] ⟨by omega, hi, rfl⟩ ?_ ?_
  · refine ⟨rfl, by simp [clF], ⟨rfl, rfl⟩, ?_, ?_, by simp [clF], by simp [clF, nmap], ?_⟩
    · simp [clF, alook, AV.map, AVs.map, nmap, AVs_map_append, ivs_map, yvs_map, curC_flat b L _ _]
    · simp [clF, blook, AV.map, AVs.map, nmap, AVs_map_append, ivs_map, yvs_map, curC_flat b L _ _]
    · intro k hk
      have hk2 : k < 1 := hk
      rcases k with _ | k <;> first | rfl | omega
  rintro ⟨n, s1⟩ ⟨hn, hs1, hrun⟩
  simp only at hn hs1 hrun
  simp only [clF]
  have w1 : IntKind.i64.wrap ((n : Int) + 1) = (n : Int) + 1 := wrap_i64 (by omega) (by omega)
  refine AW_seqk (fun K1 hK1 => ?_)
  by_cases hlt : n < bits
  · have hlt' : ((n : Int) < bits) := by omega
    have hstep : cup L bank (bits - n) n s1 = if s1.2.isSome = true then (n, s1) else if (cbit L bank n s1).1 = true then cup L bank (bits - (n + 1)) (n + 1) (cbit L bank n s1).2 else (n, (cbit L bank n s1).2) := by
      rw [show bits - n = bits - (n + 1) + 1 by omega, cup]
    cases hst : s1.2.isSome with
    | true =>
      refine AW_reg TB (fun D K hD hK => ?_)
      simp only [AwS, TS, binI, runR, runD, ostep, ostepB, aop, aopB, dstOk, aeff, aval, St.ev, alook, blook, aBox, AV.known, cav, St.app, tput, evs, evp, allKnown, gslot, min2, max2, AV.cs, AV.cell, loadC, aField, aIndex, TD.elem, TD.isAgg, TD.isInt, aSlice, aBound, aLen, aBuild, aFill, placesOf, bytesOf, aBin, aEql, TI.one, eqS, eqL, fits, srcOf, dstOf, killK, replZ, spl, splice, AV.tops, Tk.foot, addFoot, fine, apart, disj, St.behind, St.behindB, zipIo, newIo, gMap, ioMap, AV.map, AVs.map, nmap, ↓reduceIte, Nat.reduceAdd, Nat.reduceMul, Nat.reduceSub, Nat.reduceMod, Nat.reduceDiv, Nat.reduceEqDiff, Nat.reduceLT, Nat.reduceLeDiff, Nat.reduceBEq, Nat.reduceBNe, Int.reduceAdd, Int.reduceMul, Int.reduceSub, Int.reduceNeg, Int.reduceLT, Int.reduceLE, Int.reduceEq, Int.reduceToNat, reduceCtorEq, bind, hlt', curC, hst]
      refine hD _ ?_
      clear hD hK D K
      refine AW_false rfl (AW_exit ?_)
      refine cont n s1 hn hs1 ?_ _ [(0, 0)] ?_
      · rw [← hrun, hstep, if_pos hst]
      · refine ⟨rfl, by simp [clF], ⟨rfl, rfl⟩, ?_, ?_, by simp [clF], by simp [clF, nmap], ?_⟩
        · simp [clF, alook, AV.map, AVs.map, nmap, AVs_map_append, ivs_map, yvs_map, curC_flat b L _ _, curC, hst, logC_flat L _]
        · simp [clF, blook, AV.map, AVs.map, nmap, AVs_map_append, ivs_map, yvs_map, curC_flat b L _ _, curC, hst, logC_flat L _]
        · intro k hk
          have hk2 : k < 1 := hk
          rcases k with _ | k <;> first | rfl | omega
    | false =>
      refine AW_reg TB (fun D K hD hK => ?_)
      simp only [AwS, TS, binI, runR, runD, ostep, ostepB, aop, aopB, dstOk, aeff, aval, St.ev, alook, blook, aBox, AV.known, cav, St.app, tput, evs, evp, allKnown, gslot, min2, max2, AV.cs, AV.cell, loadC, aField, aIndex, TD.elem, TD.isAgg, TD.isInt, aSlice, aBound, aLen, aBuild, aFill, placesOf, bytesOf, aBin, aEql, TI.one, eqS, eqL, fits, srcOf, dstOf, killK, replZ, spl, splice, AV.tops, Tk.foot, addFoot, fine, apart, disj, St.behind, St.behindB, zipIo, newIo, gMap, ioMap, AV.map, AVs.map, nmap, ↓reduceIte, Nat.reduceAdd, Nat.reduceMul, Nat.reduceSub, Nat.reduceMod, Nat.reduceDiv, Nat.reduceEqDiff, Nat.reduceLT, Nat.reduceLeDiff, Nat.reduceBEq, Nat.reduceBNe, Int.reduceAdd, Int.reduceMul, Int.reduceSub, Int.reduceNeg, Int.reduceLT, Int.reduceLE, Int.reduceEq, Int.reduceToNat, reduceCtorEq, bind, hlt', curC, hst]
      refine hD _ ?_
      clear hD hK D K
      refine AW_true rfl (AW_skip ?_)
      refine hK1 _ ?_
      refine AW_block ?_
      refine AW_reg TB (fun D K hD hK => ?_)
      simp only [AwS, TS, binI, runR, runD, ostep, ostepB, aop, aopB, dstOk, aeff, aval, St.ev, alook, blook, aBox, AV.known, cav, St.app, tput, evs, evp, allKnown, gslot, min2, max2, AV.cs, AV.cell, loadC, aField, aIndex, TD.elem, TD.isAgg, TD.isInt, aSlice, aBound, aLen, aBuild, aFill, placesOf, bytesOf, aBin, aEql, TI.one, eqS, eqL, fits, srcOf, dstOf, killK, replZ, spl, splice, AV.tops, Tk.foot, addFoot, fine, apart, disj, St.behind, St.behindB, zipIo, newIo, gMap, ioMap, AV.map, AVs.map, nmap, ↓reduceIte, Nat.reduceAdd, Nat.reduceMul, Nat.reduceSub, Nat.reduceMod, Nat.reduceDiv, Nat.reduceEqDiff, Nat.reduceLT, Nat.reduceLeDiff, Nat.reduceBEq, Nat.reduceBNe, Int.reduceAdd, Int.reduceMul, Int.reduceSub, Int.reduceNeg, Int.reduceLT, Int.reduceLE, Int.reduceEq, Int.reduceToNat, reduceCtorEq, bind]
      refine hK _ _ ?_
      clear hD hK D K
      refine AL_cur 0 rfl rfl rfl rfl en_36 (cbit_spec b L s1 bank n hs1 hL (by omega) (by omega)) rfl ?_ (fun _ => rfl) ?_
      · simp [blook, curC, hst]
      refine AL_runR TB _ _ (fun D K hD hK => ?_)
      simp only [AwS, TS, binI, runR, runD, ostep, ostepB, aop, aopB, dstOk, aeff, aval, St.ev, alook, blook, aBox, AV.known, cav, St.app, tput, evs, evp, allKnown, gslot, min2, max2, AV.cs, AV.cell, loadC, aField, aIndex, TD.elem, TD.isAgg, TD.isInt, aSlice, aBound, aLen, aBuild, aFill, placesOf, bytesOf, aBin, aEql, TI.one, eqS, eqL, fits, srcOf, dstOf, killK, replZ, spl, splice, AV.tops, Tk.foot, addFoot, fine, apart, disj, St.behind, St.behindB, zipIo, newIo, gMap, ioMap, AV.map, AVs.map, nmap, ↓reduceIte, Nat.reduceAdd, Nat.reduceMul, Nat.reduceSub, Nat.reduceMod, Nat.reduceDiv, Nat.reduceEqDiff, Nat.reduceLT, Nat.reduceLeDiff, Nat.reduceBEq, Nat.reduceBNe, Int.reduceAdd, Int.reduceMul, Int.reduceSub, Int.reduceNeg, Int.reduceLT, Int.reduceLE, Int.reduceEq, Int.reduceToNat, reduceCtorEq, bind]
      refine hD _ ?_
      clear hD hK D K
      simp only [seqQ]
      refine AW_seqk (fun K2 hK2 => ?_)
      refine AW_reg TB (fun D K hD hK => ?_)
      simp only [AwS, TS, binI, runR, runD, ostep, ostepB, aop, aopB, dstOk, aeff, aval, St.ev, alook, blook, aBox, AV.known, cav, St.app, tput, evs, evp, allKnown, gslot, min2, max2, AV.cs, AV.cell, loadC, aField, aIndex, TD.elem, TD.isAgg, TD.isInt, aSlice, aBound, aLen, aBuild, aFill, placesOf, bytesOf, aBin, aEql, TI.one, eqS, eqL, fits, srcOf, dstOf, killK, replZ, spl, splice, AV.tops, Tk.foot, addFoot, fine, apart, disj, St.behind, St.behindB, zipIo, newIo, gMap, ioMap, AV.map, AVs.map, nmap, ↓reduceIte, Nat.reduceAdd, Nat.reduceMul, Nat.reduceSub, Nat.reduceMod, Nat.reduceDiv, Nat.reduceEqDiff, Nat.reduceLT, Nat.reduceLeDiff, Nat.reduceBEq, Nat.reduceBNe, Int.reduceAdd, Int.reduceMul, Int.reduceSub, Int.reduceNeg, Int.reduceLT, Int.reduceLE, Int.reduceEq, Int.reduceToNat, reduceCtorEq, bind]
      refine hD _ ?_
      clear hD hK D K
      refine AW_cond rfl (fun hv => AW_exit ?_) (fun hv => AW_skip ?_)
      · have hv' : (cbit L bank n s1).1 = false := by simpa using hv
        refine cont n (cbit L bank n s1).2 hn (cbit_le hs1) ?_ _ [(0, 0)] ?_
        · rw [← hrun, hstep, if_neg (by simp [hst]), if_neg (by simp [hv'])]
        · refine ⟨rfl, by simp [clF], ⟨rfl, rfl⟩, ?_, ?_, by simp [clF], by simp [clF, nmap], ?_⟩
          · simp [clF, alook, AV.map, AVs.map, nmap, AVs_map_append, ivs_map, yvs_map, curC_flat b L _ _]
          · simp [clF, blook, AV.map, AVs.map, nmap, AVs_map_append, ivs_map, yvs_map, curC_flat b L _ _]
          · intro k hk
            have hk2 : k < 1 := hk
            rcases k with _ | k <;> first | rfl | omega
      · have hv' : (cbit L bank n s1).1 = true := by simpa using hv
        refine hK2 _ ?_
        refine AW_regl TB (fun D K hD hK => ?_)
        simp only [AwS, TS, binI, runR, runD, ostep, ostepB, aop, aopB, dstOk, aeff, aval, St.ev, alook, blook, aBox, AV.known, cav, St.app, tput, evs, evp, allKnown, gslot, min2, max2, AV.cs, AV.cell, loadC, aField, aIndex, TD.elem, TD.isAgg, TD.isInt, aSlice, aBound, aLen, aBuild, aFill, placesOf, bytesOf, aBin, aEql, TI.one, eqS, eqL, fits, srcOf, dstOf, killK, replZ, spl, splice, AV.tops, Tk.foot, addFoot, fine, apart, disj, St.behind, St.behindB, zipIo, newIo, gMap, ioMap, AV.map, AVs.map, nmap, ↓reduceIte, Nat.reduceAdd, Nat.reduceMul, Nat.reduceSub, Nat.reduceMod, Nat.reduceDiv, Nat.reduceEqDiff, Nat.reduceLT, Nat.reduceLeDiff, Nat.reduceBEq, Nat.reduceBNe, Int.reduceAdd, Int.reduceMul, Int.reduceSub, Int.reduceNeg, Int.reduceLT, Int.reduceLE, Int.reduceEq, Int.reduceToNat, reduceCtorEq, bind, w1]
        refine hD _ ?_
        clear hD hK D K
        refine ⟨(n + 1, (cbit L bank n s1).2), [(0, 0)], ⟨by dsimp only; omega, cbit_le hs1, ?_⟩, by dsimp only; omega, ?_⟩
        · rw [← hrun, hstep, if_neg (by simp [hst]), if_pos hv']
        · refine ⟨rfl, by simp [clF], ⟨rfl, rfl⟩, ?_, ?_, by simp [clF], by simp [clF, nmap], ?_⟩
          · simp [clF, alook, AV.map, AVs.map, nmap, AVs_map_append, ivs_map, yvs_map, curC_flat b L _ _]
          · simp [clF, blook, AV.map, AVs.map, nmap, AVs_map_append, ivs_map, yvs_map, curC_flat b L _ _]
          · intro k hk
            have hk2 : k < 1 := hk
            rcases k with _ | k <;> first | rfl | omega
  · have hlt' : ¬ ((n : Int) < bits) := by omega
    refine AW_reg TB (fun D K hD hK => ?_)
    simp only [AwS, TS, binI, runR, runD, ostep, ostepB, aop, aopB, dstOk, aeff, aval, St.ev, alook, blook, aBox, AV.known, cav, St.app, tput, evs, evp, allKnown, gslot, min2, max2, AV.cs, AV.cell, loadC, aField, aIndex, TD.elem, TD.isAgg, TD.isInt, aSlice, aBound, aLen, aBuild, aFill, placesOf, bytesOf, aBin, aEql, TI.one, eqS, eqL, fits, srcOf, dstOf, killK, replZ, spl, splice, AV.tops, Tk.foot, addFoot, fine, apart, disj, St.behind, St.behindB, zipIo, newIo, gMap, ioMap, AV.map, AVs.map, nmap, ↓reduceIte, Nat.reduceAdd, Nat.reduceMul, Nat.reduceSub, Nat.reduceMod, Nat.reduceDiv, Nat.reduceEqDiff, Nat.reduceLT, Nat.reduceLeDiff, Nat.reduceBEq, Nat.reduceBNe, Int.reduceAdd, Int.reduceMul, Int.reduceSub, Int.reduceNeg, Int.reduceLT, Int.reduceLE, Int.reduceEq, Int.reduceToNat, reduceCtorEq, bind, hlt', Bool.false_eq_true]
    refine hD _ ?_
    clear hD hK D K
    refine AW_false rfl (AW_exit ?_)
    refine cont n s1 hn hs1 ?_ _ [(0, 0)] ?_
    · rw [← hrun, show bits - n = 0 by omega]; rfl
    · refine ⟨rfl, by simp [clF], ⟨rfl, rfl⟩, ?_, ?_, by simp [clF], by simp [clF, nmap], ?_⟩
      · simp [clF, alook, AV.map, AVs.map, nmap, AVs_map_append, ivs_map, yvs_map, curC_flat b L _ _]
      · simp [clF, blook, AV.map, AVs.map, nmap, AVs_map_append, ivs_map, yvs_map, curC_flat b L _ _]
      · intro k hk
        have hk2 : k < 1 := hk
        rcases k with _ | k <;> first | rfl | omega
end Go.Proofs.Ytdnmnafadondkaa
