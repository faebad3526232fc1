/- The walks of the ratchet's levels. No condition. -/
import Derived.Test.YtdnmnafadondkaaW2
set_option linter.unusedVariables false
set_option linter.unusedSimpArgs false
set_option maxRecDepth 100000
namespace Go.Proofs.Ytdnmnafadondkaa
open Go Go.RowKit

def lvF (b : Bool) (L : List Rs) (bank : Int) (bits : Nat) (q : Nat × Nat) : St :=
  { nt := 29, nx := 2, tm := [(7, iv q.1), (0, doA), (1, iv bank), (2, iv bits)], bx := [(0, some [iv q.2]), (1, some [.ds b L.length (logC L)])], gl := [], df := [] }

def lvG (b : Bool) (L : List Rs) (bank : Int) (n : Nat) (q : Nat × Nat) : St :=
  { nt := 29, nx := 2, tm := [(20, iv q.1), (19, iv n), (7, iv n), (0, doA), (1, iv bank)], bx := [(0, some [iv q.2]), (1, some [.ds b L.length (logC L)])], gl := [], df := [] }

theorem level_spec (b : Bool) (L : List Rs) (i : Nat) (bank : Int) (bits : Nat) (hi : i ≤ L.length) (hL : L.length ≤ 1000) (h2 : bits ≤ 16) : Spec Try.prog [] 22 [doA, iv bank, iv bits] (doIo b L i) (DoR b L [] (fun n : Nat => iv n) ((levelP bank bits).runAt L i)) := by
  refine spec_of TB 29 [.tmp 6] Try.func22 rfl rfl rfl (Nat.le_of_ble_eq_true rfl) ?_
  intro X w0 E0 hE hX
  have hlf := logC_flat L
  simp only [idx, doIo, List.map_cons, List.map_nil, List.length_cons, List.length_nil]
  refine AW_reg TB (fun D K hD hK => ?_)
  simp only [AwS, TS, binI, runR, runD, ostep, ostepB, aop, aopB, dstOk, aeff, aval, St.ev, alook, blook, aBox, AV.known, cav, St.app, tput, evs, evp, allKnown, gslot, min2, max2, AV.cs, AV.cell, loadC, aField, aIndex, TD.elem, TD.isAgg, TD.isInt, aSlice, aBound, aLen, aBuild, aFill, placesOf, bytesOf, aBin, aEql, TI.one, eqS, eqL, fits, srcOf, dstOf, killK, replZ, spl, splice, AV.tops, Tk.foot, addFoot, fine, apart, disj, St.behind, St.behindB, zipIo, newIo, gMap, ioMap, AV.map, AVs.map, nmap, ↓reduceIte, Nat.reduceAdd, Nat.reduceMul, Nat.reduceSub, Nat.reduceMod, Nat.reduceDiv, Nat.reduceEqDiff, Nat.reduceLT, Nat.reduceLeDiff, Nat.reduceBEq, Nat.reduceBNe, Int.reduceAdd, Int.reduceMul, Int.reduceSub, Int.reduceNeg, Int.reduceLT, Int.reduceLE, Int.reduceEq, Int.reduceToNat, reduceCtorEq, bind]
  refine hD _ ?_
  clear hD hK D K
  refine AW_scope ?_
  refine AW_reg TB (fun D K hD hK => ?_)
  simp only [AwS, TS, binI, runR, runD, ostep, ostepB, aop, aopB, dstOk, aeff, aval, St.ev, alook, blook, aBox, AV.known, cav, St.app, tput, evs, evp, allKnown, gslot, min2, max2, AV.cs, AV.cell, loadC, aField, aIndex, TD.elem, TD.isAgg, TD.isInt, aSlice, aBound, aLen, aBuild, aFill, placesOf, bytesOf, aBin, aEql, TI.one, eqS, eqL, fits, srcOf, dstOf, killK, replZ, spl, splice, AV.tops, Tk.foot, addFoot, fine, apart, disj, St.behind, St.behindB, zipIo, newIo, gMap, ioMap, AV.map, AVs.map, nmap, ↓reduceIte, Nat.reduceAdd, Nat.reduceMul, Nat.reduceSub, Nat.reduceMod, Nat.reduceDiv, Nat.reduceEqDiff, Nat.reduceLT, Nat.reduceLeDiff, Nat.reduceBEq, Nat.reduceBNe, Int.reduceAdd, Int.reduceMul, Int.reduceSub, Int.reduceNeg, Int.reduceLT, Int.reduceLE, Int.reduceEq, Int.reduceToNat, reduceCtorEq, bind]
  refine hD _ ?_
  clear hD hK D K
  refine AW_seq (AW_label ?_)
  refine AW_seqk (fun K0 hK0 => ?_)
  have cont : ∀ n j, n ≤ bits → j ≤ L.length → (upP bank bits 0).runAt L i = .inl (n, j) → ∀ σ' l, Sub σ' (lvF b L bank bits (n, j)) l 2 → K0 σ' := by
    intro n j hn hj hup σ' l hsub
    refine hK0 _ (AW_sub hE hsub ?_)
    simp only [lvF]
    refine AW_seqk (fun K1 hK1 => ?_)
    refine AW_reg TB (fun D K hD hK => ?_)
    simp only [AwS, TS, binI, runR, runD, ostep, ostepB, aop, aopB, dstOk, aeff, aval, St.ev, alook, blook, aBox, AV.known, cav, St.app, tput, evs, evp, allKnown, gslot, min2, max2, AV.cs, AV.cell, loadC, aField, aIndex, TD.elem, TD.isAgg, TD.isInt, aSlice, aBound, aLen, aBuild, aFill, placesOf, bytesOf, aBin, aEql, TI.one, eqS, eqL, fits, srcOf, dstOf, killK, replZ, spl, splice, AV.tops, Tk.foot, addFoot, fine, apart, disj, St.behind, St.behindB, zipIo, newIo, gMap, ioMap, AV.map, AVs.map, nmap, ↓reduceIte, Nat.reduceAdd, Nat.reduceMul, Nat.reduceSub, Nat.reduceMod, Nat.reduceDiv, Nat.reduceEqDiff, Nat.reduceLT, Nat.reduceLeDiff, Nat.reduceBEq, Nat.reduceBNe, Int.reduceAdd, Int.reduceMul, Int.reduceSub, Int.reduceNeg, Int.reduceLT, Int.reduceLE, Int.reduceEq, Int.reduceToNat, reduceCtorEq, bind]
    refine hD _ ?_
    clear hD hK D K
    refine AW_block ?_
    refine AW_loop (lvG b L bank n) (fun q => q.1 ≤ n ∧ q.2 ≤ L.length ∧ (allP bank (n - q.1) q.1).runAt L q.2 = (allP bank n 0).runAt L j) (fun q => n - q.1) hE (0, j) [(0, 0), (1, 1)] ⟨by omega, hj, rfl⟩ ?_ ?_
    · refine ⟨rfl, by simp [lvG], ⟨rfl, rfl⟩, ?_, ?_, by simp [lvG], by simp [lvG, nmap], ?_⟩
      · simp [lvG, alook, AV.map, AVs.map, nmap, AVs_map_append, ivs_map, yvs_map, hlf _, doA]
      · simp [lvG, blook, AV.map, AVs.map, nmap, AVs_map_append, ivs_map, yvs_map, hlf _, doA]
      · intro k hk
        have hk2 : k < 2 := hk
        rcases k with _ | _ | k <;> first | rfl | omega
    rintro ⟨k, j1⟩ ⟨hk, hj1, hrun⟩
    simp only at hk hj1 hrun
    simp only [lvG]
    have w1 : IntKind.i64.wrap ((k : Int) + 1) = (k : Int) + 1 := wrap_i64 (by omega) (by omega)
    refine AW_reg TB (fun D K hD hK => ?_)
    simp only [AwS, TS, binI, runR, runD, ostep, ostepB, aop, aopB, dstOk, aeff, aval, St.ev, alook, blook, aBox, AV.known, cav, St.app, tput, evs, evp, allKnown, gslot, min2, max2, AV.cs, AV.cell, loadC, aField, aIndex, TD.elem, TD.isAgg, TD.isInt, aSlice, aBound, aLen, aBuild, aFill, placesOf, bytesOf, aBin, aEql, TI.one, eqS, eqL, fits, srcOf, dstOf, killK, replZ, spl, splice, AV.tops, Tk.foot, addFoot, fine, apart, disj, St.behind, St.behindB, zipIo, newIo, gMap, ioMap, AV.map, AVs.map, nmap, ↓reduceIte, Nat.reduceAdd, Nat.reduceMul, Nat.reduceSub, Nat.reduceMod, Nat.reduceDiv, Nat.reduceEqDiff, Nat.reduceLT, Nat.reduceLeDiff, Nat.reduceBEq, Nat.reduceBNe, Int.reduceAdd, Int.reduceMul, Int.reduceSub, Int.reduceNeg, Int.reduceLT, Int.reduceLE, Int.reduceEq, Int.reduceToNat, reduceCtorEq, bind]
    refine hD _ ?_
    clear hD hK D K
    refine AW_seq (AW_cond rfl (fun h => AW_skip ?_) (fun h => AW_exit ?_))
    · have hlt : k < n := by simpa using h
      refine AW_seqk (fun K2 hK2 => ?_)
      refine AW_block ?_
      refine AW_reg TB (fun D K hD hK => ?_)
      simp only [AwS, TS, binI, runR, runD, ostep, ostepB, aop, aopB, dstOk, aeff, aval, St.ev, alook, blook, aBox, AV.known, cav, St.app, tput, evs, evp, allKnown, gslot, min2, max2, AV.cs, AV.cell, loadC, aField, aIndex, TD.elem, TD.isAgg, TD.isInt, aSlice, aBound, aLen, aBuild, aFill, placesOf, bytesOf, aBin, aEql, TI.one, eqS, eqL, fits, srcOf, dstOf, killK, replZ, spl, splice, AV.tops, Tk.foot, addFoot, fine, apart, disj, St.behind, St.behindB, zipIo, newIo, gMap, ioMap, AV.map, AVs.map, nmap, ↓reduceIte, Nat.reduceAdd, Nat.reduceMul, Nat.reduceSub, Nat.reduceMod, Nat.reduceDiv, Nat.reduceEqDiff, Nat.reduceLT, Nat.reduceLeDiff, Nat.reduceBEq, Nat.reduceBNe, Int.reduceAdd, Int.reduceMul, Int.reduceSub, Int.reduceNeg, Int.reduceLT, Int.reduceLE, Int.reduceEq, Int.reduceToNat, reduceCtorEq, bind]
      refine hD _ ?_
      clear hD hK D K
      refine AW_regl TB (fun D K hD hK => ?_)
      simp only [AwS, TS, binI, runR, runD, ostep, ostepB, aop, aopB, dstOk, aeff, aval, St.ev, alook, blook, aBox, AV.known, cav, St.app, tput, evs, evp, allKnown, gslot, min2, max2, AV.cs, AV.cell, loadC, aField, aIndex, TD.elem, TD.isAgg, TD.isInt, aSlice, aBound, aLen, aBuild, aFill, placesOf, bytesOf, aBin, aEql, TI.one, eqS, eqL, fits, srcOf, dstOf, killK, replZ, spl, splice, AV.tops, Tk.foot, addFoot, fine, apart, disj, St.behind, St.behindB, zipIo, newIo, gMap, ioMap, AV.map, AVs.map, nmap, ↓reduceIte, Nat.reduceAdd, Nat.reduceMul, Nat.reduceSub, Nat.reduceMod, Nat.reduceDiv, Nat.reduceEqDiff, Nat.reduceLT, Nat.reduceLeDiff, Nat.reduceBEq, Nat.reduceBNe, Int.reduceAdd, Int.reduceMul, Int.reduceSub, Int.reduceNeg, Int.reduceLT, Int.reduceLE, Int.reduceEq, Int.reduceToNat, reduceCtorEq, bind, doA]
      refine hK _ _ ?_
      clear hD hK D K
      refine AL_do rfl rfl rfl rfl en_35 (pulse3_spec b L j1 bank k hj1 hL (by omega) (by omega)) rfl rfl rfl (fun _ _ => rfl) hj1 (fun v j' hr hjj hj' => ?_) (fun a j' hr => ?_)
      · refine AL_runR TB _ _ (fun D K hD hK => ?_)
        simp only [AwS, TS, binI, runR, runD, ostep, ostepB, aop, aopB, dstOk, aeff, aval, St.ev, alook, blook, aBox, AV.known, cav, St.app, tput, evs, evp, allKnown, gslot, min2, max2, AV.cs, AV.cell, loadC, aField, aIndex, TD.elem, TD.isAgg, TD.isInt, aSlice, aBound, aLen, aBuild, aFill, placesOf, bytesOf, aBin, aEql, TI.one, eqS, eqL, fits, srcOf, dstOf, killK, replZ, spl, splice, AV.tops, Tk.foot, addFoot, fine, apart, disj, St.behind, St.behindB, zipIo, newIo, gMap, ioMap, AV.map, AVs.map, nmap, ↓reduceIte, Nat.reduceAdd, Nat.reduceMul, Nat.reduceSub, Nat.reduceMod, Nat.reduceDiv, Nat.reduceEqDiff, Nat.reduceLT, Nat.reduceLeDiff, Nat.reduceBEq, Nat.reduceBNe, Int.reduceAdd, Int.reduceMul, Int.reduceSub, Int.reduceNeg, Int.reduceLT, Int.reduceLE, Int.reduceEq, Int.reduceToNat, reduceCtorEq, bind]
        refine hD _ ?_
        clear hD hK D K
        refine hK2 _ ?_
        refine AW_regl TB (fun D K hD hK => ?_)
        simp only [AwS, TS, binI, runR, runD, ostep, ostepB, aop, aopB, dstOk, aeff, aval, St.ev, alook, blook, aBox, AV.known, cav, St.app, tput, evs, evp, allKnown, gslot, min2, max2, AV.cs, AV.cell, loadC, aField, aIndex, TD.elem, TD.isAgg, TD.isInt, aSlice, aBound, aLen, aBuild, aFill, placesOf, bytesOf, aBin, aEql, TI.one, eqS, eqL, fits, srcOf, dstOf, killK, replZ, spl, splice, AV.tops, Tk.foot, addFoot, fine, apart, disj, St.behind, St.behindB, zipIo, newIo, gMap, ioMap, AV.map, AVs.map, nmap, ↓reduceIte, Nat.reduceAdd, Nat.reduceMul, Nat.reduceSub, Nat.reduceMod, Nat.reduceDiv, Nat.reduceEqDiff, Nat.reduceLT, Nat.reduceLeDiff, Nat.reduceBEq, Nat.reduceBNe, Int.reduceAdd, Int.reduceMul, Int.reduceSub, Int.reduceNeg, Int.reduceLT, Int.reduceLE, Int.reduceEq, Int.reduceToNat, reduceCtorEq, bind, w1]
        refine hD _ ?_
        clear hD hK D K
        refine ⟨(k + 1, j'), [(0, 0), (1, 1)], ⟨by dsimp only; omega, hj', ?_⟩, by dsimp only; omega, ?_⟩
        · rw [← hrun, show n - k = n - (k + 1) + 1 by omega, allP, Pg.runAt_bind, hr]
        · refine ⟨rfl, by simp [lvG], ⟨rfl, rfl⟩, ?_, ?_, by simp [lvG], by simp [lvG, nmap], ?_⟩
          · simp [lvG, alook, AV.map, AVs.map, nmap, AVs_map_append, ivs_map, yvs_map, hlf _, doA]
          · simp [lvG, blook, AV.map, AVs.map, nmap, AVs_map_append, ivs_map, yvs_map, hlf _, doA]
          · intro k hk
            have hk2 : k < 2 := hk
            rcases k with _ | _ | k <;> first | rfl | omega
      · try simp only [seqQ, blockQ, kQ, loopQ, scopeQ]
        refine pan_do (j := j') ?_ rfl rfl rfl
        rw [levelP, Pg.runAt_bind, hup]
        simp only
        rw [Pg.runAt_bind, ← hrun, show n - k = n - (k + 1) + 1 by omega, allP, Pg.runAt_bind, hr]
    · have hge : k = n := by have : ¬ k < n := by simpa using h
                             omega
      subst hge
      refine hK1 _ ?_
      refine AW_reg TB (fun D K hD hK => ?_)
      simp only [AwS, TS, binI, runR, runD, ostep, ostepB, aop, aopB, dstOk, aeff, aval, St.ev, alook, blook, aBox, AV.known, cav, St.app, tput, evs, evp, allKnown, gslot, min2, max2, AV.cs, AV.cell, loadC, aField, aIndex, TD.elem, TD.isAgg, TD.isInt, aSlice, aBound, aLen, aBuild, aFill, placesOf, bytesOf, aBin, aEql, TI.one, eqS, eqL, fits, srcOf, dstOf, killK, replZ, spl, splice, AV.tops, Tk.foot, addFoot, fine, apart, disj, St.behind, St.behindB, zipIo, newIo, gMap, ioMap, AV.map, AVs.map, nmap, ↓reduceIte, Nat.reduceAdd, Nat.reduceMul, Nat.reduceSub, Nat.reduceMod, Nat.reduceDiv, Nat.reduceEqDiff, Nat.reduceLT, Nat.reduceLeDiff, Nat.reduceBEq, Nat.reduceBNe, Int.reduceAdd, Int.reduceMul, Int.reduceSub, Int.reduceNeg, Int.reduceLT, Int.reduceLE, Int.reduceEq, Int.reduceToNat, reduceCtorEq, bind]
      refine hD _ ?_
      clear hD hK D K
      refine AW_ret ?_
      simp only [Ret, scopeQ]
      refine ret_do (x := k) (j := j1) ?_ rfl rfl rfl rfl (fun _ => rfl)
      rw [levelP, Pg.runAt_bind, hup]
      simp only
      rw [Pg.runAt_bind, ← hrun, Nat.sub_self]
      rfl
  refine AW_block ?_
  refine AW_loop (lvF b L bank bits) (fun q => q.1 ≤ bits ∧ q.2 ≤ L.length ∧ (upP bank (bits - q.1) q.1).runAt L q.2 = (upP bank bits 0).runAt L i) (fun q => bits - q.1) hE (0, i) [(0, 0), (1, 1)] ⟨by omega, hi, rfl⟩ ?_ ?_
  · refine ⟨rfl, by simp [lvF], ⟨rfl, rfl⟩, ?_, ?_, by simp [lvF], by simp [lvF, nmap], ?_⟩
    · simp [lvF, alook, AV.map, AVs.map, nmap, AVs_map_append, ivs_map, yvs_map, hlf _, doA]
    · simp [lvF, blook, AV.map, AVs.map, nmap, AVs_map_append, ivs_map, yvs_map, hlf _, doA]
    · intro k hk
      have hk2 : k < 2 := hk
      rcases k with _ | _ | k <;> first | rfl | omega
  rintro ⟨n, j⟩ ⟨hn, hj, hrun⟩
  simp only at hn hj hrun
  simp only [lvF]
  have w1 : IntKind.i64.wrap ((n : Int) + 1) = (n : Int) + 1 := wrap_i64 (by omega) (by omega)
  refine AW_seqk (fun K1 hK1 => ?_)
  refine AW_reg TB (fun D K hD hK => ?_)
  simp only [AwS, TS, binI, runR, runD, ostep, ostepB, aop, aopB, dstOk, aeff, aval, St.ev, alook, blook, aBox, AV.known, cav, St.app, tput, evs, evp, allKnown, gslot, min2, max2, AV.cs, AV.cell, loadC, aField, aIndex, TD.elem, TD.isAgg, TD.isInt, aSlice, aBound, aLen, aBuild, aFill, placesOf, bytesOf, aBin, aEql, TI.one, eqS, eqL, fits, srcOf, dstOf, killK, replZ, spl, splice, AV.tops, Tk.foot, addFoot, fine, apart, disj, St.behind, St.behindB, zipIo, newIo, gMap, ioMap, AV.map, AVs.map, nmap, ↓reduceIte, Nat.reduceAdd, Nat.reduceMul, Nat.reduceSub, Nat.reduceMod, Nat.reduceDiv, Nat.reduceEqDiff, Nat.reduceLT, Nat.reduceLeDiff, Nat.reduceBEq, Nat.reduceBNe, Int.reduceAdd, Int.reduceMul, Int.reduceSub, Int.reduceNeg, Int.reduceLT, Int.reduceLE, Int.reduceEq, Int.reduceToNat, reduceCtorEq, bind]
  refine hD _ ?_
  clear hD hK D K
  refine AW_cond rfl (fun h => AW_skip ?_) (fun h => AW_exit ?_)
  · have hlt : n < bits := by simpa using h
    refine hK1 _ ?_
    refine AW_block ?_
    refine AW_seqk (fun K2 hK2 => ?_)
    refine AW_reg TB (fun D K hD hK => ?_)
    simp only [AwS, TS, binI, runR, runD, ostep, ostepB, aop, aopB, dstOk, aeff, aval, St.ev, alook, blook, aBox, AV.known, cav, St.app, tput, evs, evp, allKnown, gslot, min2, max2, AV.cs, AV.cell, loadC, aField, aIndex, TD.elem, TD.isAgg, TD.isInt, aSlice, aBound, aLen, aBuild, aFill, placesOf, bytesOf, aBin, aEql, TI.one, eqS, eqL, fits, srcOf, dstOf, killK, replZ, spl, splice, AV.tops, Tk.foot, addFoot, fine, apart, disj, St.behind, St.behindB, zipIo, newIo, gMap, ioMap, AV.map, AVs.map, nmap, ↓reduceIte, Nat.reduceAdd, Nat.reduceMul, Nat.reduceSub, Nat.reduceMod, Nat.reduceDiv, Nat.reduceEqDiff, Nat.reduceLT, Nat.reduceLeDiff, Nat.reduceBEq, Nat.reduceBNe, Int.reduceAdd, Int.reduceMul, Int.reduceSub, Int.reduceNeg, Int.reduceLT, Int.reduceLE, Int.reduceEq, Int.reduceToNat, reduceCtorEq, bind, doA]
    refine hK _ _ ?_
    clear hD hK D K
    refine AL_do rfl rfl rfl rfl en_34 (read_spec b L j bank n hj hL (by omega) (by omega)) rfl rfl rfl (fun _ _ => rfl) hj (fun v j' hr hjj hj' => ?_) (fun a j' hr => ?_)
    · refine AL_runR TB _ _ (fun D K hD hK => ?_)
      simp only [AwS, TS, binI, runR, runD, ostep, ostepB, aop, aopB, dstOk, aeff, aval, St.ev, alook, blook, aBox, AV.known, cav, St.app, tput, evs, evp, allKnown, gslot, min2, max2, AV.cs, AV.cell, loadC, aField, aIndex, TD.elem, TD.isAgg, TD.isInt, aSlice, aBound, aLen, aBuild, aFill, placesOf, bytesOf, aBin, aEql, TI.one, eqS, eqL, fits, srcOf, dstOf, killK, replZ, spl, splice, AV.tops, Tk.foot, addFoot, fine, apart, disj, St.behind, St.behindB, zipIo, newIo, gMap, ioMap, AV.map, AVs.map, nmap, ↓reduceIte, Nat.reduceAdd, Nat.reduceMul, Nat.reduceSub, Nat.reduceMod, Nat.reduceDiv, Nat.reduceEqDiff, Nat.reduceLT, Nat.reduceLeDiff, Nat.reduceBEq, Nat.reduceBNe, Int.reduceAdd, Int.reduceMul, Int.reduceSub, Int.reduceNeg, Int.reduceLT, Int.reduceLE, Int.reduceEq, Int.reduceToNat, reduceCtorEq, bind]
      refine hD _ ?_
      clear hD hK D K
      refine AW_cond rfl (fun hv => AW_exit ?_) (fun hv => AW_skip ?_)
      · have hv' : v = false := by simpa using hv
        refine cont n j' hn hj' ?_ _ [(0, 0), (1, 1)] ?_
        · rw [← hrun, show bits - n = bits - (n + 1) + 1 by omega, upP, Pg.runAt_bind, hr]
          simp [hv', Pg.runAt]
        · refine ⟨rfl, by simp [lvF], ⟨rfl, rfl⟩, ?_, ?_, by simp [lvF], by simp [lvF, nmap], ?_⟩
          · simp [lvF, alook, AV.map, AVs.map, nmap, AVs_map_append, ivs_map, yvs_map, hlf _, doA]
          · simp [lvF, blook, AV.map, AVs.map, nmap, AVs_map_append, ivs_map, yvs_map, hlf _, doA]
          · intro k hk
            have hk2 : k < 2 := hk
            rcases k with _ | _ | k <;> first | rfl | omega
      · have hv' : v = true := by simpa using hv
        refine hK2 _ ?_
        refine AW_regl TB (fun D K hD hK => ?_)
        simp only [AwS, TS, binI, runR, runD, ostep, ostepB, aop, aopB, dstOk, aeff, aval, St.ev, alook, blook, aBox, AV.known, cav, St.app, tput, evs, evp, allKnown, gslot, min2, max2, AV.cs, AV.cell, loadC, aField, aIndex, TD.elem, TD.isAgg, TD.isInt, aSlice, aBound, aLen, aBuild, aFill, placesOf, bytesOf, aBin, aEql, TI.one, eqS, eqL, fits, srcOf, dstOf, killK, replZ, spl, splice, AV.tops, Tk.foot, addFoot, fine, apart, disj, St.behind, St.behindB, zipIo, newIo, gMap, ioMap, AV.map, AVs.map, nmap, ↓reduceIte, Nat.reduceAdd, Nat.reduceMul, Nat.reduceSub, Nat.reduceMod, Nat.reduceDiv, Nat.reduceEqDiff, Nat.reduceLT, Nat.reduceLeDiff, Nat.reduceBEq, Nat.reduceBNe, Int.reduceAdd, Int.reduceMul, Int.reduceSub, Int.reduceNeg, Int.reduceLT, Int.reduceLE, Int.reduceEq, Int.reduceToNat, reduceCtorEq, bind, w1]
        refine hD _ ?_
        clear hD hK D K
        refine ⟨(n + 1, j'), [(0, 0), (1, 1)], ⟨by dsimp only; omega, hj', ?_⟩, by dsimp only; omega, ?_⟩
        · rw [← hrun, show bits - n = bits - (n + 1) + 1 by omega, upP, Pg.runAt_bind, hr]
          simp [hv']
        · refine ⟨rfl, by simp [lvF], ⟨rfl, rfl⟩, ?_, ?_, by simp [lvF], by simp [lvF, nmap], ?_⟩
          · simp [lvF, alook, AV.map, AVs.map, nmap, AVs_map_append, ivs_map, yvs_map, hlf _, doA]
          · simp [lvF, blook, AV.map, AVs.map, nmap, AVs_map_append, ivs_map, yvs_map, hlf _, doA]
          · intro k hk
            have hk2 : k < 2 := hk
            rcases k with _ | _ | k <;> first | rfl | omega
    · try simp only [seqQ, blockQ, kQ, loopQ, scopeQ]
      refine pan_do (j := j') ?_ rfl rfl rfl
      rw [levelP, Pg.runAt_bind, ← hrun, show bits - n = bits - (n + 1) + 1 by omega, upP, Pg.runAt_bind, hr]
  · have hge : n = bits := by have : ¬ n < bits := by simpa using h
                              omega
    subst hge
    refine cont n j (Nat.le_refl _) hj ?_ _ [(0, 0), (1, 1)] ?_
    · rw [← hrun, Nat.sub_self]; rfl
    · refine ⟨rfl, by simp [lvF], ⟨rfl, rfl⟩, ?_, ?_, by simp [lvF], by simp [lvF, nmap], ?_⟩
      · simp [lvF, alook, AV.map, AVs.map, nmap, AVs_map_append, ivs_map, yvs_map, hlf _, doA]
      · simp [lvF, blook, AV.map, AVs.map, nmap, AVs_map_append, ivs_map, yvs_map, hlf _, doA]
      · intro k hk
        have hk2 : k < 2 := hk
        rcases k with _ | _ | k <;> first | rfl | omega
end Go.Proofs.Ytdnmnafadondkaa
