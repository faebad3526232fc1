/- The walks of the ratchet laws' faults and cells. No condition. -/
import Derived.Test.YtdnmnafadondkaaW14
set_option linter.unusedVariables false
set_option linter.unusedSimpArgs false
set_option maxRecDepth 100000
namespace Go.Proofs.Ytdnmnafadondkaa
open Go Go.RowKit

def cutAt (fl : List Int) (i : Nat) : Bool := decide ((fl.getD i 0) % 2 = 1)
def noiseAt (fl : List Int) (i : Nat) : Bool := decide ((fl.getD i 0) / 2 % 2 = 1)

theorem fault_spec (fl : List Int) (i : Nat) (hb : ∀ x ∈ fl, 0 ≤ x ∧ x < 256) : Spec Try.prog [] 29 [.ds true fl.length (fl.map yv), iv i] [] (fun o => o = .ret (.agg (ftC (cutAt fl i) (noiseAt fl i))) [] []) := by
  refine spec_of TB 24 [.cell 4 76] Try.func29 rfl rfl rfl (Nat.le_of_ble_eq_true rfl) ?_
  intro X w0 E0 hE hX
  simp only [idx, List.map_nil, List.length_nil]
  refine AW_reg TB (fun D K hD hK => ?_)
  simp only [AwS, TS, binI, runR, runD, ostep, ostepB, aop, aopB, dstOk, aeff, aval, St.ev, alook, blook, aBox, AV.known, cav, St.app, tput, evs, evp, allKnown, gslot, min2, max2, AV.cs, AV.cell, loadC, aField, aIndex, TD.elem, TD.isAgg, TD.isInt, aSlice, aBound, aLen, aBuild, aFill, placesOf, bytesOf, aBin, aEql, TI.one, eqS, eqL, fits, srcOf, dstOf, killK, replZ, spl, splice, AV.tops, Tk.foot, addFoot, fine, apart, disj, St.behind, St.behindB, zipIo, newIo, gMap, ioMap, AV.map, AVs.map, nmap, ↓reduceIte, Nat.reduceAdd, Nat.reduceMul, Nat.reduceSub, Nat.reduceMod, Nat.reduceDiv, Nat.reduceEqDiff, Nat.reduceLT, Nat.reduceLeDiff, Nat.reduceBEq, Nat.reduceBNe, Int.reduceAdd, Int.reduceMul, Int.reduceSub, Int.reduceNeg, Int.reduceLT, Int.reduceLE, Int.reduceEq, Int.reduceToNat, reduceCtorEq, bind]
  refine hD _ ?_
  clear hD hK D K
  refine AW_seq ?_
  refine AW_reg TB (fun D K hD hK => ?_)
  simp only [AwS, TS, binI, runR, runD, ostep, ostepB, aop, aopB, dstOk, aeff, aval, St.ev, alook, blook, aBox, AV.known, cav, St.app, tput, evs, evp, allKnown, gslot, min2, max2, AV.cs, AV.cell, loadC, aField, aIndex, TD.elem, TD.isAgg, TD.isInt, aSlice, aBound, aLen, aBuild, aFill, placesOf, bytesOf, aBin, aEql, TI.one, eqS, eqL, fits, srcOf, dstOf, killK, replZ, spl, splice, AV.tops, Tk.foot, addFoot, fine, apart, disj, St.behind, St.behindB, zipIo, newIo, gMap, ioMap, AV.map, AVs.map, nmap, ↓reduceIte, Nat.reduceAdd, Nat.reduceMul, Nat.reduceSub, Nat.reduceMod, Nat.reduceDiv, Nat.reduceEqDiff, Nat.reduceLT, Nat.reduceLeDiff, Nat.reduceBEq, Nat.reduceBNe, Int.reduceAdd, Int.reduceMul, Int.reduceSub, Int.reduceNeg, Int.reduceLT, Int.reduceLE, Int.reduceEq, Int.reduceToNat, reduceCtorEq, bind]
  refine hD _ ?_
  clear hD hK D K
  refine AW_cond rfl (fun h => ?_) (fun h => AW_skip ?_)
  · have h1 : fl.length ≤ i := by simp at h; omega
    have h2 : fl[i]?.getD 0 = 0 := by rw [List.getElem?_eq_none h1]; rfl
    refine AW_reg TB (fun D K hD hK => ?_)
    simp only [AwS, TS, binI, runR, runD, ostep, ostepB, aop, aopB, dstOk, aeff, aval, St.ev, alook, blook, aBox, AV.known, cav, St.app, tput, evs, evp, allKnown, gslot, min2, max2, AV.cs, AV.cell, loadC, aField, aIndex, TD.elem, TD.isAgg, TD.isInt, aSlice, aBound, aLen, aBuild, aFill, placesOf, bytesOf, aBin, aEql, TI.one, eqS, eqL, fits, srcOf, dstOf, killK, replZ, spl, splice, AV.tops, Tk.foot, addFoot, fine, apart, disj, St.behind, St.behindB, zipIo, newIo, gMap, ioMap, AV.map, AVs.map, nmap, ↓reduceIte, Nat.reduceAdd, Nat.reduceMul, Nat.reduceSub, Nat.reduceMod, Nat.reduceDiv, Nat.reduceEqDiff, Nat.reduceLT, Nat.reduceLeDiff, Nat.reduceBEq, Nat.reduceBNe, Int.reduceAdd, Int.reduceMul, Int.reduceSub, Int.reduceNeg, Int.reduceLT, Int.reduceLE, Int.reduceEq, Int.reduceToNat, reduceCtorEq, bind]
    refine hD _ ?_
    clear hD hK D K
    refine AW_ret ?_
    simp only [Ret, blockQ, kQ, loopQ, seqQ, scopeQ, ↓reduceIte]
    refine retp (.agg (ftC (cutAt fl i) (noiseAt fl i))) rfl ?_ rfl rfl
    simp [resOf, resAll, resAV, alook, blook, AV.known, loadC, AwS, TS, TD.isAgg, ftC, cutAt, noiseAt, h2]
  · have h1 : i < fl.length := by simp at h; omega
    have e1 : (0 ≤ (i : Int) ∧ (i : Int) < fl.length) = True := by simp; omega
    have e2 : (List.drop i (fl.map yv))[0]? = some (yv fl[i]) := by simp [h1]
    have hx := hb fl[i] (List.getElem_mem h1)
    have g0 : fl[i]?.getD 0 = fl[i] := by rw [List.getElem?_eq_getElem h1]; rfl
    have q1 : fl[i].tmod 2 = fl[i] % 2 := Int.tmod_eq_emod_of_nonneg hx.1
    have q2 : IntKind.u8.wrap (fl[i].tdiv 2) = fl[i] / 2 := by rw [Int.tdiv_eq_ediv_of_nonneg hx.1]; exact wrap_u8 (by omega) (by omega)
    have q3 : (fl[i] / 2).tmod 2 = fl[i] / 2 % 2 := Int.tmod_eq_emod_of_nonneg (by omega)
    simp only [seqQ]
    refine AW_dreg TB mx ([[], [], [0, 1], [2, 0, 1], [3, 2, 0, 1], [4, 3, 2, 0, 1], [], [], [6, 7], [8, 6, 7], [9, 8, 6, 7], [10, 9, 8, 6, 7], [11, 10, 9, 8, 6, 7], [5, 4, 3, 2, 0, 1, 12, 11, 10, 9, 8, 6, 7], [13, 5, 4, 3, 2, 0, 1, 12, 11, 10, 9, 8, 6, 7]]) (by kernel_rfl) (by kernel_rfl) (fun D K hD hK => ?_)
    simp only [AwS, TS, binI, runR, runD, ostep, ostepB, aop, aopB, dstOk, aeff, aval, St.ev, alook, blook, aBox, AV.known, cav, St.app, tput, evs, evp, allKnown, gslot, min2, max2, AV.cs, AV.cell, loadC, aField, aIndex, TD.elem, TD.isAgg, TD.isInt, aSlice, aBound, aLen, aBuild, aFill, placesOf, bytesOf, aBin, aEql, TI.one, eqS, eqL, fits, srcOf, dstOf, killK, replZ, spl, splice, AV.tops, Tk.foot, addFoot, fine, apart, disj, St.behind, St.behindB, zipIo, newIo, gMap, ioMap, AV.map, AVs.map, nmap, ↓reduceIte, Nat.reduceAdd, Nat.reduceMul, Nat.reduceSub, Nat.reduceMod, Nat.reduceDiv, Nat.reduceEqDiff, Nat.reduceLT, Nat.reduceLeDiff, Nat.reduceBEq, Nat.reduceBNe, Int.reduceAdd, Int.reduceMul, Int.reduceSub, Int.reduceNeg, Int.reduceLT, Int.reduceLE, Int.reduceEq, Int.reduceToNat, reduceCtorEq, bind, Op.operands, Call.operands, List.toList_toArray, List.size_toArray, cmp, List.getD_cons_zero, List.getD_cons_succ, Array.toList_append, Option.toArray, List.append_toArray,  e1, e2, q1, q2, q3]
    refine hD _ ?_
    clear hD hK D K
    refine AW_ret ?_
    simp only [Ret, blockQ, kQ, loopQ, seqQ, scopeQ, ↓reduceIte]
    refine retp (.agg (ftC (cutAt fl i) (noiseAt fl i))) rfl ?_ rfl rfl
    simp [resOf, resAll, resAV, alook, blook, AV.known, loadC, AwS, TS, TD.isAgg, ftC, cutAt, noiseAt, g0]

/-! ### The cells -/

def stk (l : List Int) (b : Nat) : Nat → Nat
  | 0 => 0
  | i + 1 => stk l b i + if l.getD (3 * b + i) 0 % 4 = 3 then 1 else 0

def cellV (l : List Int) (sound : Bool) (k : Nat) : Int := if sound = true ∧ 1 < stk l (k / 3) 3 then 0 else l.getD k 0 % 4

def cellsN (l : List Int) (sound : Bool) (n : Nat) : List Int := (List.range n).map (cellV l sound)

def cellsL (l : List Int) (sound : Bool) : List Int := cellsN l sound (3 * (l.length / 3))

theorem cellsN_len (l : List Int) (sound : Bool) (n : Nat) : (cellsN l sound n).length = n := by simp [cellsN]
theorem cellsN_succ (l : List Int) (sound : Bool) (n : Nat) : cellsN l sound (n + 1) = cellsN l sound n ++ [cellV l sound n] := by simp [cellsN, List.range_succ]
theorem stk_le (l : List Int) (b : Nat) : ∀ i, stk l b i ≤ i
  | 0 => Nat.le_refl _
  | i + 1 => by have := stk_le l b i; unfold stk; split <;> omega

def ceO (bb : Bool) (l : List Int) (sound : Bool) (b : Nat) : St :=
  { nt := 63, nx := 2, tm := [(8, iv b), (7, .sl 1 0 (3 * b) 1 (some 5)), (6, iv (l.length / 3 : Nat)), (4, .ptr 0 0), (0, .ds bb l.length (l.map yv)), (1, bv sound)], bx := [(0, some [.val (.slice none 0 0)]), (1, some ((cellsN l sound (3 * b)).map yv))], gl := [], df := [] }
def ceS (bb : Bool) (l : List Int) (sound : Bool) (b i : Nat) : St :=
  { nt := 63, nx := 2, tm := [(10, iv i), (9, iv (stk l b i)), (8, iv b), (7, .sl 1 0 (3 * b) 1 (some 5)), (6, iv (l.length / 3 : Nat)), (4, .ptr 0 0), (0, .ds bb l.length (l.map yv)), (1, bv sound)], bx := [(0, some [.val (.slice none 0 0)]), (1, some ((cellsN l sound (3 * b)).map yv))], gl := [], df := [] }
def ceC (bb : Bool) (l : List Int) (sound : Bool) (b i : Nat) : St :=
  { nt := 63, nx := 2, tm := [(11, iv i), (9, iv (stk l b 3)), (8, iv b), (7, .sl 1 0 (3 * b + i) 1 (some 5)), (6, iv (l.length / 3 : Nat)), (4, .ptr 0 0), (0, .ds bb l.length (l.map yv)), (1, bv sound)], bx := [(0, some [.val (.slice none 0 0)]), (1, some ((cellsN l sound (3 * b + i)).map yv))], gl := [], df := [] }

theorem cells_spec (bb : Bool) (l : List Int) (sound : Bool) (hl : l.length ≤ 48) (hb : ∀ x ∈ l, 0 ≤ x ∧ x < 256) :
    Spec Try.prog [] 15 [.ds bb l.length (l.map yv), bv sound] [] (fun o => o = .ret (.tup [fzA (cellsL l sound), iv (l.length / 3 : Nat)]) [] []) := by
  refine spec_of TB 63 [.cell 4 40, .tmp 5] Try.func15 rfl rfl rfl (Nat.le_of_ble_eq_true rfl) ?_
  intro X w0 E0 hE hX
  have hXn : ∀ g, ¬ X g := fun g hg => by obtain ⟨k, hk, _⟩ := hX g hg; exact absurd hk (Nat.not_lt_zero k)
  have w1 : IntKind.i64.wrap (Int.tdiv (l.length : Int) 3) = (l.length / 3 : Nat) := by
    have e : Int.tdiv (l.length : Int) 3 = ((l.length / 3 : Nat) : Int) := rfl
    rw [e]
    exact wrap_i64 (by omega) (by omega)
  have hg : decide (((l.length / 3 : Nat) : Int) > 16) = false := by simp; omega
  have d0 : IntKind.u8.wrap 0 = 0 := rfl
  simp only [idx, List.map_nil, List.length_nil]
  refine AW_reg TB (fun D K hD hK => ?_)
  simp only [AwS, TS, binI, runR, runD, ostep, ostepB, aop, aopB, dstOk, aeff, aval, St.ev, alook, blook, aBox, AV.known, cav, St.app, tput, evs, evp, allKnown, gslot, min2, max2, AV.cs, AV.cell, loadC, aField, aIndex, TD.elem, TD.isAgg, TD.isInt, aSlice, aBound, aLen, aBuild, aFill, placesOf, bytesOf, aBin, aEql, TI.one, eqS, eqL, fits, srcOf, dstOf, killK, replZ, spl, splice, AV.tops, Tk.foot, addFoot, fine, apart, disj, St.behind, St.behindB, zipIo, newIo, gMap, ioMap, AV.map, AVs.map, nmap, ↓reduceIte, Nat.reduceAdd, Nat.reduceMul, Nat.reduceSub, Nat.reduceMod, Nat.reduceDiv, Nat.reduceEqDiff, Nat.reduceLT, Nat.reduceLeDiff, Nat.reduceBEq, Nat.reduceBNe, Int.reduceAdd, Int.reduceMul, Int.reduceSub, Int.reduceNeg, Int.reduceLT, Int.reduceLE, Int.reduceEq, Int.reduceToNat, reduceCtorEq, bind]
  refine hD _ ?_
  clear hD hK D K
  refine AW_reg TB (fun D K hD hK => ?_)
  simp only [AwS, TS, binI, runR, runD, ostep, ostepB, aop, aopB, dstOk, aeff, aval, St.ev, alook, blook, aBox, AV.known, cav, St.app, tput, evs, evp, allKnown, gslot, min2, max2, AV.cs, AV.cell, loadC, aField, aIndex, TD.elem, TD.isAgg, TD.isInt, aSlice, aBound, aLen, aBuild, aFill, placesOf, bytesOf, aBin, aEql, TI.one, eqS, eqL, fits, srcOf, dstOf, killK, replZ, spl, splice, AV.tops, Tk.foot, addFoot, fine, apart, disj, St.behind, St.behindB, zipIo, newIo, gMap, ioMap, AV.map, AVs.map, nmap, ↓reduceIte, Nat.reduceAdd, Nat.reduceMul, Nat.reduceSub, Nat.reduceMod, Nat.reduceDiv, Nat.reduceEqDiff, Nat.reduceLT, Nat.reduceLeDiff, Nat.reduceBEq, Nat.reduceBNe, Int.reduceAdd, Int.reduceMul, Int.reduceSub, Int.reduceNeg, Int.reduceLT, Int.reduceLE, Int.reduceEq, Int.reduceToNat, reduceCtorEq, bind, w1]
  refine hD _ ?_
  clear hD hK D K
  refine AW_seq ?_
  refine AW_reg TB (fun D K hD hK => ?_)
  simp only [AwS, TS, binI, runR, runD, ostep, ostepB, aop, aopB, dstOk, aeff, aval, St.ev, alook, blook, aBox, AV.known, cav, St.app, tput, evs, evp, allKnown, gslot, min2, max2, AV.cs, AV.cell, loadC, aField, aIndex, TD.elem, TD.isAgg, TD.isInt, aSlice, aBound, aLen, aBuild, aFill, placesOf, bytesOf, aBin, aEql, TI.one, eqS, eqL, fits, srcOf, dstOf, killK, replZ, spl, splice, AV.tops, Tk.foot, addFoot, fine, apart, disj, St.behind, St.behindB, zipIo, newIo, gMap, ioMap, AV.map, AVs.map, nmap, ↓reduceIte, Nat.reduceAdd, Nat.reduceMul, Nat.reduceSub, Nat.reduceMod, Nat.reduceDiv, Nat.reduceEqDiff, Nat.reduceLT, Nat.reduceLeDiff, Nat.reduceBEq, Nat.reduceBNe, Int.reduceAdd, Int.reduceMul, Int.reduceSub, Int.reduceNeg, Int.reduceLT, Int.reduceLE, Int.reduceEq, Int.reduceToNat, reduceCtorEq, bind, hg]
  refine hD _ ?_
  clear hD hK D K
  refine AW_false rfl (AW_skip ?_)
  simp only [seqQ]
  refine AW_reg TB (fun D K hD hK => ?_)
  simp only [AwS, TS, binI, runR, runD, ostep, ostepB, aop, aopB, dstOk, aeff, aval, St.ev, alook, blook, aBox, AV.known, cav, St.app, tput, evs, evp, allKnown, gslot, min2, max2, AV.cs, AV.cell, loadC, aField, aIndex, TD.elem, TD.isAgg, TD.isInt, aSlice, aBound, aLen, aBuild, aFill, placesOf, bytesOf, aBin, aEql, TI.one, eqS, eqL, fits, srcOf, dstOf, killK, replZ, spl, splice, AV.tops, Tk.foot, addFoot, fine, apart, disj, St.behind, St.behindB, zipIo, newIo, gMap, ioMap, AV.map, AVs.map, nmap, ↓reduceIte, Nat.reduceAdd, Nat.reduceMul, Nat.reduceSub, Nat.reduceMod, Nat.reduceDiv, Nat.reduceEqDiff, Nat.reduceLT, Nat.reduceLeDiff, Nat.reduceBEq, Nat.reduceBNe, Int.reduceAdd, Int.reduceMul, Int.reduceSub, Int.reduceNeg, Int.reduceLT, Int.reduceLE, Int.reduceEq, Int.reduceToNat, reduceCtorEq, bind]
  refine hD _ ?_
  clear hD hK D K
  refine AW_seqk (fun K0 hK0 => ?_)
  refine AW_reg TB (fun D K hD hK => ?_)
  simp only [AwS, TS, binI, runR, runD, ostep, ostepB, aop, aopB, dstOk, aeff, aval, St.ev, alook, blook, aBox, AV.known, cav, St.app, tput, evs, evp, allKnown, gslot, min2, max2, AV.cs, AV.cell, loadC, aField, aIndex, TD.elem, TD.isAgg, TD.isInt, aSlice, aBound, aLen, aBuild, aFill, placesOf, bytesOf, aBin, aEql, TI.one, eqS, eqL, fits, srcOf, dstOf, killK, replZ, spl, splice, AV.tops, Tk.foot, addFoot, fine, apart, disj, St.behind, St.behindB, zipIo, newIo, gMap, ioMap, AV.map, AVs.map, nmap, ↓reduceIte, Nat.reduceAdd, Nat.reduceMul, Nat.reduceSub, Nat.reduceMod, Nat.reduceDiv, Nat.reduceEqDiff, Nat.reduceLT, Nat.reduceLeDiff, Nat.reduceBEq, Nat.reduceBNe, Int.reduceAdd, Int.reduceMul, Int.reduceSub, Int.reduceNeg, Int.reduceLT, Int.reduceLE, Int.reduceEq, Int.reduceToNat, reduceCtorEq, bind]
  refine hD _ ?_
  clear hD hK D K
  refine AW_block ?_
  refine AW_loop (ceO bb l sound) (fun b => b ≤ l.length / 3) (fun b => l.length / 3 - b) hE 0 [(0, 0), (1, 64)] (by omega) ?_ ?_
  · refine ⟨rfl, by simp [ceO], ⟨rfl, rfl⟩, ?_, ?_, by simp [ceO], by simp [ceO, nmap], ?_⟩
    · simp [ceO, alook, AV.map, AVs.map, nmap, AVs_map_append, ivs_map, yvs_map, yvs_map, cellsN]
    · simp [ceO, blook, AV.map, AVs.map, nmap, AVs_map_append, ivs_map, yvs_map, yvs_map, cellsN]
    · intro k hk
      have hk2 : k < 0 := hk
      omega
  intro b hb3
  simp only [ceO]
  have u1 : IntKind.i64.wrap ((b : Int) + 1) = ((b + 1 : Nat) : Int) := by rw [wrap_i64 (by omega) (by omega)]; omega
  have u2 : IntKind.i64.wrap (3 * (b : Int)) = ((3 * b : Nat) : Int) := by rw [wrap_i64 (by omega) (by omega)]; omega
  refine AW_seqk (fun K1 hK1 => ?_)
  refine AW_reg TB (fun D K hD hK => ?_)
  simp only [AwS, TS, binI, runR, runD, ostep, ostepB, aop, aopB, dstOk, aeff, aval, St.ev, alook, blook, aBox, AV.known, cav, St.app, tput, evs, evp, allKnown, gslot, min2, max2, AV.cs, AV.cell, loadC, aField, aIndex, TD.elem, TD.isAgg, TD.isInt, aSlice, aBound, aLen, aBuild, aFill, placesOf, bytesOf, aBin, aEql, TI.one, eqS, eqL, fits, srcOf, dstOf, killK, replZ, spl, splice, AV.tops, Tk.foot, addFoot, fine, apart, disj, St.behind, St.behindB, zipIo, newIo, gMap, ioMap, AV.map, AVs.map, nmap, ↓reduceIte, Nat.reduceAdd, Nat.reduceMul, Nat.reduceSub, Nat.reduceMod, Nat.reduceDiv, Nat.reduceEqDiff, Nat.reduceLT, Nat.reduceLeDiff, Nat.reduceBEq, Nat.reduceBNe, Int.reduceAdd, Int.reduceMul, Int.reduceSub, Int.reduceNeg, Int.reduceLT, Int.reduceLE, Int.reduceEq, Int.reduceToNat, reduceCtorEq, bind]
  refine hD _ ?_
  clear hD hK D K
  refine AW_cond rfl (fun h => AW_skip ?_) (fun h => AW_exit ?_)
  · have hlt : b < l.length / 3 := by simp at h; omega
    refine hK1 _ ?_
    refine AW_seqk (fun K2 hK2 => ?_)
    refine AW_block ?_
    refine AW_reg TB (fun D K hD hK => ?_)
    simp only [AwS, TS, binI, runR, runD, ostep, ostepB, aop, aopB, dstOk, aeff, aval, St.ev, alook, blook, aBox, AV.known, cav, St.app, tput, evs, evp, allKnown, gslot, min2, max2, AV.cs, AV.cell, loadC, aField, aIndex, TD.elem, TD.isAgg, TD.isInt, aSlice, aBound, aLen, aBuild, aFill, placesOf, bytesOf, aBin, aEql, TI.one, eqS, eqL, fits, srcOf, dstOf, killK, replZ, spl, splice, AV.tops, Tk.foot, addFoot, fine, apart, disj, St.behind, St.behindB, zipIo, newIo, gMap, ioMap, AV.map, AVs.map, nmap, ↓reduceIte, Nat.reduceAdd, Nat.reduceMul, Nat.reduceSub, Nat.reduceMod, Nat.reduceDiv, Nat.reduceEqDiff, Nat.reduceLT, Nat.reduceLeDiff, Nat.reduceBEq, Nat.reduceBNe, Int.reduceAdd, Int.reduceMul, Int.reduceSub, Int.reduceNeg, Int.reduceLT, Int.reduceLE, Int.reduceEq, Int.reduceToNat, reduceCtorEq, bind]
    refine hD _ ?_
    clear hD hK D K
    refine AW_seqk (fun K3 hK3 => ?_)
    refine AW_reg TB (fun D K hD hK => ?_)
    simp only [AwS, TS, binI, runR, runD, ostep, ostepB, aop, aopB, dstOk, aeff, aval, St.ev, alook, blook, aBox, AV.known, cav, St.app, tput, evs, evp, allKnown, gslot, min2, max2, AV.cs, AV.cell, loadC, aField, aIndex, TD.elem, TD.isAgg, TD.isInt, aSlice, aBound, aLen, aBuild, aFill, placesOf, bytesOf, aBin, aEql, TI.one, eqS, eqL, fits, srcOf, dstOf, killK, replZ, spl, splice, AV.tops, Tk.foot, addFoot, fine, apart, disj, St.behind, St.behindB, zipIo, newIo, gMap, ioMap, AV.map, AVs.map, nmap, ↓reduceIte, Nat.reduceAdd, Nat.reduceMul, Nat.reduceSub, Nat.reduceMod, Nat.reduceDiv, Nat.reduceEqDiff, Nat.reduceLT, Nat.reduceLeDiff, Nat.reduceBEq, Nat.reduceBNe, Int.reduceAdd, Int.reduceMul, Int.reduceSub, Int.reduceNeg, Int.reduceLT, Int.reduceLE, Int.reduceEq, Int.reduceToNat, reduceCtorEq, bind]
    refine hD _ ?_
    clear hD hK D K
    refine AW_block ?_
    refine AW_loop (ceS bb l sound b) (fun i => i ≤ 3) (fun i => 3 - i) hE 0 [(0, 0), (1, 1)] (by omega) ?_ ?_
    · refine ⟨rfl, by simp [ceS], ⟨rfl, rfl⟩, ?_, ?_, by simp [ceS], by simp [ceS, nmap], ?_⟩
      · simp [ceS, alook, AV.map, AVs.map, nmap, AVs_map_append, ivs_map, yvs_map, yvs_map, stk]
      · simp [ceS, blook, AV.map, AVs.map, nmap, AVs_map_append, ivs_map, yvs_map, yvs_map, stk]
      · intro k hk
        have hk2 : k < 0 := hk
        omega
    intro i hi
    simp only [ceS]
    have v1 : IntKind.i64.wrap ((i : Int) + 1) = ((i + 1 : Nat) : Int) := by rw [wrap_i64 (by omega) (by omega)]; omega
    have v2 : IntKind.i64.wrap (((3 * b : Nat) : Int) + i) = ((3 * b + i : Nat) : Int) := by rw [wrap_i64 (by omega) (by omega)]; omega
    refine AW_seqk (fun K4 hK4 => ?_)
    refine AW_reg TB (fun D K hD hK => ?_)
    simp only [AwS, TS, binI, runR, runD, ostep, ostepB, aop, aopB, dstOk, aeff, aval, St.ev, alook, blook, aBox, AV.known, cav, St.app, tput, evs, evp, allKnown, gslot, min2, max2, AV.cs, AV.cell, loadC, aField, aIndex, TD.elem, TD.isAgg, TD.isInt, aSlice, aBound, aLen, aBuild, aFill, placesOf, bytesOf, aBin, aEql, TI.one, eqS, eqL, fits, srcOf, dstOf, killK, replZ, spl, splice, AV.tops, Tk.foot, addFoot, fine, apart, disj, St.behind, St.behindB, zipIo, newIo, gMap, ioMap, AV.map, AVs.map, nmap, ↓reduceIte, Nat.reduceAdd, Nat.reduceMul, Nat.reduceSub, Nat.reduceMod, Nat.reduceDiv, Nat.reduceEqDiff, Nat.reduceLT, Nat.reduceLeDiff, Nat.reduceBEq, Nat.reduceBNe, Int.reduceAdd, Int.reduceMul, Int.reduceSub, Int.reduceNeg, Int.reduceLT, Int.reduceLE, Int.reduceEq, Int.reduceToNat, reduceCtorEq, bind]
    refine hD _ ?_
    clear hD hK D K
    refine AW_cond rfl (fun h => AW_skip ?_) (fun h => AW_exit ?_)
    · have hi3 : i < 3 := by simp at h; omega
      have hx : 3 * b + i < l.length := by omega
      have hv := hb l[3 * b + i] (List.getElem_mem hx)
      have e1 : (0 ≤ ((3 * b + i : Nat) : Int) ∧ ((3 * b + i : Nat) : Int) < l.length) = True := by simp; omega
      have e2 : (List.drop (3 * b + i) (l.map yv))[0]? = some (yv l[3 * b + i]) := by simp [hx]
      have q1 : l[3 * b + i].tmod 4 = l[3 * b + i] % 4 := Int.tmod_eq_emod_of_nonneg hv.1
      have g0 : l[3 * b + i]?.getD 0 = l[3 * b + i] := by rw [List.getElem?_eq_getElem hx]; rfl
      have hle := stk_le l b i
      have v3 : IntKind.i64.wrap ((stk l b i : Int) + 1) = ((stk l b i + 1 : Nat) : Int) := by rw [wrap_i64 (by omega) (by omega)]; omega
      refine hK4 _ ?_
      refine AW_seqk (fun K5 hK5 => ?_)
      refine AW_block ?_
      refine AW_reg TB (fun D K hD hK => ?_)
      simp only [AwS, TS, binI, runR, runD, ostep, ostepB, aop, aopB, dstOk, aeff, aval, St.ev, alook, blook, aBox, AV.known, cav, St.app, tput, evs, evp, allKnown, gslot, min2, max2, AV.cs, AV.cell, loadC, aField, aIndex, TD.elem, TD.isAgg, TD.isInt, aSlice, aBound, aLen, aBuild, aFill, placesOf, bytesOf, aBin, aEql, TI.one, eqS, eqL, fits, srcOf, dstOf, killK, replZ, spl, splice, AV.tops, Tk.foot, addFoot, fine, apart, disj, St.behind, St.behindB, zipIo, newIo, gMap, ioMap, AV.map, AVs.map, nmap, ↓reduceIte, Nat.reduceAdd, Nat.reduceMul, Nat.reduceSub, Nat.reduceMod, Nat.reduceDiv, Nat.reduceEqDiff, Nat.reduceLT, Nat.reduceLeDiff, Nat.reduceBEq, Nat.reduceBNe, Int.reduceAdd, Int.reduceMul, Int.reduceSub, Int.reduceNeg, Int.reduceLT, Int.reduceLE, Int.reduceEq, Int.reduceToNat, reduceCtorEq, bind, u2, v2, e1, e2, q1]
      refine hD _ ?_
      clear hD hK D K
      refine AW_cond rfl (fun h3 => ?_) (fun h3 => AW_skip ?_)
      · have h3' : l[3 * b + i] % 4 = 3 := by simpa using h3
        refine AW_regl TB (fun D K hD hK => ?_)
        simp only [AwS, TS, binI, runR, runD, ostep, ostepB, aop, aopB, dstOk, aeff, aval, St.ev, alook, blook, aBox, AV.known, cav, St.app, tput, evs, evp, allKnown, gslot, min2, max2, AV.cs, AV.cell, loadC, aField, aIndex, TD.elem, TD.isAgg, TD.isInt, aSlice, aBound, aLen, aBuild, aFill, placesOf, bytesOf, aBin, aEql, TI.one, eqS, eqL, fits, srcOf, dstOf, killK, replZ, spl, splice, AV.tops, Tk.foot, addFoot, fine, apart, disj, St.behind, St.behindB, zipIo, newIo, gMap, ioMap, AV.map, AVs.map, nmap, ↓reduceIte, Nat.reduceAdd, Nat.reduceMul, Nat.reduceSub, Nat.reduceMod, Nat.reduceDiv, Nat.reduceEqDiff, Nat.reduceLT, Nat.reduceLeDiff, Nat.reduceBEq, Nat.reduceBNe, Int.reduceAdd, Int.reduceMul, Int.reduceSub, Int.reduceNeg, Int.reduceLT, Int.reduceLE, Int.reduceEq, Int.reduceToNat, reduceCtorEq, bind, v3]
        refine hD _ ?_
        clear hD hK D K
        refine hK5 _ ?_
        refine AW_regl TB (fun D K hD hK => ?_)
        simp only [AwS, TS, binI, runR, runD, ostep, ostepB, aop, aopB, dstOk, aeff, aval, St.ev, alook, blook, aBox, AV.known, cav, St.app, tput, evs, evp, allKnown, gslot, min2, max2, AV.cs, AV.cell, loadC, aField, aIndex, TD.elem, TD.isAgg, TD.isInt, aSlice, aBound, aLen, aBuild, aFill, placesOf, bytesOf, aBin, aEql, TI.one, eqS, eqL, fits, srcOf, dstOf, killK, replZ, spl, splice, AV.tops, Tk.foot, addFoot, fine, apart, disj, St.behind, St.behindB, zipIo, newIo, gMap, ioMap, AV.map, AVs.map, nmap, ↓reduceIte, Nat.reduceAdd, Nat.reduceMul, Nat.reduceSub, Nat.reduceMod, Nat.reduceDiv, Nat.reduceEqDiff, Nat.reduceLT, Nat.reduceLeDiff, Nat.reduceBEq, Nat.reduceBNe, Int.reduceAdd, Int.reduceMul, Int.reduceSub, Int.reduceNeg, Int.reduceLT, Int.reduceLE, Int.reduceEq, Int.reduceToNat, reduceCtorEq, bind, v1]
        refine hD _ ?_
        clear hD hK D K
        refine ⟨i + 1, [(0, 0), (1, 1)], by omega, by dsimp only; omega, ?_⟩
        refine ⟨rfl, by simp [ceS], ⟨rfl, rfl⟩, ?_, ?_, by simp [ceS], by simp [ceS, nmap], ?_⟩
        · simp [ceS, alook, AV.map, AVs.map, nmap, AVs_map_append, ivs_map, yvs_map, yvs_map, stk, g0, h3']
        · simp [ceS, blook, AV.map, AVs.map, nmap, AVs_map_append, ivs_map, yvs_map, yvs_map, stk, g0, h3']
        · intro k hk
          have hk2 : k < 0 := hk
          omega
      · have h3' : ¬ l[3 * b + i] % 4 = 3 := by simpa using h3
        refine hK5 _ ?_
        refine AW_regl TB (fun D K hD hK => ?_)
        simp only [AwS, TS, binI, runR, runD, ostep, ostepB, aop, aopB, dstOk, aeff, aval, St.ev, alook, blook, aBox, AV.known, cav, St.app, tput, evs, evp, allKnown, gslot, min2, max2, AV.cs, AV.cell, loadC, aField, aIndex, TD.elem, TD.isAgg, TD.isInt, aSlice, aBound, aLen, aBuild, aFill, placesOf, bytesOf, aBin, aEql, TI.one, eqS, eqL, fits, srcOf, dstOf, killK, replZ, spl, splice, AV.tops, Tk.foot, addFoot, fine, apart, disj, St.behind, St.behindB, zipIo, newIo, gMap, ioMap, AV.map, AVs.map, nmap, ↓reduceIte, Nat.reduceAdd, Nat.reduceMul, Nat.reduceSub, Nat.reduceMod, Nat.reduceDiv, Nat.reduceEqDiff, Nat.reduceLT, Nat.reduceLeDiff, Nat.reduceBEq, Nat.reduceBNe, Int.reduceAdd, Int.reduceMul, Int.reduceSub, Int.reduceNeg, Int.reduceLT, Int.reduceLE, Int.reduceEq, Int.reduceToNat, reduceCtorEq, bind, v1]
        refine hD _ ?_
        clear hD hK D K
        refine ⟨i + 1, [(0, 0), (1, 1)], by omega, by dsimp only; omega, ?_⟩
        refine ⟨rfl, by simp [ceS], ⟨rfl, rfl⟩, ?_, ?_, by simp [ceS], by simp [ceS, nmap], ?_⟩
        · simp [ceS, alook, AV.map, AVs.map, nmap, AVs_map_append, ivs_map, yvs_map, yvs_map, stk, g0, h3']
        · simp [ceS, blook, AV.map, AVs.map, nmap, AVs_map_append, ivs_map, yvs_map, yvs_map, stk, g0, h3']
        · intro k hk
          have hk2 : k < 0 := hk
          omega
    · have hi3 : i = 3 := by simp at h; omega
      subst hi3
      refine hK3 _ ?_
      refine AW_reg TB (fun D K hD hK => ?_)
      simp only [AwS, TS, binI, runR, runD, ostep, ostepB, aop, aopB, dstOk, aeff, aval, St.ev, alook, blook, aBox, AV.known, cav, St.app, tput, evs, evp, allKnown, gslot, min2, max2, AV.cs, AV.cell, loadC, aField, aIndex, TD.elem, TD.isAgg, TD.isInt, aSlice, aBound, aLen, aBuild, aFill, placesOf, bytesOf, aBin, aEql, TI.one, eqS, eqL, fits, srcOf, dstOf, killK, replZ, spl, splice, AV.tops, Tk.foot, addFoot, fine, apart, disj, St.behind, St.behindB, zipIo, newIo, gMap, ioMap, AV.map, AVs.map, nmap, ↓reduceIte, Nat.reduceAdd, Nat.reduceMul, Nat.reduceSub, Nat.reduceMod, Nat.reduceDiv, Nat.reduceEqDiff, Nat.reduceLT, Nat.reduceLeDiff, Nat.reduceBEq, Nat.reduceBNe, Int.reduceAdd, Int.reduceMul, Int.reduceSub, Int.reduceNeg, Int.reduceLT, Int.reduceLE, Int.reduceEq, Int.reduceToNat, reduceCtorEq, bind]
      refine hD _ ?_
      clear hD hK D K
      refine AW_block ?_
      refine AW_loop (ceC bb l sound b) (fun i => i ≤ 3) (fun i => 3 - i) hE 0 [(0, 0), (1, 1)] (by omega) ?_ ?_
      · refine ⟨rfl, by simp [ceC], ⟨rfl, rfl⟩, ?_, ?_, by simp [ceC], by simp [ceC, nmap], ?_⟩
        · simp [ceC, alook, AV.map, AVs.map, nmap, AVs_map_append, ivs_map, yvs_map, yvs_map]
        · simp [ceC, blook, AV.map, AVs.map, nmap, AVs_map_append, ivs_map, yvs_map, yvs_map]
        · intro k hk
          have hk2 : k < 0 := hk
          omega
      intro i hi
      simp only [ceC]
      have v1 : IntKind.i64.wrap ((i : Int) + 1) = ((i + 1 : Nat) : Int) := by rw [wrap_i64 (by omega) (by omega)]; omega
      have v2 : IntKind.i64.wrap (((3 * b : Nat) : Int) + i) = ((3 * b + i : Nat) : Int) := by rw [wrap_i64 (by omega) (by omega)]; omega
      refine AW_seqk (fun K4 hK4 => ?_)
      refine AW_reg TB (fun D K hD hK => ?_)
      simp only [AwS, TS, binI, runR, runD, ostep, ostepB, aop, aopB, dstOk, aeff, aval, St.ev, alook, blook, aBox, AV.known, cav, St.app, tput, evs, evp, allKnown, gslot, min2, max2, AV.cs, AV.cell, loadC, aField, aIndex, TD.elem, TD.isAgg, TD.isInt, aSlice, aBound, aLen, aBuild, aFill, placesOf, bytesOf, aBin, aEql, TI.one, eqS, eqL, fits, srcOf, dstOf, killK, replZ, spl, splice, AV.tops, Tk.foot, addFoot, fine, apart, disj, St.behind, St.behindB, zipIo, newIo, gMap, ioMap, AV.map, AVs.map, nmap, ↓reduceIte, Nat.reduceAdd, Nat.reduceMul, Nat.reduceSub, Nat.reduceMod, Nat.reduceDiv, Nat.reduceEqDiff, Nat.reduceLT, Nat.reduceLeDiff, Nat.reduceBEq, Nat.reduceBNe, Int.reduceAdd, Int.reduceMul, Int.reduceSub, Int.reduceNeg, Int.reduceLT, Int.reduceLE, Int.reduceEq, Int.reduceToNat, reduceCtorEq, bind]
      refine hD _ ?_
      clear hD hK D K
      refine AW_cond rfl (fun h => AW_skip ?_) (fun h => AW_exit ?_)
      · have hi3 : i < 3 := by simp at h; omega
        have hx : 3 * b + i < l.length := by omega
        have hv := hb l[3 * b + i] (List.getElem_mem hx)
        have e1 : (0 ≤ ((3 * b + i : Nat) : Int) ∧ ((3 * b + i : Nat) : Int) < l.length) = True := by simp; omega
        have e2 : (List.drop (3 * b + i) (l.map yv))[0]? = some (yv l[3 * b + i]) := by simp [hx]
        have q1 : l[3 * b + i].tmod 4 = l[3 * b + i] % 4 := Int.tmod_eq_emod_of_nonneg hv.1
        have g1 : l[3 * b + i]?.getD 0 = l[3 * b + i] := by rw [List.getElem?_eq_getElem hx]; rfl
        have g0 : l.getD (3 * b + i) 0 = l[3 * b + i] := by rw [List.getD_eq_getElem?_getD, List.getElem?_eq_getElem hx]; rfl
        have hdiv : (3 * b + i) / 3 = b := by omega
        have hass : 3 * b + (i + 1) = 3 * b + i + 1 := by omega
        have e3 : ((cellsN l sound (3 * b + i)).map yv).length = 3 * b + i := by simp [cellsN_len]
        have e4 : (3 * b + i + 1 ≤ 4294967296) = True := by simp; omega
        have hsucc := cellsN_succ l sound (3 * b + i)
        refine hK4 _ ?_
        refine AW_seqk (fun K5 hK5 => ?_)
        refine AW_block ?_
        refine AW_reg TB (fun D K hD hK => ?_)
        simp only [AwS, TS, binI, runR, runD, ostep, ostepB, aop, aopB, dstOk, aeff, aval, St.ev, alook, blook, aBox, AV.known, cav, St.app, tput, evs, evp, allKnown, gslot, min2, max2, AV.cs, AV.cell, loadC, aField, aIndex, TD.elem, TD.isAgg, TD.isInt, aSlice, aBound, aLen, aBuild, aFill, placesOf, bytesOf, aBin, aEql, TI.one, eqS, eqL, fits, srcOf, dstOf, killK, replZ, spl, splice, AV.tops, Tk.foot, addFoot, fine, apart, disj, St.behind, St.behindB, zipIo, newIo, gMap, ioMap, AV.map, AVs.map, nmap, ↓reduceIte, Nat.reduceAdd, Nat.reduceMul, Nat.reduceSub, Nat.reduceMod, Nat.reduceDiv, Nat.reduceEqDiff, Nat.reduceLT, Nat.reduceLeDiff, Nat.reduceBEq, Nat.reduceBNe, Int.reduceAdd, Int.reduceMul, Int.reduceSub, Int.reduceNeg, Int.reduceLT, Int.reduceLE, Int.reduceEq, Int.reduceToNat, reduceCtorEq, bind, u2, v2, e1, e2, q1]
        refine hD _ ?_
        clear hD hK D K
        refine AW_seqk (fun K6 hK6 => ?_)
        cases sound with
        | true =>
          refine AW_reg TB (fun D K hD hK => ?_)
          simp only [AwS, TS, binI, runR, runD, ostep, ostepB, aop, aopB, dstOk, aeff, aval, St.ev, alook, blook, aBox, AV.known, cav, St.app, tput, evs, evp, allKnown, gslot, min2, max2, AV.cs, AV.cell, loadC, aField, aIndex, TD.elem, TD.isAgg, TD.isInt, aSlice, aBound, aLen, aBuild, aFill, placesOf, bytesOf, aBin, aEql, TI.one, eqS, eqL, fits, srcOf, dstOf, killK, replZ, spl, splice, AV.tops, Tk.foot, addFoot, fine, apart, disj, St.behind, St.behindB, zipIo, newIo, gMap, ioMap, AV.map, AVs.map, nmap, ↓reduceIte, Nat.reduceAdd, Nat.reduceMul, Nat.reduceSub, Nat.reduceMod, Nat.reduceDiv, Nat.reduceEqDiff, Nat.reduceLT, Nat.reduceLeDiff, Nat.reduceBEq, Nat.reduceBNe, Int.reduceAdd, Int.reduceMul, Int.reduceSub, Int.reduceNeg, Int.reduceLT, Int.reduceLE, Int.reduceEq, Int.reduceToNat, reduceCtorEq, bind]
          refine hD _ ?_
          clear hD hK D K
          refine AW_cond rfl (fun h3 => ?_) (fun h3 => AW_skip ?_)
          · have h3' : 1 < stk l b 3 := by simp at h3; omega
            refine AW_regl TB (fun D K hD hK => ?_)
            simp only [AwS, TS, binI, runR, runD, ostep, ostepB, aop, aopB, dstOk, aeff, aval, St.ev, alook, blook, aBox, AV.known, cav, St.app, tput, evs, evp, allKnown, gslot, min2, max2, AV.cs, AV.cell, loadC, aField, aIndex, TD.elem, TD.isAgg, TD.isInt, aSlice, aBound, aLen, aBuild, aFill, placesOf, bytesOf, aBin, aEql, TI.one, eqS, eqL, fits, srcOf, dstOf, killK, replZ, spl, splice, AV.tops, Tk.foot, addFoot, fine, apart, disj, St.behind, St.behindB, zipIo, newIo, gMap, ioMap, AV.map, AVs.map, nmap, ↓reduceIte, Nat.reduceAdd, Nat.reduceMul, Nat.reduceSub, Nat.reduceMod, Nat.reduceDiv, Nat.reduceEqDiff, Nat.reduceLT, Nat.reduceLeDiff, Nat.reduceBEq, Nat.reduceBNe, Int.reduceAdd, Int.reduceMul, Int.reduceSub, Int.reduceNeg, Int.reduceLT, Int.reduceLE, Int.reduceEq, Int.reduceToNat, reduceCtorEq, bind]
            refine hD _ ?_
            clear hD hK D K
            refine hK6 _ ?_
            refine AW_regl TB (fun D K hD hK => ?_)
            simp only [AwS, TS, binI, runR, runD, ostep, ostepB, aop, aopB, dstOk, aeff, aval, St.ev, alook, blook, aBox, AV.known, cav, St.app, tput, evs, evp, allKnown, gslot, min2, max2, AV.cs, AV.cell, loadC, aField, aIndex, TD.elem, TD.isAgg, TD.isInt, aSlice, aBound, aLen, aBuild, aFill, placesOf, bytesOf, aBin, aEql, TI.one, eqS, eqL, fits, srcOf, dstOf, killK, replZ, spl, splice, AV.tops, Tk.foot, addFoot, fine, apart, disj, St.behind, St.behindB, zipIo, newIo, gMap, ioMap, AV.map, AVs.map, nmap, ↓reduceIte, Nat.reduceAdd, Nat.reduceMul, Nat.reduceSub, Nat.reduceMod, Nat.reduceDiv, Nat.reduceEqDiff, Nat.reduceLT, Nat.reduceLeDiff, Nat.reduceBEq, Nat.reduceBNe, Int.reduceAdd, Int.reduceMul, Int.reduceSub, Int.reduceNeg, Int.reduceLT, Int.reduceLE, Int.reduceEq, Int.reduceToNat, reduceCtorEq, bind, cellsN_len, e4]
            refine hD _ ?_
            clear hD hK D K
            refine hK5 _ ?_
            refine AW_regl TB (fun D K hD hK => ?_)
            simp only [AwS, TS, binI, runR, runD, ostep, ostepB, aop, aopB, dstOk, aeff, aval, St.ev, alook, blook, aBox, AV.known, cav, St.app, tput, evs, evp, allKnown, gslot, min2, max2, AV.cs, AV.cell, loadC, aField, aIndex, TD.elem, TD.isAgg, TD.isInt, aSlice, aBound, aLen, aBuild, aFill, placesOf, bytesOf, aBin, aEql, TI.one, eqS, eqL, fits, srcOf, dstOf, killK, replZ, spl, splice, AV.tops, Tk.foot, addFoot, fine, apart, disj, St.behind, St.behindB, zipIo, newIo, gMap, ioMap, AV.map, AVs.map, nmap, ↓reduceIte, Nat.reduceAdd, Nat.reduceMul, Nat.reduceSub, Nat.reduceMod, Nat.reduceDiv, Nat.reduceEqDiff, Nat.reduceLT, Nat.reduceLeDiff, Nat.reduceBEq, Nat.reduceBNe, Int.reduceAdd, Int.reduceMul, Int.reduceSub, Int.reduceNeg, Int.reduceLT, Int.reduceLE, Int.reduceEq, Int.reduceToNat, reduceCtorEq, bind, v1]
            refine hD _ ?_
            clear hD hK D K
            refine ⟨i + 1, [(0, 0), (1, 162)], by omega, by dsimp only; omega, ?_⟩
            refine ⟨rfl, by simp [ceC], ⟨rfl, rfl⟩, ?_, ?_, by simp [ceC], by simp [ceC, nmap], ?_⟩
            · simp [ceC, alook, AV.map, AVs.map, nmap, AVs_map_append, ivs_map, yvs_map, yvs_map, hsucc, cellV, hdiv, h3', g1, hass]
            · simp [ceC, blook, AV.map, AVs.map, nmap, AVs_map_append, ivs_map, yvs_map, yvs_map, hsucc, cellV, hdiv, h3', g1, hass]
            · intro k hk
              have hk2 : k < 0 := hk
              omega
          · have h3' : ¬ 1 < stk l b 3 := by simp at h3; omega
            refine hK6 _ ?_
            refine AW_regl TB (fun D K hD hK => ?_)
            simp only [AwS, TS, binI, runR, runD, ostep, ostepB, aop, aopB, dstOk, aeff, aval, St.ev, alook, blook, aBox, AV.known, cav, St.app, tput, evs, evp, allKnown, gslot, min2, max2, AV.cs, AV.cell, loadC, aField, aIndex, TD.elem, TD.isAgg, TD.isInt, aSlice, aBound, aLen, aBuild, aFill, placesOf, bytesOf, aBin, aEql, TI.one, eqS, eqL, fits, srcOf, dstOf, killK, replZ, spl, splice, AV.tops, Tk.foot, addFoot, fine, apart, disj, St.behind, St.behindB, zipIo, newIo, gMap, ioMap, AV.map, AVs.map, nmap, ↓reduceIte, Nat.reduceAdd, Nat.reduceMul, Nat.reduceSub, Nat.reduceMod, Nat.reduceDiv, Nat.reduceEqDiff, Nat.reduceLT, Nat.reduceLeDiff, Nat.reduceBEq, Nat.reduceBNe, Int.reduceAdd, Int.reduceMul, Int.reduceSub, Int.reduceNeg, Int.reduceLT, Int.reduceLE, Int.reduceEq, Int.reduceToNat, reduceCtorEq, bind, cellsN_len, e4]
            refine hD _ ?_
            clear hD hK D K
            refine hK5 _ ?_
            refine AW_regl TB (fun D K hD hK => ?_)
            simp only [AwS, TS, binI, runR, runD, ostep, ostepB, aop, aopB, dstOk, aeff, aval, St.ev, alook, blook, aBox, AV.known, cav, St.app, tput, evs, evp, allKnown, gslot, min2, max2, AV.cs, AV.cell, loadC, aField, aIndex, TD.elem, TD.isAgg, TD.isInt, aSlice, aBound, aLen, aBuild, aFill, placesOf, bytesOf, aBin, aEql, TI.one, eqS, eqL, fits, srcOf, dstOf, killK, replZ, spl, splice, AV.tops, Tk.foot, addFoot, fine, apart, disj, St.behind, St.behindB, zipIo, newIo, gMap, ioMap, AV.map, AVs.map, nmap, ↓reduceIte, Nat.reduceAdd, Nat.reduceMul, Nat.reduceSub, Nat.reduceMod, Nat.reduceDiv, Nat.reduceEqDiff, Nat.reduceLT, Nat.reduceLeDiff, Nat.reduceBEq, Nat.reduceBNe, Int.reduceAdd, Int.reduceMul, Int.reduceSub, Int.reduceNeg, Int.reduceLT, Int.reduceLE, Int.reduceEq, Int.reduceToNat, reduceCtorEq, bind, v1]
            refine hD _ ?_
            clear hD hK D K
            refine ⟨i + 1, [(0, 0), (1, 154)], by omega, by dsimp only; omega, ?_⟩
            refine ⟨rfl, by simp [ceC], ⟨rfl, rfl⟩, ?_, ?_, by simp [ceC], by simp [ceC, nmap], ?_⟩
            · simp [ceC, alook, AV.map, AVs.map, nmap, AVs_map_append, ivs_map, yvs_map, yvs_map, hsucc, cellV, hdiv, h3', g1, hass]
            · simp [ceC, blook, AV.map, AVs.map, nmap, AVs_map_append, ivs_map, yvs_map, yvs_map, hsucc, cellV, hdiv, h3', g1, hass]
            · intro k hk
              have hk2 : k < 0 := hk
              omega
        | false =>
          refine AW_reg TB (fun D K hD hK => ?_)
          simp only [AwS, TS, binI, runR, runD, ostep, ostepB, aop, aopB, dstOk, aeff, aval, St.ev, alook, blook, aBox, AV.known, cav, St.app, tput, evs, evp, allKnown, gslot, min2, max2, AV.cs, AV.cell, loadC, aField, aIndex, TD.elem, TD.isAgg, TD.isInt, aSlice, aBound, aLen, aBuild, aFill, placesOf, bytesOf, aBin, aEql, TI.one, eqS, eqL, fits, srcOf, dstOf, killK, replZ, spl, splice, AV.tops, Tk.foot, addFoot, fine, apart, disj, St.behind, St.behindB, zipIo, newIo, gMap, ioMap, AV.map, AVs.map, nmap, ↓reduceIte, Nat.reduceAdd, Nat.reduceMul, Nat.reduceSub, Nat.reduceMod, Nat.reduceDiv, Nat.reduceEqDiff, Nat.reduceLT, Nat.reduceLeDiff, Nat.reduceBEq, Nat.reduceBNe, Int.reduceAdd, Int.reduceMul, Int.reduceSub, Int.reduceNeg, Int.reduceLT, Int.reduceLE, Int.reduceEq, Int.reduceToNat, reduceCtorEq, bind]
          refine hD _ ?_
          clear hD hK D K
          refine AW_false rfl (AW_skip ?_)
          refine hK6 _ ?_
          have h3' : True := trivial
          refine AW_regl TB (fun D K hD hK => ?_)
          simp only [AwS, TS, binI, runR, runD, ostep, ostepB, aop, aopB, dstOk, aeff, aval, St.ev, alook, blook, aBox, AV.known, cav, St.app, tput, evs, evp, allKnown, gslot, min2, max2, AV.cs, AV.cell, loadC, aField, aIndex, TD.elem, TD.isAgg, TD.isInt, aSlice, aBound, aLen, aBuild, aFill, placesOf, bytesOf, aBin, aEql, TI.one, eqS, eqL, fits, srcOf, dstOf, killK, replZ, spl, splice, AV.tops, Tk.foot, addFoot, fine, apart, disj, St.behind, St.behindB, zipIo, newIo, gMap, ioMap, AV.map, AVs.map, nmap, ↓reduceIte, Nat.reduceAdd, Nat.reduceMul, Nat.reduceSub, Nat.reduceMod, Nat.reduceDiv, Nat.reduceEqDiff, Nat.reduceLT, Nat.reduceLeDiff, Nat.reduceBEq, Nat.reduceBNe, Int.reduceAdd, Int.reduceMul, Int.reduceSub, Int.reduceNeg, Int.reduceLT, Int.reduceLE, Int.reduceEq, Int.reduceToNat, reduceCtorEq, bind, cellsN_len, e4]
          refine hD _ ?_
          clear hD hK D K
          refine hK5 _ ?_
          refine AW_regl TB (fun D K hD hK => ?_)
          simp only [AwS, TS, binI, runR, runD, ostep, ostepB, aop, aopB, dstOk, aeff, aval, St.ev, alook, blook, aBox, AV.known, cav, St.app, tput, evs, evp, allKnown, gslot, min2, max2, AV.cs, AV.cell, loadC, aField, aIndex, TD.elem, TD.isAgg, TD.isInt, aSlice, aBound, aLen, aBuild, aFill, placesOf, bytesOf, aBin, aEql, TI.one, eqS, eqL, fits, srcOf, dstOf, killK, replZ, spl, splice, AV.tops, Tk.foot, addFoot, fine, apart, disj, St.behind, St.behindB, zipIo, newIo, gMap, ioMap, AV.map, AVs.map, nmap, ↓reduceIte, Nat.reduceAdd, Nat.reduceMul, Nat.reduceSub, Nat.reduceMod, Nat.reduceDiv, Nat.reduceEqDiff, Nat.reduceLT, Nat.reduceLeDiff, Nat.reduceBEq, Nat.reduceBNe, Int.reduceAdd, Int.reduceMul, Int.reduceSub, Int.reduceNeg, Int.reduceLT, Int.reduceLE, Int.reduceEq, Int.reduceToNat, reduceCtorEq, bind, v1]
          refine hD _ ?_
          clear hD hK D K
          refine ⟨i + 1, [(0, 0), (1, 154)], by omega, by dsimp only; omega, ?_⟩
          refine ⟨rfl, by simp [ceC], ⟨rfl, rfl⟩, ?_, ?_, by simp [ceC], by simp [ceC, nmap], ?_⟩
          · simp [ceC, alook, AV.map, AVs.map, nmap, AVs_map_append, ivs_map, yvs_map, yvs_map, hsucc, cellV, hdiv, h3', g1, hass]
          · simp [ceC, blook, AV.map, AVs.map, nmap, AVs_map_append, ivs_map, yvs_map, yvs_map, hsucc, cellV, hdiv, h3', g1, hass]
          · intro k hk
            have hk2 : k < 0 := hk
            omega
      · have hi3 : i = 3 := by simp at h; omega
        subst hi3
        refine hK2 _ ?_
        refine AW_regl TB (fun D K hD hK => ?_)
        simp only [AwS, TS, binI, runR, runD, ostep, ostepB, aop, aopB, dstOk, aeff, aval, St.ev, alook, blook, aBox, AV.known, cav, St.app, tput, evs, evp, allKnown, gslot, min2, max2, AV.cs, AV.cell, loadC, aField, aIndex, TD.elem, TD.isAgg, TD.isInt, aSlice, aBound, aLen, aBuild, aFill, placesOf, bytesOf, aBin, aEql, TI.one, eqS, eqL, fits, srcOf, dstOf, killK, replZ, spl, splice, AV.tops, Tk.foot, addFoot, fine, apart, disj, St.behind, St.behindB, zipIo, newIo, gMap, ioMap, AV.map, AVs.map, nmap, ↓reduceIte, Nat.reduceAdd, Nat.reduceMul, Nat.reduceSub, Nat.reduceMod, Nat.reduceDiv, Nat.reduceEqDiff, Nat.reduceLT, Nat.reduceLeDiff, Nat.reduceBEq, Nat.reduceBNe, Int.reduceAdd, Int.reduceMul, Int.reduceSub, Int.reduceNeg, Int.reduceLT, Int.reduceLE, Int.reduceEq, Int.reduceToNat, reduceCtorEq, bind, u1]
        refine hD _ ?_
        clear hD hK D K
        refine ⟨b + 1, [(0, 0), (1, 1)], by omega, by dsimp only; omega, ?_⟩
        refine ⟨rfl, by simp [ceO], ⟨rfl, rfl⟩, ?_, ?_, by simp [ceO], by simp [ceO, nmap], ?_⟩
        · simp [ceO, alook, AV.map, AVs.map, nmap, AVs_map_append, ivs_map, yvs_map, yvs_map, Nat.mul_add]
        · simp [ceO, blook, AV.map, AVs.map, nmap, AVs_map_append, ivs_map, yvs_map, yvs_map, Nat.mul_add]
        · intro k hk
          have hk2 : k < 0 := hk
          omega
  · have hb4 : b = l.length / 3 := by simp at h; omega
    subst hb4
    refine hK0 _ ?_
    have e5 : List.take (3 * (l.length / 3)) ((cellsN l sound (3 * (l.length / 3))).map yv) = (cellsN l sound (3 * (l.length / 3))).map yv := List.take_of_length_le (by simp [cellsN_len])
    refine AW_reg TB (fun D K hD hK => ?_)
    simp only [AwS, TS, binI, runR, runD, ostep, ostepB, aop, aopB, dstOk, aeff, aval, St.ev, alook, blook, aBox, AV.known, cav, St.app, tput, evs, evp, allKnown, gslot, min2, max2, AV.cs, AV.cell, loadC, aField, aIndex, TD.elem, TD.isAgg, TD.isInt, aSlice, aBound, aLen, aBuild, aFill, placesOf, bytesOf, aBin, aEql, TI.one, eqS, eqL, fits, srcOf, dstOf, killK, replZ, spl, splice, AV.tops, Tk.foot, addFoot, fine, apart, disj, St.behind, St.behindB, zipIo, newIo, gMap, ioMap, AV.map, AVs.map, nmap, ↓reduceIte, Nat.reduceAdd, Nat.reduceMul, Nat.reduceSub, Nat.reduceMod, Nat.reduceDiv, Nat.reduceEqDiff, Nat.reduceLT, Nat.reduceLeDiff, Nat.reduceBEq, Nat.reduceBNe, Int.reduceAdd, Int.reduceMul, Int.reduceSub, Int.reduceNeg, Int.reduceLT, Int.reduceLE, Int.reduceEq, Int.reduceToNat, reduceCtorEq, bind]
    refine hD _ ?_
    clear hD hK D K
    refine AW_freeze 1 hXn rfl ?_
    refine AW_freeze 34 hXn rfl ?_
    simp only [St.freeze, frz, frzs, AwS, TS, binI, runR, runD, ostep, ostepB, aop, aopB, dstOk, aeff, aval, St.ev, alook, blook, aBox, AV.known, cav, St.app, tput, evs, evp, allKnown, gslot, min2, max2, AV.cs, AV.cell, loadC, aField, aIndex, TD.elem, TD.isAgg, TD.isInt, aSlice, aBound, aLen, aBuild, aFill, placesOf, bytesOf, aBin, aEql, TI.one, eqS, eqL, fits, srcOf, dstOf, killK, replZ, spl, splice, AV.tops, Tk.foot, addFoot, fine, apart, disj, St.behind, St.behindB, zipIo, newIo, gMap, ioMap, AV.map, AVs.map, nmap, ↓reduceIte, Nat.reduceAdd, Nat.reduceMul, Nat.reduceSub, Nat.reduceMod, Nat.reduceDiv, Nat.reduceEqDiff, Nat.reduceLT, Nat.reduceLeDiff, Nat.reduceBEq, Nat.reduceBNe, Int.reduceAdd, Int.reduceMul, Int.reduceSub, Int.reduceNeg, Int.reduceLT, Int.reduceLE, Int.reduceEq, Int.reduceToNat, reduceCtorEq, bind, e5]
    refine AW_ret ?_
    simp only [Ret, blockQ, kQ, loopQ, seqQ, scopeQ, ↓reduceIte]
    refine retp (.tup [fzA (cellsL l sound), iv (l.length / 3 : Nat)]) rfl ?_ ?_ rfl
    · simp [resOf, resAll, resAV, alook, blook, AV.known, loadC, AwS, TS, TD.isAgg, fzA, cellsL, cellsN_len]
    · simp only [fzA, AV.map, AVs.map, yvs_map]
end Go.Proofs.Ytdnmnafadondkaa
