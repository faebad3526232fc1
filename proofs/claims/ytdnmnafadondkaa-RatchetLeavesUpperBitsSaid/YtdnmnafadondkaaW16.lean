/- The walks of a session of the ratchet laws. No condition. -/
import Derived.Test.YtdnmnafadondkaaW15
set_option linter.unusedVariables false
set_option linter.unusedSimpArgs false
set_option maxRecDepth 100000
namespace Go.Proofs.Ytdnmnafadondkaa
open Go Go.RowKit

/-- A session: whether it raises, its target, its faults. -/
structure Ses where
  ra : Bool
  t : Int
  fl : List Int

def Ses.cs (s : Ses) : List AV := [bv s.ra, yv s.t, .ds true s.fl.length (s.fl.map yv)]
def Ses.ok (s : Ses) : Prop := 0 ≤ s.t ∧ s.t < 256 ∧ ∀ x ∈ s.fl, 0 ≤ x ∧ x < 256
def Ses.pg (s : Ses) (bits : Nat) : Pg (Int × Int) := if s.ra then RaiseP 0 bits (s.t % (bits + 1)) else LevelP 0 bits

theorem Ses.flat (s : Ses) : Flats s.cs := by intro f; simp only [Ses.cs, AV.map, AVs.map, yvs_map]

theorem next_spec (b : Bool) (L : List Rs) (s : Ses) (bits : Nat) (hs : s.ok) (hL : L.length ≤ 1000) (hb : bits ≤ 16) :
    Spec Try.prog [] 28 [.agg s.cs, iv bits, .ds b L.length (logC L)] [] (fun o => o = .ret (toldA ((s.pg bits).runAt L 0)) [] []) := by
  refine spec_of TB 29 [.cell 6 27, .cell 7 30, .tmp 8] Try.func28 rfl rfl rfl (Nat.le_of_ble_eq_true rfl) ?_
  intro X w0 E0 hE hX
  have hlf := logC_flat L
  obtain ⟨h1, h2, _⟩ := hs
  have w0 : IntKind.i64.wrap s.t = s.t := wrap_i64 (by omega) (by omega)
  have w1 : IntKind.i64.wrap ((bits : Int) + 1) = (bits : Int) + 1 := wrap_i64 (by omega) (by omega)
  have w2 : ((bits : Int) + 1 = 0) = False := by simp; omega
  have w3 : s.t.tmod ((bits : Int) + 1) = s.t % ((bits : Int) + 1) := Int.tmod_eq_emod_of_nonneg h1
  simp only [idx, Ses.cs, List.map_nil, List.length_nil]
  refine AW_reg TB (fun D K hD hK => ?_)
  simp only [AwS, TS, binI, runR, runD, ostep, ostepB, aop, aopB, dstOk, aeff, aval, St.ev, alook, blook, aBox, AV.known, cav, St.app, tput, evs, evp, allKnown, gslot, min2, max2, AV.cs, AV.cell, loadC, aField, aIndex, TD.elem, TD.isAgg, TD.isInt, aSlice, aBound, aLen, aBuild, aFill, placesOf, bytesOf, aBin, aEql, TI.one, eqS, eqL, fits, srcOf, dstOf, killK, replZ, spl, splice, AV.tops, Tk.foot, addFoot, fine, apart, disj, St.behind, St.behindB, zipIo, newIo, gMap, ioMap, AV.map, AVs.map, nmap, ↓reduceIte, Nat.reduceAdd, Nat.reduceMul, Nat.reduceSub, Nat.reduceMod, Nat.reduceDiv, Nat.reduceEqDiff, Nat.reduceLT, Nat.reduceLeDiff, Nat.reduceBEq, Nat.reduceBNe, Int.reduceAdd, Int.reduceMul, Int.reduceSub, Int.reduceNeg, Int.reduceLT, Int.reduceLE, Int.reduceEq, Int.reduceToNat, reduceCtorEq, bind]
  refine hD _ ?_
  clear hD hK D K
  refine AW_seq ?_
  refine AW_reg TB (fun D K hD hK => ?_)
  simp only [AwS, TS, binI, runR, runD, ostep, ostepB, aop, aopB, dstOk, aeff, aval, St.ev, alook, blook, aBox, AV.known, cav, St.app, tput, evs, evp, allKnown, gslot, min2, max2, AV.cs, AV.cell, loadC, aField, aIndex, TD.elem, TD.isAgg, TD.isInt, aSlice, aBound, aLen, aBuild, aFill, placesOf, bytesOf, aBin, aEql, TI.one, eqS, eqL, fits, srcOf, dstOf, killK, replZ, spl, splice, AV.tops, Tk.foot, addFoot, fine, apart, disj, St.behind, St.behindB, zipIo, newIo, gMap, ioMap, AV.map, AVs.map, nmap, ↓reduceIte, Nat.reduceAdd, Nat.reduceMul, Nat.reduceSub, Nat.reduceMod, Nat.reduceDiv, Nat.reduceEqDiff, Nat.reduceLT, Nat.reduceLeDiff, Nat.reduceBEq, Nat.reduceBNe, Int.reduceAdd, Int.reduceMul, Int.reduceSub, Int.reduceNeg, Int.reduceLT, Int.reduceLE, Int.reduceEq, Int.reduceToNat, reduceCtorEq, bind]
  refine hD _ ?_
  clear hD hK D K
  cases hr : s.ra with
  | true =>
    have hp : s.pg bits = RaiseP 0 bits (s.t % (bits + 1)) := by simp [Ses.pg, hr]
    rw [hp]
    refine AW_true rfl ?_
    refine AW_reg TB (fun D K hD hK => ?_)
    simp only [AwS, TS, binI, runR, runD, ostep, ostepB, aop, aopB, dstOk, aeff, aval, St.ev, alook, blook, aBox, AV.known, cav, St.app, tput, evs, evp, allKnown, gslot, min2, max2, AV.cs, AV.cell, loadC, aField, aIndex, TD.elem, TD.isAgg, TD.isInt, aSlice, aBound, aLen, aBuild, aFill, placesOf, bytesOf, aBin, aEql, TI.one, eqS, eqL, fits, srcOf, dstOf, killK, replZ, spl, splice, AV.tops, Tk.foot, addFoot, fine, apart, disj, St.behind, St.behindB, zipIo, newIo, gMap, ioMap, AV.map, AVs.map, nmap, ↓reduceIte, Nat.reduceAdd, Nat.reduceMul, Nat.reduceSub, Nat.reduceMod, Nat.reduceDiv, Nat.reduceEqDiff, Nat.reduceLT, Nat.reduceLeDiff, Nat.reduceBEq, Nat.reduceBNe, Int.reduceAdd, Int.reduceMul, Int.reduceSub, Int.reduceNeg, Int.reduceLT, Int.reduceLE, Int.reduceEq, Int.reduceToNat, reduceCtorEq, bind, w0, w1, w2, w3]
    refine hK _ _ ?_
    clear hD hK D K
    refine AL_callP rfl rfl rfl rfl en_12 (Raise_spec b L 0 bits (s.t % (bits + 1)) hL) [] ?_ (by simp) rfl ?_ ?_
    · simp [evs, St.ev, cav, alook, lendA, lentBx, lendC, blook, AVs.map, AV.map, ioMap, hlf _]
    · unfold toldA; split <;> rfl
    cases hres : (RaiseP 0 bits (s.t % (bits + 1))).runAt L 0 with
    | inl q =>
      obtain ⟨q, j⟩ := q
      simp only [toldA]
      refine AL_runR TB _ _ (fun D K hD hK => ?_)
      simp only [AwS, TS, binI, runR, runD, ostep, ostepB, aop, aopB, dstOk, aeff, aval, St.ev, alook, blook, aBox, AV.known, cav, St.app, tput, evs, evp, allKnown, gslot, min2, max2, AV.cs, AV.cell, loadC, aField, aIndex, TD.elem, TD.isAgg, TD.isInt, aSlice, aBound, aLen, aBuild, aFill, placesOf, bytesOf, aBin, aEql, TI.one, eqS, eqL, fits, srcOf, dstOf, killK, replZ, spl, splice, AV.tops, Tk.foot, addFoot, fine, apart, disj, St.behind, St.behindB, zipIo, newIo, gMap, ioMap, AV.map, AVs.map, nmap, ↓reduceIte, Nat.reduceAdd, Nat.reduceMul, Nat.reduceSub, Nat.reduceMod, Nat.reduceDiv, Nat.reduceEqDiff, Nat.reduceLT, Nat.reduceLeDiff, Nat.reduceBEq, Nat.reduceBNe, Int.reduceAdd, Int.reduceMul, Int.reduceSub, Int.reduceNeg, Int.reduceLT, Int.reduceLE, Int.reduceEq, Int.reduceToNat, reduceCtorEq, bind, outA, accC]
      refine hD _ ?_
      clear hD hK D K
      refine AW_ret ?_
      simp only [Ret, blockQ, kQ, loopQ, seqQ, scopeQ, ↓reduceIte]
      exact retp (toldA (.inl (q, j))) rfl rfl rfl rfl
    | inr a =>
      simp only [toldA]
      refine AL_runR TB _ _ (fun D K hD hK => ?_)
      simp only [AwS, TS, binI, runR, runD, ostep, ostepB, aop, aopB, dstOk, aeff, aval, St.ev, alook, blook, aBox, AV.known, cav, St.app, tput, evs, evp, allKnown, gslot, min2, max2, AV.cs, AV.cell, loadC, aField, aIndex, TD.elem, TD.isAgg, TD.isInt, aSlice, aBound, aLen, aBuild, aFill, placesOf, bytesOf, aBin, aEql, TI.one, eqS, eqL, fits, srcOf, dstOf, killK, replZ, spl, splice, AV.tops, Tk.foot, addFoot, fine, apart, disj, St.behind, St.behindB, zipIo, newIo, gMap, ioMap, AV.map, AVs.map, nmap, ↓reduceIte, Nat.reduceAdd, Nat.reduceMul, Nat.reduceSub, Nat.reduceMod, Nat.reduceDiv, Nat.reduceEqDiff, Nat.reduceLT, Nat.reduceLeDiff, Nat.reduceBEq, Nat.reduceBNe, Int.reduceAdd, Int.reduceMul, Int.reduceSub, Int.reduceNeg, Int.reduceLT, Int.reduceLE, Int.reduceEq, Int.reduceToNat, reduceCtorEq, bind, outA, accC]
      refine hD _ ?_
      clear hD hK D K
      refine AW_ret ?_
      simp only [Ret, blockQ, kQ, loopQ, seqQ, scopeQ, ↓reduceIte]
      exact retp (toldA (.inr a)) rfl rfl rfl rfl
  | false =>
    have hp : s.pg bits = LevelP 0 bits := by simp [Ses.pg, hr]
    rw [hp]
    refine AW_false rfl (AW_skip ?_)
    simp only [seqQ]
    refine AW_reg TB (fun D K hD hK => ?_)
    simp only [AwS, TS, binI, runR, runD, ostep, ostepB, aop, aopB, dstOk, aeff, aval, St.ev, alook, blook, aBox, AV.known, cav, St.app, tput, evs, evp, allKnown, gslot, min2, max2, AV.cs, AV.cell, loadC, aField, aIndex, TD.elem, TD.isAgg, TD.isInt, aSlice, aBound, aLen, aBuild, aFill, placesOf, bytesOf, aBin, aEql, TI.one, eqS, eqL, fits, srcOf, dstOf, killK, replZ, spl, splice, AV.tops, Tk.foot, addFoot, fine, apart, disj, St.behind, St.behindB, zipIo, newIo, gMap, ioMap, AV.map, AVs.map, nmap, ↓reduceIte, Nat.reduceAdd, Nat.reduceMul, Nat.reduceSub, Nat.reduceMod, Nat.reduceDiv, Nat.reduceEqDiff, Nat.reduceLT, Nat.reduceLeDiff, Nat.reduceBEq, Nat.reduceBNe, Int.reduceAdd, Int.reduceMul, Int.reduceSub, Int.reduceNeg, Int.reduceLT, Int.reduceLE, Int.reduceEq, Int.reduceToNat, reduceCtorEq, bind]
    refine hK _ _ ?_
    clear hD hK D K
    refine AL_callP rfl rfl rfl rfl en_10 (Level_spec b L 0 bits hL) [] ?_ (by simp) rfl ?_ ?_
    · simp [evs, St.ev, cav, alook, lendA, lentBx, lendC, blook, AVs.map, AV.map, ioMap, hlf _]
    · unfold toldA; split <;> rfl
    cases hres : (LevelP 0 bits).runAt L 0 with
    | inl q =>
      obtain ⟨q, j⟩ := q
      simp only [toldA]
      refine AL_runR TB _ _ (fun D K hD hK => ?_)
      simp only [AwS, TS, binI, runR, runD, ostep, ostepB, aop, aopB, dstOk, aeff, aval, St.ev, alook, blook, aBox, AV.known, cav, St.app, tput, evs, evp, allKnown, gslot, min2, max2, AV.cs, AV.cell, loadC, aField, aIndex, TD.elem, TD.isAgg, TD.isInt, aSlice, aBound, aLen, aBuild, aFill, placesOf, bytesOf, aBin, aEql, TI.one, eqS, eqL, fits, srcOf, dstOf, killK, replZ, spl, splice, AV.tops, Tk.foot, addFoot, fine, apart, disj, St.behind, St.behindB, zipIo, newIo, gMap, ioMap, AV.map, AVs.map, nmap, ↓reduceIte, Nat.reduceAdd, Nat.reduceMul, Nat.reduceSub, Nat.reduceMod, Nat.reduceDiv, Nat.reduceEqDiff, Nat.reduceLT, Nat.reduceLeDiff, Nat.reduceBEq, Nat.reduceBNe, Int.reduceAdd, Int.reduceMul, Int.reduceSub, Int.reduceNeg, Int.reduceLT, Int.reduceLE, Int.reduceEq, Int.reduceToNat, reduceCtorEq, bind, outA, accC]
      refine hD _ ?_
      clear hD hK D K
      refine AW_ret ?_
      simp only [Ret, blockQ, kQ, loopQ, seqQ, scopeQ, ↓reduceIte]
      exact retp (toldA (.inl (q, j))) rfl rfl rfl rfl
    | inr a =>
      simp only [toldA]
      refine AL_runR TB _ _ (fun D K hD hK => ?_)
      simp only [AwS, TS, binI, runR, runD, ostep, ostepB, aop, aopB, dstOk, aeff, aval, St.ev, alook, blook, aBox, AV.known, cav, St.app, tput, evs, evp, allKnown, gslot, min2, max2, AV.cs, AV.cell, loadC, aField, aIndex, TD.elem, TD.isAgg, TD.isInt, aSlice, aBound, aLen, aBuild, aFill, placesOf, bytesOf, aBin, aEql, TI.one, eqS, eqL, fits, srcOf, dstOf, killK, replZ, spl, splice, AV.tops, Tk.foot, addFoot, fine, apart, disj, St.behind, St.behindB, zipIo, newIo, gMap, ioMap, AV.map, AVs.map, nmap, ↓reduceIte, Nat.reduceAdd, Nat.reduceMul, Nat.reduceSub, Nat.reduceMod, Nat.reduceDiv, Nat.reduceEqDiff, Nat.reduceLT, Nat.reduceLeDiff, Nat.reduceBEq, Nat.reduceBNe, Int.reduceAdd, Int.reduceMul, Int.reduceSub, Int.reduceNeg, Int.reduceLT, Int.reduceLE, Int.reduceEq, Int.reduceToNat, reduceCtorEq, bind, outA, accC]
      refine hD _ ?_
      clear hD hK D K
      refine AW_ret ?_
      simp only [Ret, blockQ, kQ, loopQ, seqQ, scopeQ, ↓reduceIte]
      exact retp (toldA (.inr a)) rfl rfl rfl rfl

/-- A program that asks only for accesses to n cells of bank 0. -/
def Pg.okA {α : Type} (n : Nat) : Pg α → Prop
  | .ret _ => True
  | .ask a k => (∃ i : Nat, a = (1, 0, (i : Int)) ∧ i < n ∨ a = (2, 0, (i : Int)) ∧ i < n) ∧ ∀ r, (k r).okA n

/-- What a session comes to. -/
structure RunR where
  c : List Int
  out : Int × Int
  done : Bool
  many : Nat
  bad : Bool

def RunR.cs (r : RunR) : List AV := [.ds true 1 [.ds true r.c.length (r.c.map yv)], iv r.out.1, iv r.out.2, bv r.done, iv r.many, bv r.bad]
theorem RunR.flat (r : RunR) : Flats r.cs := by intro f; simp only [RunR.cs, AV.map, AVs.map, yvs_map]

def exL (p : Pg (Int × Int)) (fl : List Int) : Nat → List Int → List Rs → RunR
  | 0, c, L => ⟨c, (0, 0), false, 0, true⟩
  | k + 1, c, L => match p.runAt L 0 with
    | .inl (x, _) => ⟨c, x, true, L.length, false⟩
    | .inr a => if cutAt fl L.length then ⟨(accD a c (cutAt fl L.length) (noiseAt fl L.length) a.2.2.toNat).1, (0, 0), false, L.length + 1, false⟩
      else exL p fl k (accD a c (cutAt fl L.length) (noiseAt fl L.length) a.2.2.toNat).1 (L ++ [⟨(accD a c (cutAt fl L.length) (noiseAt fl L.length) a.2.2.toNat).2, ByteArray.empty⟩])

theorem okA_runAt {α : Type} {n : Nat} (L : List Rs) : ∀ (p : Pg α) (i : Nat) {a : Ac}, p.okA n → p.runAt L i = .inr a → ∃ i : Nat, a = (1, 0, (i : Int)) ∧ i < n ∨ a = (2, 0, (i : Int)) ∧ i < n
  | .ret x, i, a, _, h => by simp [Pg.runAt] at h
  | .ask b k, i, a, hp, h => by
    simp only [Pg.runAt] at h
    cases hr : L[i]? with
    | none => rw [hr] at h; simp at h; subst h; exact hp.1
    | some r => rw [hr] at h; exact okA_runAt L (k r) (i + 1) (hp.2 r) h

theorem accD_len (a : Ac) (c : List Int) (cut noise : Bool) (i : Nat) : (accD a c cut noise i).1.length = c.length := by
  unfold accD; split <;> simp

theorem logC_app (L : List Rs) (r : Rs) : logC (L ++ [r]) = logC L ++ r.cs := by simp [logC, List.flatMap_append]

theorem logC_lend (L : List Rs) (f : Nat → Option (List AV)) : (logC L).map (lendC f) = logC L := by
  induction L with
  | nil => rfl
  | cons r L ih => simp only [logC, List.flatMap_cons, Rs.cs, List.map_append, List.map_cons, List.map_nil, lendC] at ih ⊢; rw [ih]

def exF (s : Ses) (bits : Nat) (q : AV × Nat × List Int × List Rs) : St :=
  { nt := 69, nx := 5, tm := [(9, iv q.2.1), (8, .sl 1 0 q.2.1 2 (some 79)), (7, .ptr 2 0), (6, .ptr 3 0), (4, .ptr 4 0), (2, iv bits)], bx := [(1, some (logC q.2.2.2)), (2, some (hwZ q.1 q.2.2.1)), (3, some [.val (.slice none 0 0), iv 0, iv 0, bv false, iv 0, bv false]), (4, some s.cs)], gl := [], df := [] }

theorem exec_spec (c : List Int) (s : Ses) (bits : Nat) (hs : s.ok) (hb : bits ≤ 16) (hc : c.length ≤ 1000) (hok : (s.pg bits).okA c.length) :
    Spec Try.prog [] 16 [fzA c, .agg s.cs, iv bits] [] (fun o => o = .ret (.agg (exL (s.pg bits) s.fl 400 c []).cs) [] []) := by
  refine spec_of TB 69 [.cell 6 44] Try.func16 rfl rfl rfl (Nat.le_of_ble_eq_true rfl) ?_
  intro X w0 E0 hE hX
  simp only [idx, fzA, Ses.cs, List.map_nil, List.length_nil]
  refine AW_reg TB (fun D K hD hK => ?_)
  simp only [AwS, TS, binI, runR, runD, ostep, ostepB, aop, aopB, dstOk, aeff, aval, St.ev, alook, blook, aBox, AV.known, cav, St.app, tput, evs, evp, allKnown, gslot, min2, max2, AV.cs, AV.cell, loadC, aField, aIndex, TD.elem, TD.isAgg, TD.isInt, aSlice, aBound, aLen, aBuild, aFill, placesOf, bytesOf, aBin, aEql, TI.one, eqS, eqL, fits, srcOf, dstOf, killK, replZ, spl, splice, AV.tops, Tk.foot, addFoot, fine, apart, disj, St.behind, St.behindB, zipIo, newIo, gMap, ioMap, AV.map, AVs.map, nmap, ↓reduceIte, Nat.reduceAdd, Nat.reduceMul, Nat.reduceSub, Nat.reduceMod, Nat.reduceDiv, Nat.reduceEqDiff, Nat.reduceLT, Nat.reduceLeDiff, Nat.reduceBEq, Nat.reduceBNe, Int.reduceAdd, Int.reduceMul, Int.reduceSub, Int.reduceNeg, Int.reduceLT, Int.reduceLE, Int.reduceEq, Int.reduceToNat, reduceCtorEq, bind]
  refine hD _ ?_
  clear hD hK D K
  refine AW_reg TB (fun D K hD hK => ?_)
  simp only [AwS, TS, binI, runR, runD, ostep, ostepB, aop, aopB, dstOk, aeff, aval, St.ev, alook, blook, aBox, AV.known, cav, St.app, tput, evs, evp, allKnown, gslot, min2, max2, AV.cs, AV.cell, loadC, aField, aIndex, TD.elem, TD.isAgg, TD.isInt, aSlice, aBound, aLen, aBuild, aFill, placesOf, bytesOf, aBin, aEql, TI.one, eqS, eqL, fits, srcOf, dstOf, killK, replZ, spl, splice, AV.tops, Tk.foot, addFoot, fine, apart, disj, St.behind, St.behindB, zipIo, newIo, gMap, ioMap, AV.map, AVs.map, nmap, ↓reduceIte, Nat.reduceAdd, Nat.reduceMul, Nat.reduceSub, Nat.reduceMod, Nat.reduceDiv, Nat.reduceEqDiff, Nat.reduceLT, Nat.reduceLeDiff, Nat.reduceBEq, Nat.reduceBNe, Int.reduceAdd, Int.reduceMul, Int.reduceSub, Int.reduceNeg, Int.reduceLT, Int.reduceLE, Int.reduceEq, Int.reduceToNat, reduceCtorEq, bind]
  refine hD _ ?_
  clear hD hK D K
  refine AW_reg TB (fun D K hD hK => ?_)
  simp only [AwS, TS, binI, runR, runD, ostep, ostepB, aop, aopB, dstOk, aeff, aval, St.ev, alook, blook, aBox, AV.known, cav, St.app, tput, evs, evp, allKnown, gslot, min2, max2, AV.cs, AV.cell, loadC, aField, aIndex, TD.elem, TD.isAgg, TD.isInt, aSlice, aBound, aLen, aBuild, aFill, placesOf, bytesOf, aBin, aEql, TI.one, eqS, eqL, fits, srcOf, dstOf, killK, replZ, spl, splice, AV.tops, Tk.foot, addFoot, fine, apart, disj, St.behind, St.behindB, zipIo, newIo, gMap, ioMap, AV.map, AVs.map, nmap, ↓reduceIte, Nat.reduceAdd, Nat.reduceMul, Nat.reduceSub, Nat.reduceMod, Nat.reduceDiv, Nat.reduceEqDiff, Nat.reduceLT, Nat.reduceLeDiff, Nat.reduceBEq, Nat.reduceBNe, Int.reduceAdd, Int.reduceMul, Int.reduceSub, Int.reduceNeg, Int.reduceLT, Int.reduceLE, Int.reduceEq, Int.reduceToNat, reduceCtorEq, bind]
  refine hD _ ?_
  clear hD hK D K
  refine AW_seqk (fun K0 hK0 => ?_)
  refine AW_reg TB (fun D K hD hK => ?_)
  simp only [AwS, TS, binI, runR, runD, ostep, ostepB, aop, aopB, dstOk, aeff, aval, St.ev, alook, blook, aBox, AV.known, cav, St.app, tput, evs, evp, allKnown, gslot, min2, max2, AV.cs, AV.cell, loadC, aField, aIndex, TD.elem, TD.isAgg, TD.isInt, aSlice, aBound, aLen, aBuild, aFill, placesOf, bytesOf, aBin, aEql, TI.one, eqS, eqL, fits, srcOf, dstOf, killK, replZ, spl, splice, AV.tops, Tk.foot, addFoot, fine, apart, disj, St.behind, St.behindB, zipIo, newIo, gMap, ioMap, AV.map, AVs.map, nmap, ↓reduceIte, Nat.reduceAdd, Nat.reduceMul, Nat.reduceSub, Nat.reduceMod, Nat.reduceDiv, Nat.reduceEqDiff, Nat.reduceLT, Nat.reduceLeDiff, Nat.reduceBEq, Nat.reduceBNe, Int.reduceAdd, Int.reduceMul, Int.reduceSub, Int.reduceNeg, Int.reduceLT, Int.reduceLE, Int.reduceEq, Int.reduceToNat, reduceCtorEq, bind]
  refine hD _ ?_
  clear hD hK D K
  refine AW_block ?_
  refine AW_loop (exF s bits) (fun q => (q.1 = .val (.slice none 0 0) ∨ q.1 = .ds true 0 []) ∧ q.2.1 ≤ 400 ∧ q.2.2.2.length = q.2.1 ∧ q.2.2.1.length = c.length ∧ exL (s.pg bits) s.fl (400 - q.2.1) q.2.2.1 q.2.2.2 = exL (s.pg bits) s.fl 400 c []) (fun q => 400 - q.2.1) hE (.val (.slice none 0 0), 0, c, []) [(1, 56), (2, 40), (3, 16), (4, 8)] ⟨.inl rfl, by dsimp only; omega, rfl, rfl, rfl⟩ ?_ ?_
  · refine ⟨rfl, by simp [exF], ⟨rfl, rfl⟩, ?_, ?_, by simp [exF], by simp [exF, nmap], ?_⟩
    · simp [exF, alook, AV.map, AVs.map, nmap, AVs_map_append, ivs_map, yvs_map, yvs_map, hwZ, Ses.cs, logC]
    · simp [exF, blook, AV.map, AVs.map, nmap, AVs_map_append, ivs_map, yvs_map, yvs_map, hwZ, Ses.cs, logC]
    · intro k hk
      have hk2 : k < 0 := hk
      omega
  rintro ⟨z, i, c1, L⟩ ⟨hz, hi, hL, hc1, hrun⟩
  simp only at hz hi hL hc1 hrun
  subst hL
  have hlf := logC_flat L
  have hX0 : ∀ g, ¬ X g := fun g hg => by obtain ⟨k, hk, _⟩ := hX g hg; exact absurd hk (Nat.not_lt_zero k)
  have tk : List.take (L.length * 2) (logC L) = logC L := List.take_of_length_le (by rw [logC_len]; exact Nat.le_refl _)
  have u1 : IntKind.i64.wrap ((L.length : Int) + 1) = ((L.length + 1 : Nat) : Int) := by rw [wrap_i64 (by omega) (by omega)]; omega
  simp only [exF, hwZ, Ses.cs]
  refine AW_seqk (fun K1 hK1 => ?_)
  refine AW_reg TB (fun D K hD hK => ?_)
  simp only [AwS, TS, binI, runR, runD, ostep, ostepB, aop, aopB, dstOk, aeff, aval, St.ev, alook, blook, aBox, AV.known, cav, St.app, tput, evs, evp, allKnown, gslot, min2, max2, AV.cs, AV.cell, loadC, aField, aIndex, TD.elem, TD.isAgg, TD.isInt, aSlice, aBound, aLen, aBuild, aFill, placesOf, bytesOf, aBin, aEql, TI.one, eqS, eqL, fits, srcOf, dstOf, killK, replZ, spl, splice, AV.tops, Tk.foot, addFoot, fine, apart, disj, St.behind, St.behindB, zipIo, newIo, gMap, ioMap, AV.map, AVs.map, nmap, ↓reduceIte, Nat.reduceAdd, Nat.reduceMul, Nat.reduceSub, Nat.reduceMod, Nat.reduceDiv, Nat.reduceEqDiff, Nat.reduceLT, Nat.reduceLeDiff, Nat.reduceBEq, Nat.reduceBNe, Int.reduceAdd, Int.reduceMul, Int.reduceSub, Int.reduceNeg, Int.reduceLT, Int.reduceLE, Int.reduceEq, Int.reduceToNat, reduceCtorEq, bind]
  refine hD _ ?_
  clear hD hK D K
  refine AW_cond rfl (fun h => AW_skip ?_) (fun h => AW_exit ?_)
  · have hlt : L.length < 400 := by simp at h; omega
    have hstep : exL (s.pg bits) s.fl (400 - L.length) c1 L = exL (s.pg bits) s.fl (400 - (L.length + 1) + 1) c1 L := by rw [show 400 - L.length = 400 - (L.length + 1) + 1 by omega]
    rw [hstep, exL] at hrun
    refine hK1 _ ?_
    refine AW_seqk (fun K2 hK2 => ?_)
    refine AW_block ?_
    refine AW_reg TB (fun D K hD hK => ?_)
    simp only [AwS, TS, binI, runR, runD, ostep, ostepB, aop, aopB, dstOk, aeff, aval, St.ev, alook, blook, aBox, AV.known, cav, St.app, tput, evs, evp, allKnown, gslot, min2, max2, AV.cs, AV.cell, loadC, aField, aIndex, TD.elem, TD.isAgg, TD.isInt, aSlice, aBound, aLen, aBuild, aFill, placesOf, bytesOf, aBin, aEql, TI.one, eqS, eqL, fits, srcOf, dstOf, killK, replZ, spl, splice, AV.tops, Tk.foot, addFoot, fine, apart, disj, St.behind, St.behindB, zipIo, newIo, gMap, ioMap, AV.map, AVs.map, nmap, ↓reduceIte, Nat.reduceAdd, Nat.reduceMul, Nat.reduceSub, Nat.reduceMod, Nat.reduceDiv, Nat.reduceEqDiff, Nat.reduceLT, Nat.reduceLeDiff, Nat.reduceBEq, Nat.reduceBNe, Int.reduceAdd, Int.reduceMul, Int.reduceSub, Int.reduceNeg, Int.reduceLT, Int.reduceLE, Int.reduceEq, Int.reduceToNat, reduceCtorEq, bind]
    refine hK _ _ ?_
    clear hD hK D K
    refine AL_callP rfl rfl rfl rfl en_28 (next_spec false L s bits hs (by omega) hb) [1] ?_ ?_ ?_ ?_ ?_
    · simp [evs, St.ev, cav, alook, lendA, lentBx, lendC, blook, AVs.map, AV.map, ioMap, hlf _, tk, yvs_map, Ses.cs, logC_lend]
    · simp [blook]
    · unfold toldA; split <;> rfl
    · unfold toldA; split <;> rfl
    cases hres : (s.pg bits).runAt L 0 with
    | inl q =>
      obtain ⟨q, j⟩ := q
      rw [hres] at hrun
      simp only at hrun
      rw [← hrun]
      simp only [toldA]
      refine AL_runR TB _ _ (fun D K hD hK => ?_)
      simp only [AwS, TS, binI, runR, runD, ostep, ostepB, aop, aopB, dstOk, aeff, aval, St.ev, alook, blook, aBox, AV.known, cav, St.app, tput, evs, evp, allKnown, gslot, min2, max2, AV.cs, AV.cell, loadC, aField, aIndex, TD.elem, TD.isAgg, TD.isInt, aSlice, aBound, aLen, aBuild, aFill, placesOf, bytesOf, aBin, aEql, TI.one, eqS, eqL, fits, srcOf, dstOf, killK, replZ, spl, splice, AV.tops, Tk.foot, addFoot, fine, apart, disj, St.behind, St.behindB, zipIo, newIo, gMap, ioMap, AV.map, AVs.map, nmap, ↓reduceIte, Nat.reduceAdd, Nat.reduceMul, Nat.reduceSub, Nat.reduceMod, Nat.reduceDiv, Nat.reduceEqDiff, Nat.reduceLT, Nat.reduceLeDiff, Nat.reduceBEq, Nat.reduceBNe, Int.reduceAdd, Int.reduceMul, Int.reduceSub, Int.reduceNeg, Int.reduceLT, Int.reduceLE, Int.reduceEq, Int.reduceToNat, reduceCtorEq, bind, outA, accC]
      refine hD _ ?_
      clear hD hK D K
      simp only [seqQ]
      refine AW_seq ?_
      refine AW_reg TB (fun D K hD hK => ?_)
      simp only [AwS, TS, binI, runR, runD, ostep, ostepB, aop, aopB, dstOk, aeff, aval, St.ev, alook, blook, aBox, AV.known, cav, St.app, tput, evs, evp, allKnown, gslot, min2, max2, AV.cs, AV.cell, loadC, aField, aIndex, TD.elem, TD.isAgg, TD.isInt, aSlice, aBound, aLen, aBuild, aFill, placesOf, bytesOf, aBin, aEql, TI.one, eqS, eqL, fits, srcOf, dstOf, killK, replZ, spl, splice, AV.tops, Tk.foot, addFoot, fine, apart, disj, St.behind, St.behindB, zipIo, newIo, gMap, ioMap, AV.map, AVs.map, nmap, ↓reduceIte, Nat.reduceAdd, Nat.reduceMul, Nat.reduceSub, Nat.reduceMod, Nat.reduceDiv, Nat.reduceEqDiff, Nat.reduceLT, Nat.reduceLeDiff, Nat.reduceBEq, Nat.reduceBNe, Int.reduceAdd, Int.reduceMul, Int.reduceSub, Int.reduceNeg, Int.reduceLT, Int.reduceLE, Int.reduceEq, Int.reduceToNat, reduceCtorEq, bind]
      refine hD _ ?_
      clear hD hK D K
      refine AW_true rfl ?_
      refine AW_reg TB (fun D K hD hK => ?_)
      simp only [AwS, TS, binI, runR, runD, ostep, ostepB, aop, aopB, dstOk, aeff, aval, St.ev, alook, blook, aBox, AV.known, cav, St.app, tput, evs, evp, allKnown, gslot, min2, max2, AV.cs, AV.cell, loadC, aField, aIndex, TD.elem, TD.isAgg, TD.isInt, aSlice, aBound, aLen, aBuild, aFill, placesOf, bytesOf, aBin, aEql, TI.one, eqS, eqL, fits, srcOf, dstOf, killK, replZ, spl, splice, AV.tops, Tk.foot, addFoot, fine, apart, disj, St.behind, St.behindB, zipIo, newIo, gMap, ioMap, AV.map, AVs.map, nmap, ↓reduceIte, Nat.reduceAdd, Nat.reduceMul, Nat.reduceSub, Nat.reduceMod, Nat.reduceDiv, Nat.reduceEqDiff, Nat.reduceLT, Nat.reduceLeDiff, Nat.reduceBEq, Nat.reduceBNe, Int.reduceAdd, Int.reduceMul, Int.reduceSub, Int.reduceNeg, Int.reduceLT, Int.reduceLE, Int.reduceEq, Int.reduceToNat, reduceCtorEq, bind]
      refine hD _ ?_
      clear hD hK D K
      refine AW_ret ?_
      simp only [Ret, blockQ, kQ, loopQ, seqQ, scopeQ, ↓reduceIte]
      refine retp (.agg (RunR.cs ⟨c1, q, true, L.length, false⟩)) rfl ?_ ?_ rfl
      · simp [resOf, resAll, resAV, alook, blook, AV.known, loadC, AwS, TS, TD.isAgg, RunR.cs]
      · simp only [AV.map, AVs.map, yvs_map, RunR.flat _ _]
    | inr a =>
      rw [hres] at hrun
      simp only at hrun
      simp only [toldA]
      refine AL_runR TB _ _ (fun D K hD hK => ?_)
      simp only [AwS, TS, binI, runR, runD, ostep, ostepB, aop, aopB, dstOk, aeff, aval, St.ev, alook, blook, aBox, AV.known, cav, St.app, tput, evs, evp, allKnown, gslot, min2, max2, AV.cs, AV.cell, loadC, aField, aIndex, TD.elem, TD.isAgg, TD.isInt, aSlice, aBound, aLen, aBuild, aFill, placesOf, bytesOf, aBin, aEql, TI.one, eqS, eqL, fits, srcOf, dstOf, killK, replZ, spl, splice, AV.tops, Tk.foot, addFoot, fine, apart, disj, St.behind, St.behindB, zipIo, newIo, gMap, ioMap, AV.map, AVs.map, nmap, ↓reduceIte, Nat.reduceAdd, Nat.reduceMul, Nat.reduceSub, Nat.reduceMod, Nat.reduceDiv, Nat.reduceEqDiff, Nat.reduceLT, Nat.reduceLeDiff, Nat.reduceBEq, Nat.reduceBNe, Int.reduceAdd, Int.reduceMul, Int.reduceSub, Int.reduceNeg, Int.reduceLT, Int.reduceLE, Int.reduceEq, Int.reduceToNat, reduceCtorEq, bind, outA, accC]
      refine hD _ ?_
      clear hD hK D K
      simp only [seqQ]
      refine AW_seq ?_
      refine AW_reg TB (fun D K hD hK => ?_)
      simp only [AwS, TS, binI, runR, runD, ostep, ostepB, aop, aopB, dstOk, aeff, aval, St.ev, alook, blook, aBox, AV.known, cav, St.app, tput, evs, evp, allKnown, gslot, min2, max2, AV.cs, AV.cell, loadC, aField, aIndex, TD.elem, TD.isAgg, TD.isInt, aSlice, aBound, aLen, aBuild, aFill, placesOf, bytesOf, aBin, aEql, TI.one, eqS, eqL, fits, srcOf, dstOf, killK, replZ, spl, splice, AV.tops, Tk.foot, addFoot, fine, apart, disj, St.behind, St.behindB, zipIo, newIo, gMap, ioMap, AV.map, AVs.map, nmap, ↓reduceIte, Nat.reduceAdd, Nat.reduceMul, Nat.reduceSub, Nat.reduceMod, Nat.reduceDiv, Nat.reduceEqDiff, Nat.reduceLT, Nat.reduceLeDiff, Nat.reduceBEq, Nat.reduceBNe, Int.reduceAdd, Int.reduceMul, Int.reduceSub, Int.reduceNeg, Int.reduceLT, Int.reduceLE, Int.reduceEq, Int.reduceToNat, reduceCtorEq, bind]
      refine hD _ ?_
      clear hD hK D K
      refine AW_false rfl (AW_skip ?_)
      simp only [seqQ]
      refine AW_reg TB (fun D K hD hK => ?_)
      simp only [AwS, TS, binI, runR, runD, ostep, ostepB, aop, aopB, dstOk, aeff, aval, St.ev, alook, blook, aBox, AV.known, cav, St.app, tput, evs, evp, allKnown, gslot, min2, max2, AV.cs, AV.cell, loadC, aField, aIndex, TD.elem, TD.isAgg, TD.isInt, aSlice, aBound, aLen, aBuild, aFill, placesOf, bytesOf, aBin, aEql, TI.one, eqS, eqL, fits, srcOf, dstOf, killK, replZ, spl, splice, AV.tops, Tk.foot, addFoot, fine, apart, disj, St.behind, St.behindB, zipIo, newIo, gMap, ioMap, AV.map, AVs.map, nmap, ↓reduceIte, Nat.reduceAdd, Nat.reduceMul, Nat.reduceSub, Nat.reduceMod, Nat.reduceDiv, Nat.reduceEqDiff, Nat.reduceLT, Nat.reduceLeDiff, Nat.reduceBEq, Nat.reduceBNe, Int.reduceAdd, Int.reduceMul, Int.reduceSub, Int.reduceNeg, Int.reduceLT, Int.reduceLE, Int.reduceEq, Int.reduceToNat, reduceCtorEq, bind]
      refine hK _ _ ?_
      clear hD hK D K
      refine AL_callP rfl rfl rfl rfl en_29 (fault_spec s.fl L.length hs.2.2) [] ?_ (by simp) rfl rfl ?_
      · simp [evs, St.ev, cav, alook, lendA, lentBx, lendC, blook, AVs.map, AV.map, ioMap, yvs_map]
      simp only [ftC]
      refine AL_runR TB _ _ (fun D K hD hK => ?_)
      simp only [AwS, TS, binI, runR, runD, ostep, ostepB, aop, aopB, dstOk, aeff, aval, St.ev, alook, blook, aBox, AV.known, cav, St.app, tput, evs, evp, allKnown, gslot, min2, max2, AV.cs, AV.cell, loadC, aField, aIndex, TD.elem, TD.isAgg, TD.isInt, aSlice, aBound, aLen, aBuild, aFill, placesOf, bytesOf, aBin, aEql, TI.one, eqS, eqL, fits, srcOf, dstOf, killK, replZ, spl, splice, AV.tops, Tk.foot, addFoot, fine, apart, disj, St.behind, St.behindB, zipIo, newIo, gMap, ioMap, AV.map, AVs.map, nmap, ↓reduceIte, Nat.reduceAdd, Nat.reduceMul, Nat.reduceSub, Nat.reduceMod, Nat.reduceDiv, Nat.reduceEqDiff, Nat.reduceLT, Nat.reduceLeDiff, Nat.reduceBEq, Nat.reduceBNe, Int.reduceAdd, Int.reduceMul, Int.reduceSub, Int.reduceNeg, Int.reduceLT, Int.reduceLE, Int.reduceEq, Int.reduceToNat, reduceCtorEq, bind]
      refine hD _ ?_
      clear hD hK D K
      simp only [seqQ]
      have ha : ∃ k m, (k = 1 ∨ k = 2) ∧ a = (k, 0, ((m : Nat) : Int)) ∧ m < c1.length := by
        obtain ⟨m, h1 | h1⟩ := okA_runAt L (s.pg bits) 0 hok hres
        · exact ⟨1, m, .inl rfl, h1.1, by omega⟩
        · exact ⟨2, m, .inr rfl, h1.1, by omega⟩
      obtain ⟨k, m, hk, rfl, hm⟩ := ha
      have hcl := accD_len (k, 0, (m : Int)) c1 (cutAt s.fl L.length) (noiseAt s.fl L.length) m
      refine AW_reg TB (fun D K hD hK => ?_)
      simp only [AwS, TS, binI, runR, runD, ostep, ostepB, aop, aopB, dstOk, aeff, aval, St.ev, alook, blook, aBox, AV.known, cav, St.app, tput, evs, evp, allKnown, gslot, min2, max2, AV.cs, AV.cell, loadC, aField, aIndex, TD.elem, TD.isAgg, TD.isInt, aSlice, aBound, aLen, aBuild, aFill, placesOf, bytesOf, aBin, aEql, TI.one, eqS, eqL, fits, srcOf, dstOf, killK, replZ, spl, splice, AV.tops, Tk.foot, addFoot, fine, apart, disj, St.behind, St.behindB, zipIo, newIo, gMap, ioMap, AV.map, AVs.map, nmap, ↓reduceIte, Nat.reduceAdd, Nat.reduceMul, Nat.reduceSub, Nat.reduceMod, Nat.reduceDiv, Nat.reduceEqDiff, Nat.reduceLT, Nat.reduceLeDiff, Nat.reduceBEq, Nat.reduceBNe, Int.reduceAdd, Int.reduceMul, Int.reduceSub, Int.reduceNeg, Int.reduceLT, Int.reduceLE, Int.reduceEq, Int.reduceToNat, reduceCtorEq, bind]
      refine hK _ _ ?_
      clear hD hK D K
      refine AL_callP rfl rfl rfl rfl en_30 (do9_spec c1 k m (cutAt s.fl L.length) (noiseAt s.fl L.length) hk hm (by omega)) [] ?_ (by simp) rfl ?_ ?_
      · rcases hz with rfl | rfl
        · simp [evs, St.ev, cav, alook, lendA, lentBx, lendC, blook, AVs.map, AV.map, ioMap, yvs_map, hwC, hwZ, accC, ftC]
        · simp [evs, St.ev, cav, alook, lendA, lentBx, lendC, blook, AVs.map, AV.map, ioMap, yvs_map, hwC, hwZ, accC, ftC]
      · simp only [AV.map, AVs.map, yvs_map, hwC_flat _ _]
      simp only [hwC, hwZ]
      refine AL_runR TB _ _ (fun D K hD hK => ?_)
      simp only [AwS, TS, binI, runR, runD, ostep, ostepB, aop, aopB, dstOk, aeff, aval, St.ev, alook, blook, aBox, AV.known, cav, St.app, tput, evs, evp, allKnown, gslot, min2, max2, AV.cs, AV.cell, loadC, aField, aIndex, TD.elem, TD.isAgg, TD.isInt, aSlice, aBound, aLen, aBuild, aFill, placesOf, bytesOf, aBin, aEql, TI.one, eqS, eqL, fits, srcOf, dstOf, killK, replZ, spl, splice, AV.tops, Tk.foot, addFoot, fine, apart, disj, St.behind, St.behindB, zipIo, newIo, gMap, ioMap, AV.map, AVs.map, nmap, ↓reduceIte, Nat.reduceAdd, Nat.reduceMul, Nat.reduceSub, Nat.reduceMod, Nat.reduceDiv, Nat.reduceEqDiff, Nat.reduceLT, Nat.reduceLeDiff, Nat.reduceBEq, Nat.reduceBNe, Int.reduceAdd, Int.reduceMul, Int.reduceSub, Int.reduceNeg, Int.reduceLT, Int.reduceLE, Int.reduceEq, Int.reduceToNat, reduceCtorEq, bind]
      refine hD _ ?_
      clear hD hK D K
      simp only [seqQ]
      refine AW_seq ?_
      refine AW_reg TB (fun D K hD hK => ?_)
      simp only [AwS, TS, binI, runR, runD, ostep, ostepB, aop, aopB, dstOk, aeff, aval, St.ev, alook, blook, aBox, AV.known, cav, St.app, tput, evs, evp, allKnown, gslot, min2, max2, AV.cs, AV.cell, loadC, aField, aIndex, TD.elem, TD.isAgg, TD.isInt, aSlice, aBound, aLen, aBuild, aFill, placesOf, bytesOf, aBin, aEql, TI.one, eqS, eqL, fits, srcOf, dstOf, killK, replZ, spl, splice, AV.tops, Tk.foot, addFoot, fine, apart, disj, St.behind, St.behindB, zipIo, newIo, gMap, ioMap, AV.map, AVs.map, nmap, ↓reduceIte, Nat.reduceAdd, Nat.reduceMul, Nat.reduceSub, Nat.reduceMod, Nat.reduceDiv, Nat.reduceEqDiff, Nat.reduceLT, Nat.reduceLeDiff, Nat.reduceBEq, Nat.reduceBNe, Int.reduceAdd, Int.reduceMul, Int.reduceSub, Int.reduceNeg, Int.reduceLT, Int.reduceLE, Int.reduceEq, Int.reduceToNat, reduceCtorEq, bind]
      refine hD _ ?_
      clear hD hK D K
      refine AW_false rfl (AW_skip ?_)
      simp only [seqQ]
      refine AW_reg TB (fun D K hD hK => ?_)
      simp only [AwS, TS, binI, runR, runD, ostep, ostepB, aop, aopB, dstOk, aeff, aval, St.ev, alook, blook, aBox, AV.known, cav, St.app, tput, evs, evp, allKnown, gslot, min2, max2, AV.cs, AV.cell, loadC, aField, aIndex, TD.elem, TD.isAgg, TD.isInt, aSlice, aBound, aLen, aBuild, aFill, placesOf, bytesOf, aBin, aEql, TI.one, eqS, eqL, fits, srcOf, dstOf, killK, replZ, spl, splice, AV.tops, Tk.foot, addFoot, fine, apart, disj, St.behind, St.behindB, zipIo, newIo, gMap, ioMap, AV.map, AVs.map, nmap, ↓reduceIte, Nat.reduceAdd, Nat.reduceMul, Nat.reduceSub, Nat.reduceMod, Nat.reduceDiv, Nat.reduceEqDiff, Nat.reduceLT, Nat.reduceLeDiff, Nat.reduceBEq, Nat.reduceBNe, Int.reduceAdd, Int.reduceMul, Int.reduceSub, Int.reduceNeg, Int.reduceLT, Int.reduceLE, Int.reduceEq, Int.reduceToNat, reduceCtorEq, bind]
      refine hD _ ?_
      clear hD hK D K
      refine AW_seq ?_
      refine AW_reg TB (fun D K hD hK => ?_)
      simp only [AwS, TS, binI, runR, runD, ostep, ostepB, aop, aopB, dstOk, aeff, aval, St.ev, alook, blook, aBox, AV.known, cav, St.app, tput, evs, evp, allKnown, gslot, min2, max2, AV.cs, AV.cell, loadC, aField, aIndex, TD.elem, TD.isAgg, TD.isInt, aSlice, aBound, aLen, aBuild, aFill, placesOf, bytesOf, aBin, aEql, TI.one, eqS, eqL, fits, srcOf, dstOf, killK, replZ, spl, splice, AV.tops, Tk.foot, addFoot, fine, apart, disj, St.behind, St.behindB, zipIo, newIo, gMap, ioMap, AV.map, AVs.map, nmap, ↓reduceIte, Nat.reduceAdd, Nat.reduceMul, Nat.reduceSub, Nat.reduceMod, Nat.reduceDiv, Nat.reduceEqDiff, Nat.reduceLT, Nat.reduceLeDiff, Nat.reduceBEq, Nat.reduceBNe, Int.reduceAdd, Int.reduceMul, Int.reduceSub, Int.reduceNeg, Int.reduceLT, Int.reduceLE, Int.reduceEq, Int.reduceToNat, reduceCtorEq, bind]
      refine hD _ ?_
      clear hD hK D K
      simp only [Int.toNat_natCast] at hrun
      cases hcut : cutAt s.fl L.length with
      | true =>
        rw [hcut] at hrun hcl
        refine AW_true rfl ?_
        refine AW_reg TB (fun D K hD hK => ?_)
        simp only [AwS, TS, binI, runR, runD, ostep, ostepB, aop, aopB, dstOk, aeff, aval, St.ev, alook, blook, aBox, AV.known, cav, St.app, tput, evs, evp, allKnown, gslot, min2, max2, AV.cs, AV.cell, loadC, aField, aIndex, TD.elem, TD.isAgg, TD.isInt, aSlice, aBound, aLen, aBuild, aFill, placesOf, bytesOf, aBin, aEql, TI.one, eqS, eqL, fits, srcOf, dstOf, killK, replZ, spl, splice, AV.tops, Tk.foot, addFoot, fine, apart, disj, St.behind, St.behindB, zipIo, newIo, gMap, ioMap, AV.map, AVs.map, nmap, ↓reduceIte, Nat.reduceAdd, Nat.reduceMul, Nat.reduceSub, Nat.reduceMod, Nat.reduceDiv, Nat.reduceEqDiff, Nat.reduceLT, Nat.reduceLeDiff, Nat.reduceBEq, Nat.reduceBNe, Int.reduceAdd, Int.reduceMul, Int.reduceSub, Int.reduceNeg, Int.reduceLT, Int.reduceLE, Int.reduceEq, Int.reduceToNat, reduceCtorEq, bind, u1]
        refine hD _ ?_
        clear hD hK D K
        rw [← hrun]
        refine AW_ret ?_
        simp only [Ret, blockQ, kQ, loopQ, seqQ, scopeQ, ↓reduceIte]
        refine retp (.agg (RunR.cs ⟨_, (0, 0), false, L.length + 1, false⟩)) rfl ?_ ?_ rfl
        · simp [resOf, resAll, resAV, alook, blook, AV.known, loadC, AwS, TS, TD.isAgg, RunR.cs]
        · simp only [AV.map, AVs.map, yvs_map, RunR.flat _ _]
      | false =>
        rw [hcut] at hrun hcl
        refine AW_false rfl (AW_skip ?_)
        simp only [seqQ]
        have lg : (L.length * 2 = (logC L).length) = True := by simp [logC_len]
        have lg2 : (L.length + 1 ≤ 4294967296) = True := by simp; omega
        refine AW_regl TB (fun D K hD hK => ?_)
        simp only [AwS, TS, binI, runR, runD, ostep, ostepB, aop, aopB, dstOk, aeff, aval, St.ev, alook, blook, aBox, AV.known, cav, St.app, tput, evs, evp, allKnown, gslot, min2, max2, AV.cs, AV.cell, loadC, aField, aIndex, TD.elem, TD.isAgg, TD.isInt, aSlice, aBound, aLen, aBuild, aFill, placesOf, bytesOf, aBin, aEql, TI.one, eqS, eqL, fits, srcOf, dstOf, killK, replZ, spl, splice, AV.tops, Tk.foot, addFoot, fine, apart, disj, St.behind, St.behindB, zipIo, newIo, gMap, ioMap, AV.map, AVs.map, nmap, ↓reduceIte, Nat.reduceAdd, Nat.reduceMul, Nat.reduceSub, Nat.reduceMod, Nat.reduceDiv, Nat.reduceEqDiff, Nat.reduceLT, Nat.reduceLeDiff, Nat.reduceBEq, Nat.reduceBNe, Int.reduceAdd, Int.reduceMul, Int.reduceSub, Int.reduceNeg, Int.reduceLT, Int.reduceLE, Int.reduceEq, Int.reduceToNat, reduceCtorEq, bind, lg, lg2]
        refine hD _ ?_
        clear hD hK D K
        refine hK2 _ ?_
        refine AW_regl TB (fun D K hD hK => ?_)
        simp only [AwS, TS, binI, runR, runD, ostep, ostepB, aop, aopB, dstOk, aeff, aval, St.ev, alook, blook, aBox, AV.known, cav, St.app, tput, evs, evp, allKnown, gslot, min2, max2, AV.cs, AV.cell, loadC, aField, aIndex, TD.elem, TD.isAgg, TD.isInt, aSlice, aBound, aLen, aBuild, aFill, placesOf, bytesOf, aBin, aEql, TI.one, eqS, eqL, fits, srcOf, dstOf, killK, replZ, spl, splice, AV.tops, Tk.foot, addFoot, fine, apart, disj, St.behind, St.behindB, zipIo, newIo, gMap, ioMap, AV.map, AVs.map, nmap, ↓reduceIte, Nat.reduceAdd, Nat.reduceMul, Nat.reduceSub, Nat.reduceMod, Nat.reduceDiv, Nat.reduceEqDiff, Nat.reduceLT, Nat.reduceLeDiff, Nat.reduceBEq, Nat.reduceBNe, Int.reduceAdd, Int.reduceMul, Int.reduceSub, Int.reduceNeg, Int.reduceLT, Int.reduceLE, Int.reduceEq, Int.reduceToNat, reduceCtorEq, bind, u1]
        refine hD _ ?_
        clear hD hK D K
        refine ⟨(.ds true 0 [], L.length + 1, (accD (k, 0, (m : Int)) c1 false (noiseAt s.fl L.length) m).1, L ++ [⟨(accD (k, 0, (m : Int)) c1 false (noiseAt s.fl L.length) m).2, ByteArray.empty⟩]), [(1, 357), (2, 2), (3, 3), (4, 4)], ⟨.inr rfl, by dsimp only; omega, by simp, by rw [← hc1, ← hcl], ?_⟩, by dsimp only; omega, ?_⟩
        · simp only [Bool.false_eq_true, if_false] at hrun
          exact hrun
        · refine ⟨rfl, by simp [exF], ⟨rfl, rfl⟩, ?_, ?_, by simp [exF], by simp [exF, nmap], ?_⟩
          · simp [exF, alook, AV.map, AVs.map, nmap, AVs_map_append, ivs_map, yvs_map, yvs_map, hwZ, Ses.cs, logC_app, Rs.cs, hlf _]
          · simp [exF, blook, AV.map, AVs.map, nmap, AVs_map_append, ivs_map, yvs_map, yvs_map, hwZ, Ses.cs, logC_app, Rs.cs, hlf _]
          · intro k hk
            have hk2 : k < 0 := hk
            omega
  · have hge : L.length = 400 := by simp at h; omega
    refine hK0 _ ?_
    refine AW_reg TB (fun D K hD hK => ?_)
    simp only [AwS, TS, binI, runR, runD, ostep, ostepB, aop, aopB, dstOk, aeff, aval, St.ev, alook, blook, aBox, AV.known, cav, St.app, tput, evs, evp, allKnown, gslot, min2, max2, AV.cs, AV.cell, loadC, aField, aIndex, TD.elem, TD.isAgg, TD.isInt, aSlice, aBound, aLen, aBuild, aFill, placesOf, bytesOf, aBin, aEql, TI.one, eqS, eqL, fits, srcOf, dstOf, killK, replZ, spl, splice, AV.tops, Tk.foot, addFoot, fine, apart, disj, St.behind, St.behindB, zipIo, newIo, gMap, ioMap, AV.map, AVs.map, nmap, ↓reduceIte, Nat.reduceAdd, Nat.reduceMul, Nat.reduceSub, Nat.reduceMod, Nat.reduceDiv, Nat.reduceEqDiff, Nat.reduceLT, Nat.reduceLeDiff, Nat.reduceBEq, Nat.reduceBNe, Int.reduceAdd, Int.reduceMul, Int.reduceSub, Int.reduceNeg, Int.reduceLT, Int.reduceLE, Int.reduceEq, Int.reduceToNat, reduceCtorEq, bind]
    refine hD _ ?_
    clear hD hK D K
    have hfin : exL (s.pg bits) s.fl 400 c [] = ⟨c1, (0, 0), false, 0, true⟩ := by rw [← hrun, hge]; rfl
    rw [hfin]
    refine AW_ret ?_
    simp only [Ret, blockQ, kQ, loopQ, seqQ, scopeQ, ↓reduceIte]
    refine retp (.agg (RunR.cs ⟨c1, (0, 0), false, 0, true⟩)) rfl ?_ ?_ rfl
    · simp [resOf, resAll, resAV, alook, blook, AV.known, loadC, AwS, TS, TD.isAgg, RunR.cs]
    · simp only [AV.map, AVs.map, yvs_map, RunR.flat _ _]
end Go.Proofs.Ytdnmnafadondkaa
