/- For every seed and every height from 1 to 3, the roots of all 2^height signatures of a message agree: each of them verifies under the same root, and their chains belong to different one-time keys exactly as their indices say: the statement TreesigSharesPaths. No condition. -/
import Derived.Test.YtgbpgplkhifgiaaDoorMX
import Derived.Test.YtgbpgplkhifgiaaDoorMD
set_option linter.unusedVariables false
set_option linter.unusedSimpArgs false
set_option maxRecDepth 100000
namespace Go.Proofs.YtgbpgplkhifgiaaDoor
open Go Go.RowKit

theorem manyZ_nat (h : Nat) (hh : h ≤ 4) : manyZ (h : Int) = ((2 ^ h : Nat) : Int) := by
  unfold manyZ
  rw [if_pos (by omega), Int.toNat_natCast]

theorem rem_u8 (H : UInt8) (n : Nat) : (IntKind.i64.wrap (H.toNat : Int)).tmod ((n : Nat) : Int) = ((H.toNat % n : Nat) : Int) := by
  have := H.toNat_lt
  rw [wrap_i64 (by omega) (by omega), ← Int.ofNat_tmod]

theorem own_spec (seed m : List UInt8) (H I : UInt8) (hs : seed.length = 16) (hm : m.length = 16) :
    Spec Tryd.prog glS 6 [.agg (seed.map bw ++ (bw H :: bw I :: m.map bw))] [] (fun o => o = .ret (bv true) [] []) := by
  refine spec_of TB 80 [.tmp 2] Tryd.func6 rfl rfl rfl (Nat.le_of_ble_eq_true rfl) ?_
  intro X w0 E0 hE hX
  have hsl : (seed.map bw).length = 16 := by simp [hs]
  have hml : (m.map bw).length = 16 := by simp [hm]
  have f0 : (seed.map bw ++ (bw H :: bw I :: m.map bw)).length = 34 := by simp [hs, hm]
  have f1 : List.take 16 (seed.map bw ++ (bw H :: bw I :: m.map bw)) = seed.map bw := List.take_left' hsl
  have f2 : (seed.map bw ++ (bw H :: bw I :: m.map bw))[16]? = some (bw H) := by rw [List.getElem?_append_right (by omega), hsl]; rfl
  have f3 : (seed.map bw ++ (bw H :: bw I :: m.map bw))[17]? = some (bw I) := by rw [List.getElem?_append_right (by omega), hsl]; rfl
  have f4 : List.take 16 (List.drop 18 (seed.map bw ++ (bw H :: bw I :: m.map bw))) = m.map bw := by
    rw [List.drop_append, List.drop_eq_nil_of_le (by omega), hsl]
    exact List.take_of_length_le (by simp [hm])
  generalize seed.map bw ++ (bw H :: bw I :: m.map bw) = cs at *
  have za : spl (List.replicate 16 (.val (.int .u8 0))) 0 (seed.map bw) = seed.map bw := spl_all (by simp [hs]) (by simp [hs])
  have zb : spl (List.replicate 16 (.val (.int .u8 0))) 0 (m.map bw) = m.map bw := spl_all (by simp [hm]) (by simp [hm])
  simp only [List.replicate] at za zb
  have zc : List.take 16 (seed.map bw) = seed.map bw := List.take_of_length_le (by simp [hs])
  have zd : List.take 16 (m.map bw) = m.map bw := List.take_of_length_le (by simp [hm])
  simp only [idx, List.map_nil, List.length_nil]
  refine AW_reg TB (fun D K hD hK => ?_)
  simp only [AwS, TS, AwD, aval, aIndex, aSlice, aLen, BN, BW, BS, Int.cast_ofNat_Int, spl, splice, bind, ↓reduceIte, Nat.reduceAdd, Nat.reduceMul, Nat.reduceSub, Nat.reduceMod, Nat.reduceDiv, Nat.reduceEqDiff, Nat.reduceLT, Nat.reduceLeDiff, Nat.reduceBEq, Nat.reduceBNe, Int.reduceAdd, Int.reduceMul, Int.reduceSub, Int.reduceNeg, Int.reduceLT, Int.reduceLE, Int.reduceEq, Int.reduceToNat, reduceCtorEq]
  refine hD _ ?_
  clear hD hK D K
  refine AW_reg TB (fun D K hD hK => ?_)
  simp only [AwS, TS, AwD, aval, aIndex, aSlice, aLen, BN, BW, BS, Int.cast_ofNat_Int, spl, splice, bind, ↓reduceIte, Nat.reduceAdd, Nat.reduceMul, Nat.reduceSub, Nat.reduceMod, Nat.reduceDiv, Nat.reduceEqDiff, Nat.reduceLT, Nat.reduceLeDiff, Nat.reduceBEq, Nat.reduceBNe, Int.reduceAdd, Int.reduceMul, Int.reduceSub, Int.reduceNeg, Int.reduceLT, Int.reduceLE, Int.reduceEq, Int.reduceToNat, reduceCtorEq, f0, f1, za, hsl, bws_cell, -spl]
  refine hD _ ?_
  clear hD hK D K
  refine AW_reg TB (fun D K hD hK => ?_)
  simp only [AwS, TS, AwD, aval, aIndex, aSlice, aLen, BN, BW, BS, Int.cast_ofNat_Int, spl, splice, bind, ↓reduceIte, Nat.reduceAdd, Nat.reduceMul, Nat.reduceSub, Nat.reduceMod, Nat.reduceDiv, Nat.reduceEqDiff, Nat.reduceLT, Nat.reduceLeDiff, Nat.reduceBEq, Nat.reduceBNe, Int.reduceAdd, Int.reduceMul, Int.reduceSub, Int.reduceNeg, Int.reduceLT, Int.reduceLE, Int.reduceEq, Int.reduceToNat, reduceCtorEq, f0, f2]
  refine hD _ ?_
  clear hD hK D K
  refine AW_reg TB (fun D K hD hK => ?_)
  simp only [AwS, TS, AwD, aval, aIndex, aSlice, aLen, BN, BW, BS, Int.cast_ofNat_Int, spl, splice, bind, ↓reduceIte, Nat.reduceAdd, Nat.reduceMul, Nat.reduceSub, Nat.reduceMod, Nat.reduceDiv, Nat.reduceEqDiff, Nat.reduceLT, Nat.reduceLeDiff, Nat.reduceBEq, Nat.reduceBNe, Int.reduceAdd, Int.reduceMul, Int.reduceSub, Int.reduceNeg, Int.reduceLT, Int.reduceLE, Int.reduceEq, Int.reduceToNat, reduceCtorEq, f0, f3]
  refine hD _ ?_
  clear hD hK D K
  refine AW_reg TB (fun D K hD hK => ?_)
  simp only [AwS, TS, AwD, aval, aIndex, aSlice, aLen, BN, BW, BS, Int.cast_ofNat_Int, spl, splice, bind, ↓reduceIte, Nat.reduceAdd, Nat.reduceMul, Nat.reduceSub, Nat.reduceMod, Nat.reduceDiv, Nat.reduceEqDiff, Nat.reduceLT, Nat.reduceLeDiff, Nat.reduceBEq, Nat.reduceBNe, Int.reduceAdd, Int.reduceMul, Int.reduceSub, Int.reduceNeg, Int.reduceLT, Int.reduceLE, Int.reduceEq, Int.reduceToNat, reduceCtorEq, f0, f4, zb, hml, bws_cell, -spl]
  refine hD _ ?_
  clear hD hK D K
  refine AW_reg TB (fun D K hD hK => ?_)
  simp only [AwS, TS, AwD, aval, aIndex, aSlice, aLen, BN, BW, BS, Int.cast_ofNat_Int, spl, splice, bind, ↓reduceIte, Nat.reduceAdd, Nat.reduceMul, Nat.reduceSub, Nat.reduceMod, Nat.reduceDiv, Nat.reduceEqDiff, Nat.reduceLT, Nat.reduceLeDiff, Nat.reduceBEq, Nat.reduceBNe, Int.reduceAdd, Int.reduceMul, Int.reduceSub, Int.reduceNeg, Int.reduceLT, Int.reduceLE, Int.reduceEq, Int.reduceToNat, reduceCtorEq]
  refine hK _ _ ?_
  clear hD hK D K
  refine AL_callG rfl rfl rfl rfl en_20 tsanity_spec [] ?_ (by simp) rfl rfl (by simp [alook, AV.map, cs_map, wws_map]) ?_
  · simp [evs, St.ev, cav, alook, lendA, lentBx, lendC, blook, AVs.map, AV.map, ioMap]
  refine AL_runR TB _ _ (fun D K hD hK => ?_)
  simp only [AwS, TS, AwD, aval, aIndex, aSlice, aLen, BN, BW, BS, Int.cast_ofNat_Int, spl, splice, bind, ↓reduceIte, Nat.reduceAdd, Nat.reduceMul, Nat.reduceSub, Nat.reduceMod, Nat.reduceDiv, Nat.reduceEqDiff, Nat.reduceLT, Nat.reduceLeDiff, Nat.reduceBEq, Nat.reduceBNe, Int.reduceAdd, Int.reduceMul, Int.reduceSub, Int.reduceNeg, Int.reduceLT, Int.reduceLE, Int.reduceEq, Int.reduceToNat, reduceCtorEq]
  refine hD _ ?_
  clear hD hK D K
  have r5 := rem_u8 H 5
  have hh : H.toNat % 5 ≤ 4 := by have := Nat.mod_lt H.toNat (show 0 < 5 by omega); omega
  have ms := many_spec ((H.toNat % 5 : Nat) : Int)
  rw [manyZ_nat _ hh] at ms
  simp only [Int.cast_ofNat_Int] at r5
  generalize H.toNat % 5 = h at *
  have ri := rem_u8 I (2 ^ h)
  have hp1 : 1 ≤ 2 ^ h := Nat.one_le_two_pow
  have hi : I.toNat % 2 ^ h < 2 ^ h := Nat.mod_lt _ (by omega)
  have hp0 : (((2 ^ h : Nat) : Int) = 0) = False := eq_false (by omega)
  have rs := rootT_spec seed h hh hs
  have ts := tsign_spec seed h (I.toNat % 2 ^ h) m hh hi hs hm
  have v1 := verT_own seed h (I.toNat % 2 ^ h) m hh hi
  have pl := path_len seed h (I.toNat % 2 ^ h)
  have p16 := path_16 seed h (I.toNat % 2 ^ h)
  generalize I.toNat % 2 ^ h = i at *
  have s16 := sigL_16 seed i m 68
  have sl := sigL_len seed i m 68
  generalize pathW seed h i = P at *
  generalize sigL seed i m 68 = S at *
  have hdl0 := rootW_len seed h
  generalize rootW seed h = D0 at *
  have za0 : spl (List.replicate 16 (.val (.int .u8 0))) 0 (D0.map bw) = D0.map bw := spl_all (by simp [hdl0]) (by simp [hdl0])
  simp only [List.replicate] at za0
  have zb0 : List.take 16 (D0.map bw) = D0.map bw := List.take_of_length_le (by simp [hdl0])
  have zc0 : (D0.map bw).length = 16 := by simp [hdl0]
  have q1 := tverify_spec D0 h m i true true S P hdl0 hm s16 p16 (by omega) (by omega)
  rw [v1] at q1
  simp only [sigA] at ts q1
  generalize 2 ^ h = N at *
  refine AW_reg TB (fun D K hD hK => ?_)
  simp only [AwS, TS, AwD, aval, aIndex, aSlice, aLen, BN, BW, BS, Int.cast_ofNat_Int, spl, splice, bind, ↓reduceIte, Nat.reduceAdd, Nat.reduceMul, Nat.reduceSub, Nat.reduceMod, Nat.reduceDiv, Nat.reduceEqDiff, Nat.reduceLT, Nat.reduceLeDiff, Nat.reduceBEq, Nat.reduceBNe, Int.reduceAdd, Int.reduceMul, Int.reduceSub, Int.reduceNeg, Int.reduceLT, Int.reduceLE, Int.reduceEq, Int.reduceToNat, reduceCtorEq, r5]
  refine hD _ ?_
  clear hD hK D K
  refine AW_reg TB (fun D K hD hK => ?_)
  simp only [AwS, TS, AwD, aval, aIndex, aSlice, aLen, BN, BW, BS, Int.cast_ofNat_Int, spl, splice, bind, ↓reduceIte, Nat.reduceAdd, Nat.reduceMul, Nat.reduceSub, Nat.reduceMod, Nat.reduceDiv, Nat.reduceEqDiff, Nat.reduceLT, Nat.reduceLeDiff, Nat.reduceBEq, Nat.reduceBNe, Int.reduceAdd, Int.reduceMul, Int.reduceSub, Int.reduceNeg, Int.reduceLT, Int.reduceLE, Int.reduceEq, Int.reduceToNat, reduceCtorEq]
  refine hK _ _ ?_
  clear hD hK D K
  refine AL_callPW rfl (.inl rfl) rfl rfl en_28 ms [] ?_ (by simp) rfl rfl ?_
  · simp [evs, St.ev, cav, alook, lendA, lentBx, lendC, blook, AVs.map, AV.map, ioMap]
  refine AL_runR TB _ _ (fun D K hD hK => ?_)
  simp only [AwS, TS, AwD, aval, aIndex, aSlice, aLen, BN, BW, BS, Int.cast_ofNat_Int, spl, splice, bind, ↓reduceIte, Nat.reduceAdd, Nat.reduceMul, Nat.reduceSub, Nat.reduceMod, Nat.reduceDiv, Nat.reduceEqDiff, Nat.reduceLT, Nat.reduceLeDiff, Nat.reduceBEq, Nat.reduceBNe, Int.reduceAdd, Int.reduceMul, Int.reduceSub, Int.reduceNeg, Int.reduceLT, Int.reduceLE, Int.reduceEq, Int.reduceToNat, reduceCtorEq, ri, hp0]
  refine hD _ ?_
  clear hD hK D K
  refine AW_reg TB (fun D K hD hK => ?_)
  simp only [AwS, TS, AwD, aval, aIndex, aSlice, aLen, BN, BW, BS, Int.cast_ofNat_Int, spl, splice, bind, ↓reduceIte, Nat.reduceAdd, Nat.reduceMul, Nat.reduceSub, Nat.reduceMod, Nat.reduceDiv, Nat.reduceEqDiff, Nat.reduceLT, Nat.reduceLeDiff, Nat.reduceBEq, Nat.reduceBNe, Int.reduceAdd, Int.reduceMul, Int.reduceSub, Int.reduceNeg, Int.reduceLT, Int.reduceLE, Int.reduceEq, Int.reduceToNat, reduceCtorEq, zc, hsl]
  refine hK _ _ ?_
  clear hD hK D K
  refine AL_callG rfl rfl rfl rfl en_17 rs [] ?_ (by simp) rfl (by simp only [AV.map, AVs.map, bws_map]) (by simp [alook, AV.map, cs_map, wws_map]) ?_
  · simp [evs, St.ev, cav, alook, lendA, lentBx, lendC, blook, AVs.map, AV.map, ioMap, bws_map]
  refine AL_runR TB _ _ (fun D K hD hK => ?_)
  simp only [AwS, TS, AwD, aval, aIndex, aSlice, aLen, BN, BW, BS, Int.cast_ofNat_Int, spl, splice, bind, ↓reduceIte, Nat.reduceAdd, Nat.reduceMul, Nat.reduceSub, Nat.reduceMod, Nat.reduceDiv, Nat.reduceEqDiff, Nat.reduceLT, Nat.reduceLeDiff, Nat.reduceBEq, Nat.reduceBNe, Int.reduceAdd, Int.reduceMul, Int.reduceSub, Int.reduceNeg, Int.reduceLT, Int.reduceLE, Int.reduceEq, Int.reduceToNat, reduceCtorEq, za0, zc0, bws_cell, bws_map, -spl]
  refine hD _ ?_
  clear hD hK D K
  refine AW_reg TB (fun D K hD hK => ?_)
  simp only [AwS, TS, AwD, aval, aIndex, aSlice, aLen, BN, BW, BS, Int.cast_ofNat_Int, spl, splice, bind, ↓reduceIte, Nat.reduceAdd, Nat.reduceMul, Nat.reduceSub, Nat.reduceMod, Nat.reduceDiv, Nat.reduceEqDiff, Nat.reduceLT, Nat.reduceLeDiff, Nat.reduceBEq, Nat.reduceBNe, Int.reduceAdd, Int.reduceMul, Int.reduceSub, Int.reduceNeg, Int.reduceLT, Int.reduceLE, Int.reduceEq, Int.reduceToNat, reduceCtorEq, zc, zd, hsl, hml]
  refine hK _ _ ?_
  clear hD hK D K
  refine AL_callG rfl rfl rfl rfl en_22 ts [] ?_ (by simp) rfl (by simp only [AV.map, AVs.map, fl_map]) (by simp [alook, AV.map, cs_map, wws_map]) ?_
  · simp [evs, St.ev, cav, alook, lendA, lentBx, lendC, blook, AVs.map, AV.map, ioMap, bws_map]
  refine AL_runR TB _ _ (fun D K hD hK => ?_)
  simp only [AwS, TS, AwD, aval, aIndex, aSlice, aLen, BN, BW, BS, Int.cast_ofNat_Int, spl, splice, bind, ↓reduceIte, Nat.reduceAdd, Nat.reduceMul, Nat.reduceSub, Nat.reduceMod, Nat.reduceDiv, Nat.reduceEqDiff, Nat.reduceLT, Nat.reduceLeDiff, Nat.reduceBEq, Nat.reduceBNe, Int.reduceAdd, Int.reduceMul, Int.reduceSub, Int.reduceNeg, Int.reduceLT, Int.reduceLE, Int.reduceEq, Int.reduceToNat, reduceCtorEq, fl_map]
  refine hD _ ?_
  clear hD hK D K
  have l1 : ((P.length : Nat) : Int) = (h : Int) := by omega
  have l2 : ((S.length : Nat) : Int) = 68 := by omega
  refine AW_reg TB (fun D K hD hK => ?_)
  simp only [AwS, TS, AwD, aval, aIndex, aSlice, aLen, BN, BW, BS, Int.cast_ofNat_Int, spl, splice, bind, ↓reduceIte, Nat.reduceAdd, Nat.reduceMul, Nat.reduceSub, Nat.reduceMod, Nat.reduceDiv, Nat.reduceEqDiff, Nat.reduceLT, Nat.reduceLeDiff, Nat.reduceBEq, Nat.reduceBNe, Int.reduceAdd, Int.reduceMul, Int.reduceSub, Int.reduceNeg, Int.reduceLT, Int.reduceLE, Int.reduceEq, Int.reduceToNat, reduceCtorEq, l1, l2, zb0, zc0, zd, hml, fl_map]
  refine hK _ _ ?_
  clear hD hK D K
  refine AL_callGW rfl (.inr ⟨28, _, true, rfl, rfl, rfl⟩) rfl rfl en_19 q1 [] ?_ (by simp) rfl rfl (by simp [alook, AV.map, cs_map, wws_map]) ?_
  · simp [evs, St.ev, cav, alook, lendA, lentBx, lendC, blook, AVs.map, AV.map, ioMap, bws_map, fl_map]
  refine AL_runR TB _ _ (fun D K hD hK => ?_)
  simp only [AwS, TS, AwD, aval, aIndex, aSlice, aLen, BN, BW, BS, Int.cast_ofNat_Int, spl, splice, bind, ↓reduceIte, Nat.reduceAdd, Nat.reduceMul, Nat.reduceSub, Nat.reduceMod, Nat.reduceDiv, Nat.reduceEqDiff, Nat.reduceLT, Nat.reduceLeDiff, Nat.reduceBEq, Nat.reduceBNe, Int.reduceAdd, Int.reduceMul, Int.reduceSub, Int.reduceNeg, Int.reduceLT, Int.reduceLE, Int.reduceEq, Int.reduceToNat, reduceCtorEq]
  refine hD _ ?_
  clear hD hK D K
  refine AW_ret ?_
  simp only [Ret]
  refine retp (bv true) rfl ?_ rfl rfl
  simp [resOf, resAll, resAV, alook, blook, AV.known, loadC, AwS, TS, TD.isAgg]
end Go.Proofs.YtgbpgplkhifgiaaDoor

/- The walk of the law TreesigSharesPaths. No condition. -/
set_option linter.unusedVariables false
set_option linter.unusedSimpArgs false
set_option maxRecDepth 100000
namespace Go.Proofs.YtgbpgplkhifgiaaDoor
open Go Go.RowKit

def shF (seed m root : List UInt8) (h i : Nat) : St :=
  { nt := 72, nx := 3, tm := [(11, iv (i : Nat)), (8, iv (h : Nat)), (7, bv true), (9, .ptr 2 0), (5, .ptr 1 0), (3, .ptr 0 0)], bx := [(0, some (seed.map bw)), (1, some (m.map bw)), (2, some (root.map bw))], gl := glS, df := [] }

theorem shares_spec (seed m : List UInt8) (H : UInt8) (hs : seed.length = 16) (hm : m.length = 16) :
    Spec Tryd.prog glS 9 [.agg (seed.map bw), bw H, .agg (m.map bw)] [] (fun o => o = .ret (bv true) [] []) := by
  refine spec_of TB 72 [.tmp 6] Tryd.func9 rfl rfl rfl (Nat.le_of_ble_eq_true rfl) ?_
  intro X w0 E0 hE hX
  have hX0 : ∀ g, ¬ X g := fun g hg => by obtain ⟨q, hq, _⟩ := hX g hg; simp at hq
  have hKm : ∀ f : Nat → Nat, AVs.map f (KS.map ww) = KS.map ww := fun f => wws_map f _
  have hsl : (seed.map bw).length = 16 := by simp [hs]
  have hml : (m.map bw).length = 16 := by simp [hm]
  have zc : List.take 16 (seed.map bw) = seed.map bw := List.take_of_length_le (by simp [hs])
  have zd : List.take 16 (m.map bw) = m.map bw := List.take_of_length_le (by simp [hm])
  simp only [idx, List.map_nil, List.length_nil]
  refine AW_reg TB (fun D K hD hK => ?_)
  simp only [AwS, TS, AwD, aval, aIndex, aSlice, aLen, BN, BW, BS, Int.cast_ofNat_Int, spl, splice, bind, ↓reduceIte, Nat.reduceAdd, Nat.reduceMul, Nat.reduceSub, Nat.reduceMod, Nat.reduceDiv, Nat.reduceEqDiff, Nat.reduceLT, Nat.reduceLeDiff, Nat.reduceBEq, Nat.reduceBNe, Int.reduceAdd, Int.reduceMul, Int.reduceSub, Int.reduceNeg, Int.reduceLT, Int.reduceLE, Int.reduceEq, Int.reduceToNat, reduceCtorEq]
  refine hD _ ?_
  clear hD hK D K
  refine AW_reg TB (fun D K hD hK => ?_)
  simp only [AwS, TS, AwD, aval, aIndex, aSlice, aLen, BN, BW, BS, Int.cast_ofNat_Int, spl, splice, bind, ↓reduceIte, Nat.reduceAdd, Nat.reduceMul, Nat.reduceSub, Nat.reduceMod, Nat.reduceDiv, Nat.reduceEqDiff, Nat.reduceLT, Nat.reduceLeDiff, Nat.reduceBEq, Nat.reduceBNe, Int.reduceAdd, Int.reduceMul, Int.reduceSub, Int.reduceNeg, Int.reduceLT, Int.reduceLE, Int.reduceEq, Int.reduceToNat, reduceCtorEq]
  refine hK _ _ ?_
  clear hD hK D K
  refine AL_callG rfl rfl rfl rfl en_20 tsanity_spec [] ?_ (by simp) rfl rfl (by simp [alook, AV.map, cs_map, wws_map]) ?_
  · simp [evs, St.ev, cav, alook, lendA, lentBx, lendC, blook, AVs.map, AV.map, ioMap]
  refine AL_runR TB _ _ (fun D K hD hK => ?_)
  simp only [AwS, TS, AwD, aval, aIndex, aSlice, aLen, BN, BW, BS, Int.cast_ofNat_Int, spl, splice, bind, ↓reduceIte, Nat.reduceAdd, Nat.reduceMul, Nat.reduceSub, Nat.reduceMod, Nat.reduceDiv, Nat.reduceEqDiff, Nat.reduceLT, Nat.reduceLeDiff, Nat.reduceBEq, Nat.reduceBNe, Int.reduceAdd, Int.reduceMul, Int.reduceSub, Int.reduceNeg, Int.reduceLT, Int.reduceLE, Int.reduceEq, Int.reduceToNat, reduceCtorEq]
  refine hD _ ?_
  clear hD hK D K
  have r3 := rem_u8 H 3
  have hh2 : H.toNat % 3 ≤ 2 := by have := Nat.mod_lt H.toNat (show 0 < 3 by omega); omega
  have w0' : IntKind.i64.wrap (1 + ((H.toNat % 3 : Nat) : Int)) = ((1 + H.toNat % 3 : Nat) : Int) := by rw [wrap_i64 (by omega) (by omega)]; omega
  simp only [Int.cast_ofNat_Int] at r3
  refine AW_reg TB (fun D K hD hK => ?_)
  simp only [AwS, TS, AwD, aval, aIndex, aSlice, aLen, BN, BW, BS, Int.cast_ofNat_Int, spl, splice, bind, ↓reduceIte, Nat.reduceAdd, Nat.reduceMul, Nat.reduceSub, Nat.reduceMod, Nat.reduceDiv, Nat.reduceEqDiff, Nat.reduceLT, Nat.reduceLeDiff, Nat.reduceBEq, Nat.reduceBNe, Int.reduceAdd, Int.reduceMul, Int.reduceSub, Int.reduceNeg, Int.reduceLT, Int.reduceLE, Int.reduceEq, Int.reduceToNat, reduceCtorEq, r3, w0']
  refine hD _ ?_
  clear hD hK D K
  have hh : 1 + H.toNat % 3 ≤ 4 := by omega
  generalize 1 + H.toNat % 3 = h at *
  have rs := rootT_spec seed h hh hs
  refine AW_reg TB (fun D K hD hK => ?_)
  simp only [AwS, TS, AwD, aval, aIndex, aSlice, aLen, BN, BW, BS, Int.cast_ofNat_Int, spl, splice, bind, ↓reduceIte, Nat.reduceAdd, Nat.reduceMul, Nat.reduceSub, Nat.reduceMod, Nat.reduceDiv, Nat.reduceEqDiff, Nat.reduceLT, Nat.reduceLeDiff, Nat.reduceBEq, Nat.reduceBNe, Int.reduceAdd, Int.reduceMul, Int.reduceSub, Int.reduceNeg, Int.reduceLT, Int.reduceLE, Int.reduceEq, Int.reduceToNat, reduceCtorEq, zc, hsl]
  refine hK _ _ ?_
  clear hD hK D K
  have hrl := rootW_len seed h
  generalize hrt : rootW seed h = root at *
  have za0 : spl (List.replicate 16 (.val (.int .u8 0))) 0 (root.map bw) = root.map bw := spl_all (by simp [hrl]) (by simp [hrl])
  simp only [List.replicate] at za0
  have zb0 : List.take 16 (root.map bw) = root.map bw := List.take_of_length_le (by simp [hrl])
  have zc0 : (root.map bw).length = 16 := by simp [hrl]
  refine AL_callG rfl rfl rfl rfl en_17 rs [] ?_ (by simp) rfl (by simp only [AV.map, AVs.map, bws_map]) (by simp [alook, AV.map, cs_map, wws_map]) ?_
  · simp [evs, St.ev, cav, alook, lendA, lentBx, lendC, blook, AVs.map, AV.map, ioMap, bws_map]
  refine AL_runR TB _ _ (fun D K hD hK => ?_)
  simp only [AwS, TS, AwD, aval, aIndex, aSlice, aLen, BN, BW, BS, Int.cast_ofNat_Int, spl, splice, bind, ↓reduceIte, Nat.reduceAdd, Nat.reduceMul, Nat.reduceSub, Nat.reduceMod, Nat.reduceDiv, Nat.reduceEqDiff, Nat.reduceLT, Nat.reduceLeDiff, Nat.reduceBEq, Nat.reduceBNe, Int.reduceAdd, Int.reduceMul, Int.reduceSub, Int.reduceNeg, Int.reduceLT, Int.reduceLE, Int.reduceEq, Int.reduceToNat, reduceCtorEq, za0, zc0, bws_cell, bws_map, -spl]
  refine hD _ ?_
  clear hD hK D K
  refine AW_seq ?_
  refine AW_reg TB (fun D K hD hK => ?_)
  simp only [AwS, TS, AwD, aval, aIndex, aSlice, aLen, BN, BW, BS, Int.cast_ofNat_Int, spl, splice, bind, ↓reduceIte, Nat.reduceAdd, Nat.reduceMul, Nat.reduceSub, Nat.reduceMod, Nat.reduceDiv, Nat.reduceEqDiff, Nat.reduceLT, Nat.reduceLeDiff, Nat.reduceBEq, Nat.reduceBNe, Int.reduceAdd, Int.reduceMul, Int.reduceSub, Int.reduceNeg, Int.reduceLT, Int.reduceLE, Int.reduceEq, Int.reduceToNat, reduceCtorEq]
  refine hD _ ?_
  clear hD hK D K
  refine AW_false rfl (AW_skip ?_)
  simp only [seqQ]
  refine AW_seqk (fun K0 hK0 => ?_)
  refine AW_reg TB (fun D K hD hK => ?_)
  simp only [AwS, TS, AwD, aval, aIndex, aSlice, aLen, BN, BW, BS, Int.cast_ofNat_Int, spl, splice, bind, ↓reduceIte, Nat.reduceAdd, Nat.reduceMul, Nat.reduceSub, Nat.reduceMod, Nat.reduceDiv, Nat.reduceEqDiff, Nat.reduceLT, Nat.reduceLeDiff, Nat.reduceBEq, Nat.reduceBNe, Int.reduceAdd, Int.reduceMul, Int.reduceSub, Int.reduceNeg, Int.reduceLT, Int.reduceLE, Int.reduceEq, Int.reduceToNat, reduceCtorEq]
  refine hD _ ?_
  clear hD hK D K
  refine AW_block ?_
  trace_state
  refine AW_loop (shF seed m root h) (fun i => i ≤ 2 ^ h) (fun i => 2 ^ h - i) hE 0 [(0, 0), (1, 8), (2, 128)] (Nat.zero_le _) ?_ ?_
  · refine ⟨rfl, by simp [shF, alook, AV.map, AVs.map, hKm, cs_map, bws_map], ⟨rfl, rfl⟩, ?_, ?_, by simp [shF], by simp [shF, nmap], ?_⟩
    · simp [shF, alook, AV.map, AVs.map, nmap, AVs_map_append, ivs_map, yvs_map, hKm, cs_map, bws_map]
    · simp [shF, blook, AV.map, AVs.map, nmap, AVs_map_append, ivs_map, yvs_map, hKm, cs_map, bws_map]
    · intro k hk
      have hk2 : k < 0 := hk
      omega
  intro i hi
  simp only [shF]
  refine AW_seq ?_
  refine AW_reg TB (fun D K hD hK => ?_)
  simp only [AwS, TS, AwD, aval, aIndex, aSlice, aLen, BN, BW, BS, Int.cast_ofNat_Int, spl, splice, bind, ↓reduceIte, Nat.reduceAdd, Nat.reduceMul, Nat.reduceSub, Nat.reduceMod, Nat.reduceDiv, Nat.reduceEqDiff, Nat.reduceLT, Nat.reduceLeDiff, Nat.reduceBEq, Nat.reduceBNe, Int.reduceAdd, Int.reduceMul, Int.reduceSub, Int.reduceNeg, Int.reduceLT, Int.reduceLE, Int.reduceEq, Int.reduceToNat, reduceCtorEq]
  refine hK _ _ ?_
  clear hD hK D K
  have ms := many_spec (h : Int)
  rw [manyZ_nat _ hh] at ms
  have hp1 : 1 ≤ 2 ^ h := Nat.one_le_two_pow
  have hp2 : 2 ^ h ≤ 2 ^ 4 := Nat.pow_le_pow_right (by omega) hh
  refine AL_callPW rfl (.inl rfl) rfl rfl en_28 ms [] ?_ (by simp) rfl rfl ?_
  · simp [evs, St.ev, cav, alook, lendA, lentBx, lendC, blook, AVs.map, AV.map, ioMap]
  refine AL_runR TB _ _ (fun D K hD hK => ?_)
  simp only [AwS, TS, AwD, aval, aIndex, aSlice, aLen, BN, BW, BS, Int.cast_ofNat_Int, spl, splice, bind, ↓reduceIte, Nat.reduceAdd, Nat.reduceMul, Nat.reduceSub, Nat.reduceMod, Nat.reduceDiv, Nat.reduceEqDiff, Nat.reduceLT, Nat.reduceLeDiff, Nat.reduceBEq, Nat.reduceBNe, Int.reduceAdd, Int.reduceMul, Int.reduceSub, Int.reduceNeg, Int.reduceLT, Int.reduceLE, Int.reduceEq, Int.reduceToNat, reduceCtorEq]
  refine hD _ ?_
  clear hD hK D K
  refine AW_cond rfl (fun h5 => AW_skip ?_) (fun h5 => AW_exit ?_)
  · have hlt : i < 2 ^ h := by
      have : (i : Int) < ((2 ^ h : Nat) : Int) := of_decide_eq_true h5
      omega
    have ts := tsign_spec seed h i m hh hlt hs hm
    have v1 := verT_own seed h i m hh hlt
    have pl := path_len seed h i
    have p16 := path_16 seed h i
    have s16 := sigL_16 seed i m 68
    have sl := sigL_len seed i m 68
    have ro := rec_own seed i m
    have rcs := recover_spec m (sigL seed i m 68) true hm s16 (by omega)
    have hrR : recR m (sigL seed i m 68) = (recW m (sigL seed i m 68), 0) := if_pos sl
    rw [hrR, ro] at rcs
    have pw := public_spec seed (i : Nat) hs (by omega) (by omega)
    rw [hrt] at v1
    generalize pathW seed h i = P at *
    generalize sigL seed i m 68 = S at *
    have q1 := tverify_spec root h m i true true S P hrl hm s16 p16 (by omega) (by omega)
    rw [v1] at q1
    simp only [sigA] at ts q1
    have hdl1 := pubW_len seed i
    generalize pubW seed i = D1 at *
    have za1 : spl (List.replicate 16 (.val (.int .u8 0))) 0 (D1.map bw) = D1.map bw := spl_all (by simp [hdl1]) (by simp [hdl1])
    simp only [List.replicate] at za1
    have zb1 : List.take 16 (D1.map bw) = D1.map bw := List.take_of_length_le (by simp [hdl1])
    have zc1 : (D1.map bw).length = 16 := by simp [hdl1]
    have e5 := eqL_bws D1 D1 rfl
    have e6 := fun ti hd => fits_bws ti .u8 hd D1
    have w1 : IntKind.i64.wrap ((i : Int) + 1) = (i : Int) + 1 := wrap_i64 (by omega) (by omega)
    simp only [seqQ]
    refine AW_seqk (fun K1 hK1 => ?_)
    refine AW_block ?_
    refine AW_reg TB (fun D K hD hK => ?_)
    simp only [AwS, TS, AwD, aval, aIndex, aSlice, aLen, BN, BW, BS, Int.cast_ofNat_Int, spl, splice, bind, ↓reduceIte, Nat.reduceAdd, Nat.reduceMul, Nat.reduceSub, Nat.reduceMod, Nat.reduceDiv, Nat.reduceEqDiff, Nat.reduceLT, Nat.reduceLeDiff, Nat.reduceBEq, Nat.reduceBNe, Int.reduceAdd, Int.reduceMul, Int.reduceSub, Int.reduceNeg, Int.reduceLT, Int.reduceLE, Int.reduceEq, Int.reduceToNat, reduceCtorEq, zc, zd, hsl, hml]
    refine hK _ _ ?_
    clear hD hK D K
    refine AL_callG rfl rfl rfl rfl en_22 ts [] ?_ (by simp) rfl (by simp only [AV.map, AVs.map, fl_map]) (by simp [alook, AV.map, cs_map, wws_map]) ?_
    · simp [evs, St.ev, cav, alook, lendA, lentBx, lendC, blook, AVs.map, AV.map, ioMap, bws_map]
    refine AL_runR TB _ _ (fun D K hD hK => ?_)
    simp only [AwS, TS, AwD, aval, aIndex, aSlice, aLen, BN, BW, BS, Int.cast_ofNat_Int, spl, splice, bind, ↓reduceIte, Nat.reduceAdd, Nat.reduceMul, Nat.reduceSub, Nat.reduceMod, Nat.reduceDiv, Nat.reduceEqDiff, Nat.reduceLT, Nat.reduceLeDiff, Nat.reduceBEq, Nat.reduceBNe, Int.reduceAdd, Int.reduceMul, Int.reduceSub, Int.reduceNeg, Int.reduceLT, Int.reduceLE, Int.reduceEq, Int.reduceToNat, reduceCtorEq, fl_map]
    refine hD _ ?_
    clear hD hK D K
    refine AW_reg TB (fun D K hD hK => ?_)
    simp only [AwS, TS, AwD, aval, aIndex, aSlice, aLen, BN, BW, BS, Int.cast_ofNat_Int, spl, splice, bind, ↓reduceIte, Nat.reduceAdd, Nat.reduceMul, Nat.reduceSub, Nat.reduceMod, Nat.reduceDiv, Nat.reduceEqDiff, Nat.reduceLT, Nat.reduceLeDiff, Nat.reduceBEq, Nat.reduceBNe, Int.reduceAdd, Int.reduceMul, Int.reduceSub, Int.reduceNeg, Int.reduceLT, Int.reduceLE, Int.reduceEq, Int.reduceToNat, reduceCtorEq, zd, hml]
    refine hK _ _ ?_
    clear hD hK D K
    refine AL_callG rfl rfl rfl rfl en_29 rcs [] ?_ (by simp) rfl (by simp only [AV.map, AVs.map, bws_map]) (by simp [alook, AV.map, cs_map, wws_map]) ?_
    · simp [evs, St.ev, cav, alook, lendA, lentBx, lendC, blook, AVs.map, AV.map, ioMap, bws_map, fl_map]
    refine AL_runR TB _ _ (fun D K hD hK => ?_)
    simp only [AwS, TS, AwD, aval, aIndex, aSlice, aLen, BN, BW, BS, Int.cast_ofNat_Int, spl, splice, bind, ↓reduceIte, Nat.reduceAdd, Nat.reduceMul, Nat.reduceSub, Nat.reduceMod, Nat.reduceDiv, Nat.reduceEqDiff, Nat.reduceLT, Nat.reduceLeDiff, Nat.reduceBEq, Nat.reduceBNe, Int.reduceAdd, Int.reduceMul, Int.reduceSub, Int.reduceNeg, Int.reduceLT, Int.reduceLE, Int.reduceEq, Int.reduceToNat, reduceCtorEq, za1, zc1, bws_cell, bws_map, -spl]
    refine hD _ ?_
    clear hD hK D K
    refine AW_dreg TB mx ([[], [0], [1, 0], [2, 1, 0], [3, 2, 1, 0], [2, 1, 0, 4, 3], [5, 2, 1, 0, 4, 3], [6, 5, 2, 1, 0, 4, 3], [6, 5, 2, 1, 0, 4, 3], [6, 5, 2, 1, 0, 4, 3], [8, 6, 5, 2, 1, 0, 4, 3, 9], [7, 6, 5, 2, 1, 0, 4, 3, 10, 8, 9], [6, 5, 2, 1, 0, 4, 3, 11, 7, 10, 8, 9], [12, 6, 5, 2, 1, 0, 4, 3, 11, 7, 10, 8, 9], [13, 12, 6, 5, 2, 1, 0, 4, 3, 11, 7, 10, 8, 9], [13, 12, 6, 5, 2, 1, 0, 4, 3, 11, 7, 10, 8, 9], [13, 12, 6, 5, 2, 1, 0, 4, 3, 11, 7, 10, 8, 9], [13, 12, 6, 5, 2, 1, 0, 4, 3, 11, 7, 10, 8, 9], [14, 13, 12, 6, 5, 2, 1, 0, 4, 3, 11, 7, 10, 8, 9, 15, 16, 17], [18, 14, 13, 12, 6, 5, 2, 1, 0, 4, 3, 11, 7, 10, 8, 9, 15, 16, 17], [13, 12, 6, 5, 2, 1, 0, 4, 3, 11, 7, 10, 8, 9, 19, 18, 14, 15, 16, 17]]) (by kernel_rfl) (by kernel_rfl) (fun D K hD hK => ?_)
    simp only [AwS, TS, AwD, aval, aIndex, aSlice, aLen, BN, BW, BS, Int.cast_ofNat_Int, spl, splice, bind, ↓reduceIte, Nat.reduceAdd, Nat.reduceMul, Nat.reduceSub, Nat.reduceMod, Nat.reduceDiv, Nat.reduceEqDiff, Nat.reduceLT, Nat.reduceLeDiff, Nat.reduceBEq, Nat.reduceBNe, Int.reduceAdd, Int.reduceMul, Int.reduceSub, Int.reduceNeg, Int.reduceLT, Int.reduceLE, Int.reduceEq, Int.reduceToNat, reduceCtorEq, Op.operands, Call.operands, List.toList_toArray, List.size_toArray, cmp, List.getD_cons_zero, List.getD_cons_succ, Array.toList_append, Option.toArray, List.append_toArray,  zc, zd, hsl, hml, zb1, zc1]
    refine hK _ _ _ _ ?_
    clear hD hK D K
    refine DL_callPW rfl rfl (.inr ⟨6, _, false, rfl, rfl, rfl⟩) rfl rfl en_31 pw [] ?_ (by simp) (by simp [alook, AV.map, cs_map, wws_map]) rfl (by simp only [AV.map, bws_map]) rfl ?_
    · simp [evs, St.ev, cav, alook, lendA, lentBx, lendC, blook, AVs.map, AV.map, ioMap, bws_map]
    refine DL_rest TB rfl (fun D K hD hK => ?_)
    simp only [AwS, TS, AwD, aval, aIndex, aSlice, aLen, BN, BW, BS, Int.cast_ofNat_Int, spl, splice, bind, ↓reduceIte, Nat.reduceAdd, Nat.reduceMul, Nat.reduceSub, Nat.reduceMod, Nat.reduceDiv, Nat.reduceEqDiff, Nat.reduceLT, Nat.reduceLeDiff, Nat.reduceBEq, Nat.reduceBNe, Int.reduceAdd, Int.reduceMul, Int.reduceSub, Int.reduceNeg, Int.reduceLT, Int.reduceLE, Int.reduceEq, Int.reduceToNat, reduceCtorEq, Op.operands, Call.operands, List.toList_toArray, List.size_toArray, cmp, List.getD_cons_zero, List.getD_cons_succ, Array.toList_append, Option.toArray, List.append_toArray, e5, e6, zc, zd, hsl, hml, zb0, zc0, zc1]
    refine hK _ _ _ _ ?_
    clear hD hK D K
    refine DL_callPW rfl rfl (.inr ⟨13, _, false, rfl, rfl, rfl⟩) rfl rfl en_19 q1 [] ?_ (by simp) (by simp [alook, AV.map, cs_map, wws_map]) rfl rfl rfl ?_
    · simp [evs, St.ev, cav, alook, lendA, lentBx, lendC, blook, AVs.map, AV.map, ioMap, bws_map, fl_map]
    refine DL_rest TB rfl (fun D K hD hK => ?_)
    simp only [AwS, TS, AwD, aval, aIndex, aSlice, aLen, BN, BW, BS, Int.cast_ofNat_Int, spl, splice, bind, ↓reduceIte, Nat.reduceAdd, Nat.reduceMul, Nat.reduceSub, Nat.reduceMod, Nat.reduceDiv, Nat.reduceEqDiff, Nat.reduceLT, Nat.reduceLeDiff, Nat.reduceBEq, Nat.reduceBNe, Int.reduceAdd, Int.reduceMul, Int.reduceSub, Int.reduceNeg, Int.reduceLT, Int.reduceLE, Int.reduceEq, Int.reduceToNat, reduceCtorEq, Op.operands, Call.operands, List.toList_toArray, List.size_toArray, cmp, List.getD_cons_zero, List.getD_cons_succ, Array.toList_append, Option.toArray, List.append_toArray]
    refine hD _ ?_
    clear hD hK D K
    refine AW_false rfl (AW_skip ?_)
    simp only [blockQ]
    refine hK1 _ ?_
    refine AW_regl TB (fun D K hD hK => ?_)
    simp only [AwS, TS, AwD, aval, aIndex, aSlice, aLen, BN, BW, BS, Int.cast_ofNat_Int, spl, splice, bind, ↓reduceIte, Nat.reduceAdd, Nat.reduceMul, Nat.reduceSub, Nat.reduceMod, Nat.reduceDiv, Nat.reduceEqDiff, Nat.reduceLT, Nat.reduceLeDiff, Nat.reduceBEq, Nat.reduceBNe, Int.reduceAdd, Int.reduceMul, Int.reduceSub, Int.reduceNeg, Int.reduceLT, Int.reduceLE, Int.reduceEq, Int.reduceToNat, reduceCtorEq, w1]
    refine hD _ ?_
    clear hD hK D K
    refine ⟨i + 1, [(0, 0), (1, 1), (2, 2)], by omega, by dsimp only; omega, ?_⟩
    refine ⟨rfl, by simp [shF, alook, AV.map, AVs.map, hKm, cs_map, bws_map], ⟨rfl, rfl⟩, ?_, ?_, by simp [shF], by simp [shF, nmap], ?_⟩
    · simp [shF, alook, AV.map, AVs.map, nmap, AVs_map_append, ivs_map, yvs_map, hKm, cs_map, bws_map]
    · simp [shF, blook, AV.map, AVs.map, nmap, AVs_map_append, ivs_map, yvs_map, hKm, cs_map, bws_map]
    · intro k hk
      have hk2 : k < 0 := hk
      omega
  · have hge : i = 2 ^ h := by
      have : ¬ (i : Int) < ((2 ^ h : Nat) : Int) := of_decide_eq_false h5
      omega
    refine hK0 _ ?_
    refine AW_reg TB (fun D K hD hK => ?_)
    simp only [AwS, TS, AwD, aval, aIndex, aSlice, aLen, BN, BW, BS, Int.cast_ofNat_Int, spl, splice, bind, ↓reduceIte, Nat.reduceAdd, Nat.reduceMul, Nat.reduceSub, Nat.reduceMod, Nat.reduceDiv, Nat.reduceEqDiff, Nat.reduceLT, Nat.reduceLeDiff, Nat.reduceBEq, Nat.reduceBNe, Int.reduceAdd, Int.reduceMul, Int.reduceSub, Int.reduceNeg, Int.reduceLT, Int.reduceLE, Int.reduceEq, Int.reduceToNat, reduceCtorEq]
    refine hD _ ?_
    clear hD hK D K
    refine AW_ret ?_
    simp only [Ret]
    refine retp (bv true) rfl ?_ rfl rfl
    simp [resOf, resAll, resAV, alook, blook, AV.known, loadC, AwS, TS, TD.isAgg]
end Go.Proofs.YtgbpgplkhifgiaaDoor

/- How more kinds of arguments read. No condition. -/
set_option linter.unusedVariables false
set_option linter.unusedSimpArgs false
set_option maxRecDepth 100000
namespace Go.Proofs.YtgbpgplkhifgiaaDoor
open Go Go.RowKit Go.ChangeShapes Go.WideShapes Go.ChangeAt

theorem decV_b : DecV Tryd.prog 5 UInt8 (fun b => bw b) (fun _ => True) :=
  decV_of dec_b fun W base v h => by obtain ⟨n, rfl⟩ := okWide_int Tryd.underlying5 h; rfl
theorem decV_dig : DecV Tryd.prog 23 (List UInt8) (fun d => .agg (d.map bw)) (fun d => d.length = 16) :=
  decV_agg dec_dig fun W base v h => by
    unfold Value.okWide at h
    rw [Tryd.underlying23] at h
    obtain ⟨cs, h1, _⟩ := h
    exact ⟨cs, h1⟩

/-- A list of digests that comes in. -/
theorem flat_fl (l : List (List UInt8)) : (l.flatMap fun d => d.map bw) = fl l := by
  unfold fl
  rw [List.map_flatten]
  rfl
theorem dec_digs : Dec Tryd.prog 43 (List (List UInt8)) (fun l => [.ds true l.length (fl l)]) (fun l => l.length ≤ maxLen ∧ All16 l) :=
  (dec_slice Tryd.underlying43 dec_dig (z := 16) (by kernel_rfl) (by decide)).conv id (fun l h => ⟨⟨h.1, h.2⟩, by rw [← flat_fl]; rfl⟩)

/-- A signature that comes in. -/
theorem dec_sig : Dec Tryd.prog 45 (Int × List (List UInt8) × List (List UInt8) × Unit) (fun s => [iv s.1] ++ ([.ds true s.2.1.length (fl s.2.1)] ++ ([.ds true s.2.2.1.length (fl s.2.2.1)] ++ [])))
    (fun s => (Lit.int .i64 s.1).wf = true ∧ (s.2.1.length ≤ maxLen ∧ All16 s.2.1) ∧ (s.2.2.1.length ≤ maxLen ∧ All16 s.2.2.1) ∧ True) :=
  by
  have h := dec_struct Tryd.underlying45 (by kernel_rfl) (decF_cons 1 (dec_int Tryd.underlying3) rfl (by kernel_rfl) (decF_cons 1 dec_digs rfl (by kernel_rfl) (decF_cons 1 dec_digs rfl (by kernel_rfl) decF_nil)))
  exact h

end Go.Proofs.YtgbpgplkhifgiaaDoor

set_option linter.unusedVariables false
set_option linter.unusedSimpArgs false
set_option maxRecDepth 100000
namespace Go.Proofs.YtgbpgplkhifgiaaDoor
open Go Go.RowKit Go.ChangeShapes Go.WideShapes Go.ChangeAt

theorem lifted15 (os : Os) (started : os.Started) (H : Type) (enc : TypeId × Value → H) :
    ReturnsInHanded {} Tryd.checked os 9 .any (fun w args => (Rows.treesigSharesPathsSpec.pre enc Tryd.prog Tryd.f9 [] false w args ∧ laidMetH Tryd.prog laidL w) ∧ sizedMet enc Tryd.prog Tryd.f9 (OpenSpec.ofChange Rows.treesigSharesPathsSpec) false w args)
      (Rows.treesigSharesPathsSpec.post enc Tryd.prog Tryd.f9 false true false false) := by
  refine returnsInHanded_of_change_and (C := Tryd.checked) (X := fun w _ => laidMetH Tryd.prog laidL w) (fun _ _ _ hh h => h.of_heap hh) own started (by kernel_rfl) Tryd.func9
    (ChangeSpec.witness_shaped (enc := enc) (C := Tryd.checked) (os := os) (X := fun w _ => laidMetH Tryd.prog laidL w) false (World.doorLaid Tryd.prog 400 os) #[.agg (Array.replicate 16 (.int .u8 0)), .int .u8 0, .agg (Array.replicate 16 (.int .u8 0))] 8 rfl (World.shaped_of_RefB (by kernel_rfl) (by kernel_rfl)) (by kernel_rfl) (by kernel_rfl) (by kernel_rfl) (door_met os _)) ?_
  intro W base args ds gs before hval0 hW _ _ hL _
  have hval : ∀ (j : Nat) t v, Tryd.f9.params[j]? = some t → args[j]? = some v → Value.okWide Tryd.prog W .any base t v := hval0
  refine law_step (P := Tryd.prog) (tb := 4) laidOut (by kernel_rfl) rfl Tryd.underlying4 rfl (fun ds hds => ?_) hW ?_
  · match ds, hds with
    | [d, d', d''], _ => rfl
  · obtain ⟨p, q, hA0, _⟩ := hW
    have hA : DataW.TrodAll enc Tryd.prog W 0 (fun _ => true) true Tryd.f9.params.toList args.toList ds p := hA0
    rw [Tryd.params9] at hA hval
    obtain ⟨v0, vs0, d0, ds0, p0, q0, hargs, rfl, rfl, h0, r0⟩ := trodAll_cons hA
    obtain ⟨v1, vs1, d1, ds1, p1, q1, rfl, rfl, rfl, h1, r1⟩ := trodAll_cons r0
    obtain ⟨v2, vs2, d2, ds2, p2, q2, rfl, rfl, rfl, h2, r2⟩ := trodAll_cons r1
    obtain ⟨rfl, rfl, rfl⟩ := trodAll_nil r2
    obtain rfl : args = #[v0, v1, v2] := by cases args; simp_all
    obtain ⟨seed, hs, m0⟩ := decV_dig.run enc W base 0 _ _ v0 d0 p0 (hval 0 23 v0 rfl rfl) h0
    obtain ⟨hh, _, m1⟩ := decV_b.run enc W base 0 _ _ v1 d1 p1 (hval 1 5 v1 rfl rfl) h1
    obtain ⟨m, hm, m2⟩ := decV_dig.run enc W base 0 _ _ v2 d2 p2 (hval 2 23 v2 rfl rfl) h2
    exact calls_of_spec (shares_spec seed m hh hs hm) (Ms_cons.2 ⟨v0, _, rfl, m0, Ms_cons.2 ⟨v1, _, rfl, m1, Ms_cons.2 ⟨v2, _, rfl, m2, rfl⟩⟩⟩) (gl_of_laid hL)

theorem over15 : Rows.treesigSharesPathsRow.holds Tryd.pinned (OpenSpec.ofChange Rows.treesigSharesPathsSpec) :=
  OpenClaim.holds_of_wide 9 Tryd.f9 rfl rfl rfl rfl rfl rfl rfl ⟨rfl, rfl, rfl, rfl, rfl⟩ rfl rfl rfl rfl rfl (by kernel_rfl) Tryd.func9 (by kernel_rfl)
    (of_decide_eq_true (by kernel_rfl)) (by unfold Func.isWrapper; first | (rw [if_pos (by decide +kernel)]; kernel_rfl) | (rw [if_neg (by decide +kernel)]; exact ⟨rfl, rfl⟩))
    (fun os started H enc _ => lifted15 os started H enc)

/-- THE STATEMENT. -/
theorem treesigSharesPaths_holds : Rows.TreesigSharesPathsCardSaid :=
  Claim7.holds_tied_plain_at .later [] [.data, .data] true (true, "1f7228ecc30db96422f7eff86bcd234cff7766a2089915b410f6763b33ffab23") true
    over15 (fun _ h => by cases h) (by kernel_rfl) (fun _ h => by cases h) treesigSharesPaths_row_tie rfl ⟨rfl, rfl⟩ (by kernel_rfl) rfl
    (fun f fn hf hfn => by
      obtain rfl : f = 9 := Option.some.inj ((show Tryd.prog.funcNamed "bootchain/bootchainlaw05.TreesigSharesPaths" = some 9 by kernel_rfl).symm.trans hf) |>.symm
      obtain rfl : fn = Tryd.f9 := (Option.some.inj (Tryd.func9.symm.trans hfn)).symm
      exact ⟨by kernel_rfl, fun j t ht => by
        rw [Tryd.params9] at ht
        have hm : t ∈ [23, 5, 23] := by simpa using Array.mem_of_getElem? ht
        have hall : ([23, 5, 23].all fun u => !Tryd.prog.wantsStandIn u) = true := by kernel_rfl
        exact (show Tryd.prog.wantsStandIn t = false by simpa using List.all_eq_true.1 hall t hm)⟩)
    (by kernel_rfl)
#print axioms treesigSharesPaths_holds
end Go.Proofs.YtgbpgplkhifgiaaDoor
