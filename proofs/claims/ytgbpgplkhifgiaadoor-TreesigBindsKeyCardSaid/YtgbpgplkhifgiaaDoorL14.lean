/- Whenever a signature verifies, the one-time public key that is recovered from it and the path lead to the root: folding the path upwards from that key, on the sides given by the bits of the index, yields the root: the statement TreesigBindsKey. No condition. -/
import Derived.Test.YtgbpgplkhifgiaaDoorMX
import Derived.Test.YtgbpgplkhifgiaaDoorMF
import Derived.Test.YtgbpgplkhifgiaaDoorMD
set_option linter.unusedVariables false
set_option linter.unusedSimpArgs false
set_option maxRecDepth 100000
namespace Go.Proofs.YtgbpgplkhifgiaaDoor
open Go Go.RowKit

theorem manyZ_nat (h : Nat) (hh : h ≤ 4) : manyZ (h : Int) = ((2 ^ h : Nat) : Int) := by
  unfold manyZ
  rw [if_pos (by omega), Int.toNat_natCast]

theorem rem_u8 (H : UInt8) (n : Nat) : (IntKind.i64.wrap (H.toNat : Int)).tmod ((n : Nat) : Int) = ((H.toNat % n : Nat) : Int) := by
  have := H.toNat_lt
  rw [wrap_i64 (by omega) (by omega), ← Int.ofNat_tmod]

theorem own_spec (seed m : List UInt8) (H I : UInt8) (hs : seed.length = 16) (hm : m.length = 16) :
    Spec Tryd.prog glS 6 [.agg (seed.map bw ++ (bw H :: bw I :: m.map bw))] [] (fun o => o = .ret (bv true) [] []) := by
  refine spec_of TB 80 [.tmp 2] Tryd.func6 rfl rfl rfl (Nat.le_of_ble_eq_true rfl) ?_
  intro X w0 E0 hE hX
  have hsl : (seed.map bw).length = 16 := by simp [hs]
  have hml : (m.map bw).length = 16 := by simp [hm]
  have f0 : (seed.map bw ++ (bw H :: bw I :: m.map bw)).length = 34 := by simp [hs, hm]
  have f1 : List.take 16 (seed.map bw ++ (bw H :: bw I :: m.map bw)) = seed.map bw := List.take_left' hsl
  have f2 : (seed.map bw ++ (bw H :: bw I :: m.map bw))[16]? = some (bw H) := by rw [List.getElem?_append_right (by omega), hsl]; rfl
  have f3 : (seed.map bw ++ (bw H :: bw I :: m.map bw))[17]? = some (bw I) := by rw [List.getElem?_append_right (by omega), hsl]; rfl
  have f4 : List.take 16 (List.drop 18 (seed.map bw ++ (bw H :: bw I :: m.map bw))) = m.map bw := by
    rw [List.drop_append, List.drop_eq_nil_of_le (by omega), hsl]
    exact List.take_of_length_le (by simp [hm])
  generalize seed.map bw ++ (bw H :: bw I :: m.map bw) = cs at *
  have za : spl (List.replicate 16 (.val (.int .u8 0))) 0 (seed.map bw) = seed.map bw := spl_all (by simp [hs]) (by simp [hs])
  have zb : spl (List.replicate 16 (.val (.int .u8 0))) 0 (m.map bw) = m.map bw := spl_all (by simp [hm]) (by simp [hm])
  simp only [List.replicate] at za zb
  have zc : List.take 16 (seed.map bw) = seed.map bw := List.take_of_length_le (by simp [hs])
  have zd : List.take 16 (m.map bw) = m.map bw := List.take_of_length_le (by simp [hm])
  simp only [idx, List.map_nil, List.length_nil]
  refine AW_reg TB (fun D K hD hK => ?_)
  simp only [AwS, TS, AwD, aval, aIndex, aSlice, aLen, BN, BW, BS, Int.cast_ofNat_Int, spl, splice, bind, ↓reduceIte, Nat.reduceAdd, Nat.reduceMul, Nat.reduceSub, Nat.reduceMod, Nat.reduceDiv, Nat.reduceEqDiff, Nat.reduceLT, Nat.reduceLeDiff, Nat.reduceBEq, Nat.reduceBNe, Int.reduceAdd, Int.reduceMul, Int.reduceSub, Int.reduceNeg, Int.reduceLT, Int.reduceLE, Int.reduceEq, Int.reduceToNat, reduceCtorEq]
  refine hD _ ?_
  clear hD hK D K
  refine AW_reg TB (fun D K hD hK => ?_)
  simp only [AwS, TS, AwD, aval, aIndex, aSlice, aLen, BN, BW, BS, Int.cast_ofNat_Int, spl, splice, bind, ↓reduceIte, Nat.reduceAdd, Nat.reduceMul, Nat.reduceSub, Nat.reduceMod, Nat.reduceDiv, Nat.reduceEqDiff, Nat.reduceLT, Nat.reduceLeDiff, Nat.reduceBEq, Nat.reduceBNe, Int.reduceAdd, Int.reduceMul, Int.reduceSub, Int.reduceNeg, Int.reduceLT, Int.reduceLE, Int.reduceEq, Int.reduceToNat, reduceCtorEq, f0, f1, za, hsl, bws_cell, -spl]
  refine hD _ ?_
  clear hD hK D K
  refine AW_reg TB (fun D K hD hK => ?_)
  simp only [AwS, TS, AwD, aval, aIndex, aSlice, aLen, BN, BW, BS, Int.cast_ofNat_Int, spl, splice, bind, ↓reduceIte, Nat.reduceAdd, Nat.reduceMul, Nat.reduceSub, Nat.reduceMod, Nat.reduceDiv, Nat.reduceEqDiff, Nat.reduceLT, Nat.reduceLeDiff, Nat.reduceBEq, Nat.reduceBNe, Int.reduceAdd, Int.reduceMul, Int.reduceSub, Int.reduceNeg, Int.reduceLT, Int.reduceLE, Int.reduceEq, Int.reduceToNat, reduceCtorEq, f0, f2]
  refine hD _ ?_
  clear hD hK D K
  refine AW_reg TB (fun D K hD hK => ?_)
  simp only [AwS, TS, AwD, aval, aIndex, aSlice, aLen, BN, BW, BS, Int.cast_ofNat_Int, spl, splice, bind, ↓reduceIte, Nat.reduceAdd, Nat.reduceMul, Nat.reduceSub, Nat.reduceMod, Nat.reduceDiv, Nat.reduceEqDiff, Nat.reduceLT, Nat.reduceLeDiff, Nat.reduceBEq, Nat.reduceBNe, Int.reduceAdd, Int.reduceMul, Int.reduceSub, Int.reduceNeg, Int.reduceLT, Int.reduceLE, Int.reduceEq, Int.reduceToNat, reduceCtorEq, f0, f3]
  refine hD _ ?_
  clear hD hK D K
  refine AW_reg TB (fun D K hD hK => ?_)
  simp only [AwS, TS, AwD, aval, aIndex, aSlice, aLen, BN, BW, BS, Int.cast_ofNat_Int, spl, splice, bind, ↓reduceIte, Nat.reduceAdd, Nat.reduceMul, Nat.reduceSub, Nat.reduceMod, Nat.reduceDiv, Nat.reduceEqDiff, Nat.reduceLT, Nat.reduceLeDiff, Nat.reduceBEq, Nat.reduceBNe, Int.reduceAdd, Int.reduceMul, Int.reduceSub, Int.reduceNeg, Int.reduceLT, Int.reduceLE, Int.reduceEq, Int.reduceToNat, reduceCtorEq, f0, f4, zb, hml, bws_cell, -spl]
  refine hD _ ?_
  clear hD hK D K
  refine AW_reg TB (fun D K hD hK => ?_)
  simp only [AwS, TS, AwD, aval, aIndex, aSlice, aLen, BN, BW, BS, Int.cast_ofNat_Int, spl, splice, bind, ↓reduceIte, Nat.reduceAdd, Nat.reduceMul, Nat.reduceSub, Nat.reduceMod, Nat.reduceDiv, Nat.reduceEqDiff, Nat.reduceLT, Nat.reduceLeDiff, Nat.reduceBEq, Nat.reduceBNe, Int.reduceAdd, Int.reduceMul, Int.reduceSub, Int.reduceNeg, Int.reduceLT, Int.reduceLE, Int.reduceEq, Int.reduceToNat, reduceCtorEq]
  refine hK _ _ ?_
  clear hD hK D K
  refine AL_callG rfl rfl rfl rfl en_20 tsanity_spec [] ?_ (by simp) rfl rfl (by simp [alook, AV.map, cs_map, wws_map]) ?_
  · simp [evs, St.ev, cav, alook, lendA, lentBx, lendC, blook, AVs.map, AV.map, ioMap]
  refine AL_runR TB _ _ (fun D K hD hK => ?_)
  simp only [AwS, TS, AwD, aval, aIndex, aSlice, aLen, BN, BW, BS, Int.cast_ofNat_Int, spl, splice, bind, ↓reduceIte, Nat.reduceAdd, Nat.reduceMul, Nat.reduceSub, Nat.reduceMod, Nat.reduceDiv, Nat.reduceEqDiff, Nat.reduceLT, Nat.reduceLeDiff, Nat.reduceBEq, Nat.reduceBNe, Int.reduceAdd, Int.reduceMul, Int.reduceSub, Int.reduceNeg, Int.reduceLT, Int.reduceLE, Int.reduceEq, Int.reduceToNat, reduceCtorEq]
  refine hD _ ?_
  clear hD hK D K
  have r5 := rem_u8 H 5
  have hh : H.toNat % 5 ≤ 4 := by have := Nat.mod_lt H.toNat (show 0 < 5 by omega); omega
  have ms := many_spec ((H.toNat % 5 : Nat) : Int)
  rw [manyZ_nat _ hh] at ms
  simp only [Int.cast_ofNat_Int] at r5
  generalize H.toNat % 5 = h at *
  have ri := rem_u8 I (2 ^ h)
  have hp1 : 1 ≤ 2 ^ h := Nat.one_le_two_pow
  have hi : I.toNat % 2 ^ h < 2 ^ h := Nat.mod_lt _ (by omega)
  have hp0 : (((2 ^ h : Nat) : Int) = 0) = False := eq_false (by omega)
  have rs := rootT_spec seed h hh hs
  have ts := tsign_spec seed h (I.toNat % 2 ^ h) m hh hi hs hm
  have v1 := verT_own seed h (I.toNat % 2 ^ h) m hh hi
  have pl := path_len seed h (I.toNat % 2 ^ h)
  have p16 := path_16 seed h (I.toNat % 2 ^ h)
  generalize I.toNat % 2 ^ h = i at *
  have s16 := sigL_16 seed i m 68
  have sl := sigL_len seed i m 68
  generalize pathW seed h i = P at *
  generalize sigL seed i m 68 = S at *
  have hdl0 := rootW_len seed h
  generalize rootW seed h = D0 at *
  have za0 : spl (List.replicate 16 (.val (.int .u8 0))) 0 (D0.map bw) = D0.map bw := spl_all (by simp [hdl0]) (by simp [hdl0])
  simp only [List.replicate] at za0
  have zb0 : List.take 16 (D0.map bw) = D0.map bw := List.take_of_length_le (by simp [hdl0])
  have zc0 : (D0.map bw).length = 16 := by simp [hdl0]
  have q1 := tverify_spec D0 h m i true true S P hdl0 hm s16 p16 (by omega) (by omega)
  rw [v1] at q1
  simp only [sigA] at ts q1
  generalize 2 ^ h = N at *
  refine AW_reg TB (fun D K hD hK => ?_)
  simp only [AwS, TS, AwD, aval, aIndex, aSlice, aLen, BN, BW, BS, Int.cast_ofNat_Int, spl, splice, bind, ↓reduceIte, Nat.reduceAdd, Nat.reduceMul, Nat.reduceSub, Nat.reduceMod, Nat.reduceDiv, Nat.reduceEqDiff, Nat.reduceLT, Nat.reduceLeDiff, Nat.reduceBEq, Nat.reduceBNe, Int.reduceAdd, Int.reduceMul, Int.reduceSub, Int.reduceNeg, Int.reduceLT, Int.reduceLE, Int.reduceEq, Int.reduceToNat, reduceCtorEq, r5]
  refine hD _ ?_
  clear hD hK D K
  refine AW_reg TB (fun D K hD hK => ?_)
  simp only [AwS, TS, AwD, aval, aIndex, aSlice, aLen, BN, BW, BS, Int.cast_ofNat_Int, spl, splice, bind, ↓reduceIte, Nat.reduceAdd, Nat.reduceMul, Nat.reduceSub, Nat.reduceMod, Nat.reduceDiv, Nat.reduceEqDiff, Nat.reduceLT, Nat.reduceLeDiff, Nat.reduceBEq, Nat.reduceBNe, Int.reduceAdd, Int.reduceMul, Int.reduceSub, Int.reduceNeg, Int.reduceLT, Int.reduceLE, Int.reduceEq, Int.reduceToNat, reduceCtorEq]
  refine hK _ _ ?_
  clear hD hK D K
  refine AL_callPW rfl (.inl rfl) rfl rfl en_28 ms [] ?_ (by simp) rfl rfl ?_
  · simp [evs, St.ev, cav, alook, lendA, lentBx, lendC, blook, AVs.map, AV.map, ioMap]
  refine AL_runR TB _ _ (fun D K hD hK => ?_)
  simp only [AwS, TS, AwD, aval, aIndex, aSlice, aLen, BN, BW, BS, Int.cast_ofNat_Int, spl, splice, bind, ↓reduceIte, Nat.reduceAdd, Nat.reduceMul, Nat.reduceSub, Nat.reduceMod, Nat.reduceDiv, Nat.reduceEqDiff, Nat.reduceLT, Nat.reduceLeDiff, Nat.reduceBEq, Nat.reduceBNe, Int.reduceAdd, Int.reduceMul, Int.reduceSub, Int.reduceNeg, Int.reduceLT, Int.reduceLE, Int.reduceEq, Int.reduceToNat, reduceCtorEq, ri, hp0]
  refine hD _ ?_
  clear hD hK D K
  refine AW_reg TB (fun D K hD hK => ?_)
  simp only [AwS, TS, AwD, aval, aIndex, aSlice, aLen, BN, BW, BS, Int.cast_ofNat_Int, spl, splice, bind, ↓reduceIte, Nat.reduceAdd, Nat.reduceMul, Nat.reduceSub, Nat.reduceMod, Nat.reduceDiv, Nat.reduceEqDiff, Nat.reduceLT, Nat.reduceLeDiff, Nat.reduceBEq, Nat.reduceBNe, Int.reduceAdd, Int.reduceMul, Int.reduceSub, Int.reduceNeg, Int.reduceLT, Int.reduceLE, Int.reduceEq, Int.reduceToNat, reduceCtorEq, zc, hsl]
  refine hK _ _ ?_
  clear hD hK D K
  refine AL_callG rfl rfl rfl rfl en_17 rs [] ?_ (by simp) rfl (by simp only [AV.map, AVs.map, bws_map]) (by simp [alook, AV.map, cs_map, wws_map]) ?_
  · simp [evs, St.ev, cav, alook, lendA, lentBx, lendC, blook, AVs.map, AV.map, ioMap, bws_map]
  refine AL_runR TB _ _ (fun D K hD hK => ?_)
  simp only [AwS, TS, AwD, aval, aIndex, aSlice, aLen, BN, BW, BS, Int.cast_ofNat_Int, spl, splice, bind, ↓reduceIte, Nat.reduceAdd, Nat.reduceMul, Nat.reduceSub, Nat.reduceMod, Nat.reduceDiv, Nat.reduceEqDiff, Nat.reduceLT, Nat.reduceLeDiff, Nat.reduceBEq, Nat.reduceBNe, Int.reduceAdd, Int.reduceMul, Int.reduceSub, Int.reduceNeg, Int.reduceLT, Int.reduceLE, Int.reduceEq, Int.reduceToNat, reduceCtorEq, za0, zc0, bws_cell, bws_map, -spl]
  refine hD _ ?_
  clear hD hK D K
  refine AW_reg TB (fun D K hD hK => ?_)
  simp only [AwS, TS, AwD, aval, aIndex, aSlice, aLen, BN, BW, BS, Int.cast_ofNat_Int, spl, splice, bind, ↓reduceIte, Nat.reduceAdd, Nat.reduceMul, Nat.reduceSub, Nat.reduceMod, Nat.reduceDiv, Nat.reduceEqDiff, Nat.reduceLT, Nat.reduceLeDiff, Nat.reduceBEq, Nat.reduceBNe, Int.reduceAdd, Int.reduceMul, Int.reduceSub, Int.reduceNeg, Int.reduceLT, Int.reduceLE, Int.reduceEq, Int.reduceToNat, reduceCtorEq, zc, zd, hsl, hml]
  refine hK _ _ ?_
  clear hD hK D K
  refine AL_callG rfl rfl rfl rfl en_22 ts [] ?_ (by simp) rfl (by simp only [AV.map, AVs.map, fl_map]) (by simp [alook, AV.map, cs_map, wws_map]) ?_
  · simp [evs, St.ev, cav, alook, lendA, lentBx, lendC, blook, AVs.map, AV.map, ioMap, bws_map]
  refine AL_runR TB _ _ (fun D K hD hK => ?_)
  simp only [AwS, TS, AwD, aval, aIndex, aSlice, aLen, BN, BW, BS, Int.cast_ofNat_Int, spl, splice, bind, ↓reduceIte, Nat.reduceAdd, Nat.reduceMul, Nat.reduceSub, Nat.reduceMod, Nat.reduceDiv, Nat.reduceEqDiff, Nat.reduceLT, Nat.reduceLeDiff, Nat.reduceBEq, Nat.reduceBNe, Int.reduceAdd, Int.reduceMul, Int.reduceSub, Int.reduceNeg, Int.reduceLT, Int.reduceLE, Int.reduceEq, Int.reduceToNat, reduceCtorEq, fl_map]
  refine hD _ ?_
  clear hD hK D K
  have l1 : ((P.length : Nat) : Int) = (h : Int) := by omega
  have l2 : ((S.length : Nat) : Int) = 68 := by omega
  refine AW_reg TB (fun D K hD hK => ?_)
  simp only [AwS, TS, AwD, aval, aIndex, aSlice, aLen, BN, BW, BS, Int.cast_ofNat_Int, spl, splice, bind, ↓reduceIte, Nat.reduceAdd, Nat.reduceMul, Nat.reduceSub, Nat.reduceMod, Nat.reduceDiv, Nat.reduceEqDiff, Nat.reduceLT, Nat.reduceLeDiff, Nat.reduceBEq, Nat.reduceBNe, Int.reduceAdd, Int.reduceMul, Int.reduceSub, Int.reduceNeg, Int.reduceLT, Int.reduceLE, Int.reduceEq, Int.reduceToNat, reduceCtorEq, l1, l2, zb0, zc0, zd, hml, fl_map]
  refine hK _ _ ?_
  clear hD hK D K
  refine AL_callGW rfl (.inr ⟨28, _, true, rfl, rfl, rfl⟩) rfl rfl en_19 q1 [] ?_ (by simp) rfl rfl (by simp [alook, AV.map, cs_map, wws_map]) ?_
  · simp [evs, St.ev, cav, alook, lendA, lentBx, lendC, blook, AVs.map, AV.map, ioMap, bws_map, fl_map]
  refine AL_runR TB _ _ (fun D K hD hK => ?_)
  simp only [AwS, TS, AwD, aval, aIndex, aSlice, aLen, BN, BW, BS, Int.cast_ofNat_Int, spl, splice, bind, ↓reduceIte, Nat.reduceAdd, Nat.reduceMul, Nat.reduceSub, Nat.reduceMod, Nat.reduceDiv, Nat.reduceEqDiff, Nat.reduceLT, Nat.reduceLeDiff, Nat.reduceBEq, Nat.reduceBNe, Int.reduceAdd, Int.reduceMul, Int.reduceSub, Int.reduceNeg, Int.reduceLT, Int.reduceLE, Int.reduceEq, Int.reduceToNat, reduceCtorEq]
  refine hD _ ?_
  clear hD hK D K
  refine AW_ret ?_
  simp only [Ret]
  refine retp (bv true) rfl ?_ rfl rfl
  simp [resOf, resAll, resAV, alook, blook, AV.known, loadC, AwS, TS, TD.isAgg]
end Go.Proofs.YtgbpgplkhifgiaaDoor

/- The walk of the law TreesigBindsKey. No condition. -/
set_option linter.unusedVariables false
set_option linter.unusedSimpArgs false
set_option maxRecDepth 100000
namespace Go.Proofs.YtgbpgplkhifgiaaDoor
open Go Go.RowKit

theorem sides_bits : ∀ (a i : Nat), i < 2 ^ a → (sidesOf (2 ^ a) i).reverse = (List.range a).map fun k => decide (i / 2 ^ k % 2 = 0)
  | 0, i, h => by rw [sides_one (by simp)]; rfl
  | a + 1, i, h => by
    have hp := Nat.two_pow_pos a
    have h1 : 1 < 2 ^ (a + 1) := by rw [Nat.pow_succ]; omega
    have h2 : 2 ^ (a + 1) = 2 * 2 ^ a := by rw [Nat.pow_succ]; omega
    by_cases hi : i < 2 ^ a
    · rw [sides_lt h1 (by rw [splitM_pow]; exact hi), splitM_pow, List.reverse_cons, sides_bits a i hi, List.range_succ, List.map_append]
      have : i / 2 ^ a = 0 := Nat.div_eq_of_lt hi
      simp [this]
    · rw [sides_ge h1 (by rw [splitM_pow]; exact hi), splitM_pow, h2, show 2 * 2 ^ a - 2 ^ a = 2 ^ a by omega, List.reverse_cons, sides_bits a (i - 2 ^ a) (by omega), List.range_succ, List.map_append]
      have h3 : i / 2 ^ a = 1 := by
        have h4 : i = 2 ^ a * 1 + (i - 2 ^ a) := by omega
        rw [h4, Nat.mul_add_div hp, Nat.div_eq_of_lt (by omega)]
      congr 1
      · apply List.map_congr_left
        intro k hk
        have hk' : k < a := List.mem_range.1 hk
        have h5 : i = 2 ^ k * 2 ^ (a - k) + (i - 2 ^ a) := by
          rw [← Nat.pow_add, show k + (a - k) = a by omega]
          omega
        have h6 : i / 2 ^ k = 2 ^ (a - k) + (i - 2 ^ a) / 2 ^ k := by
          conv => lhs; rw [h5]
          rw [Nat.mul_add_div (Nat.two_pow_pos k)]
        have h7 : 2 ^ (a - k) % 2 = 0 := by
          rw [show a - k = (a - k - 1) + 1 by omega, Nat.pow_succ]
          omega
        have h8 : i / 2 ^ k % 2 = (i - 2 ^ a) / 2 ^ k % 2 := by rw [h6]; omega
        rw [h8]
      · simp [h3]

theorem small_spec (i : Int) (kc kp : Bool) (ch ps : List (List UInt8)) : Spec Tryd.prog [] 25 [sigA i kc kp ch ps] [] (fun o => o = .ret (bv (decide (ch.length ≤ 100) && decide (ps.length ≤ 20))) [] []) := by
  refine spec_of TB 13 [.tmp 2] Tryd.func25 rfl rfl rfl (Nat.le_of_ble_eq_true rfl) ?_
  intro X w0 E0 hE hX
  simp only [idx, List.map_nil, List.length_nil, sigA]
  refine AW_reg TB (fun D K hD hK => ?_)
  simp only [AwS, TS, AwD, aval, aIndex, aSlice, aLen, BN, BW, BS, Int.cast_ofNat_Int, spl, splice, bind, ↓reduceIte, Nat.reduceAdd, Nat.reduceMul, Nat.reduceSub, Nat.reduceMod, Nat.reduceDiv, Nat.reduceEqDiff, Nat.reduceLT, Nat.reduceLeDiff, Nat.reduceBEq, Nat.reduceBNe, Int.reduceAdd, Int.reduceMul, Int.reduceSub, Int.reduceNeg, Int.reduceLT, Int.reduceLE, Int.reduceEq, Int.reduceToNat, reduceCtorEq]
  refine hD _ ?_
  clear hD hK D K
  have e : ∀ (a b : Nat), decide ((a : Int) ≤ (b : Int)) = decide (a ≤ b) := fun a b => by simp
  by_cases h : ch.length ≤ 100
  · have e1 : ((ch.length : Int) ≤ 100) = True := eq_true (by omega)
    refine AW_reg TB (fun D K hD hK => ?_)
    simp only [AwS, TS, AwD, aval, aIndex, aSlice, aLen, BN, BW, BS, Int.cast_ofNat_Int, spl, splice, bind, ↓reduceIte, Nat.reduceAdd, Nat.reduceMul, Nat.reduceSub, Nat.reduceMod, Nat.reduceDiv, Nat.reduceEqDiff, Nat.reduceLT, Nat.reduceLeDiff, Nat.reduceBEq, Nat.reduceBNe, Int.reduceAdd, Int.reduceMul, Int.reduceSub, Int.reduceNeg, Int.reduceLT, Int.reduceLE, Int.reduceEq, Int.reduceToNat, reduceCtorEq, e1]
    refine hD _ ?_
    clear hD hK D K
    refine AW_ret ?_
    simp only [Ret]
    refine retp (bv (decide ((ps.length : Int) ≤ 20))) rfl ?_ rfl (by
      have := e ps.length 20
      simp only [Int.cast_ofNat_Int] at this
      rw [this, decide_eq_true h, Bool.true_and])
    simp [resOf, resAll, resAV, alook, blook, AV.known, loadC, AwS, TS, TD.isAgg]
  · have e1 : ((ch.length : Int) ≤ 100) = False := eq_false (by omega)
    refine AW_reg TB (fun D K hD hK => ?_)
    simp only [AwS, TS, AwD, aval, aIndex, aSlice, aLen, BN, BW, BS, Int.cast_ofNat_Int, spl, splice, bind, ↓reduceIte, Nat.reduceAdd, Nat.reduceMul, Nat.reduceSub, Nat.reduceMod, Nat.reduceDiv, Nat.reduceEqDiff, Nat.reduceLT, Nat.reduceLeDiff, Nat.reduceBEq, Nat.reduceBNe, Int.reduceAdd, Int.reduceMul, Int.reduceSub, Int.reduceNeg, Int.reduceLT, Int.reduceLE, Int.reduceEq, Int.reduceToNat, reduceCtorEq, e1]
    refine hD _ ?_
    clear hD hK D K
    refine AW_ret ?_
    simp only [Ret]
    refine retp (bv false) rfl ?_ rfl (by rw [decide_eq_false h, Bool.false_and])
    simp [resOf, resAll, resAV, alook, blook, AV.known, loadC, AwS, TS, TD.isAgg]
theorem verT_true {root : List UInt8} {h : Int} {m : List UInt8} {i : Int} {ch ps : List (List UInt8)} (hv : verT root h m i ch ps = true) :
    ∃ (n x : Nat), h = n ∧ i = x ∧ n ≤ 4 ∧ x < 2 ^ n ∧ ch.length = 68 ∧ ps.length = n ∧ upD ((List.range n).map fun k => decide (x / 2 ^ k % 2 = 0)) ps (leafD (recW m ch)) = root := by
  simp only [verT, verM, Bool.and_eq_true, decide_eq_true_eq] at hv
  obtain ⟨⟨h0, h4⟩, hi0, hi1, h68, hs, hu⟩ := hv
  obtain ⟨n, rfl⟩ : ∃ n : Nat, h = n := ⟨h.toNat, by omega⟩
  obtain ⟨x, rfl⟩ : ∃ x : Nat, i = x := ⟨i.toNat, by omega⟩
  simp only [Int.toNat_natCast] at hi1 hs hu
  have hx : x < 2 ^ n := by omega
  rw [sides_pow] at hs
  rw [sides_bits n x hx] at hu
  exact ⟨n, x, rfl, rfl, by omega, hx, h68, hs.symm, hu⟩

def bindF (root : List UInt8) (ps : List (List UInt8)) (bs : List Bool) (L : List UInt8) (ix : Nat) (ch : List (List UInt8)) (q : Nat) : St :=
  { nt := 99, nx := 3, tm := [(12, iv (q : Nat)), (11, iv ((ix / 2 ^ q : Nat) : Int)), (10, .ptr 1 0), (7, bv true), (6, .ptr 2 0), (3, .ptr 0 0)],
    bx := [(0, some (root.map bw)), (1, some ((upD (bs.take q) (ps.take q) L).map bw)), (2, some [iv (ix : Nat), .ds true ch.length (fl ch), .ds true ps.length (fl ps)])], gl := glS, df := [] }

theorem lp2_len (a b : List UInt8) (ha : a.length = 16) (hb : b.length = 16) : (wAll (lp [a, b])).length ≤ 10000000 := by
  have h1 := wBytes_len a
  have h2 := wBytes_len b
  simp [wAll, lp]; omega

theorem binds_spec (root m : List UInt8) (height ix : Int) (ch ps : List (List UInt8)) (hr : root.length = 16) (hm : m.length = 16) (hc : All16 ch) (hp : All16 ps) :
    Spec Tryd.prog glS 8 [.agg (root.map bw ++ (iv height :: (m.map bw ++ [iv ix, .ds true ch.length (fl ch), .ds true ps.length (fl ps)])))] [] (fun o => o = .ret (bv true) [] []) := by
  refine spec_of TB 99 [.tmp 2] Tryd.func8 rfl rfl rfl (Nat.le_of_ble_eq_true rfl) ?_
  intro X w0 E0 hE hX
  have hKm : ∀ f : Nat → Nat, AVs.map f (KS.map ww) = KS.map ww := fun f => wws_map f _
  have hrl : (root.map bw).length = 16 := by simp [hr]
  have hml : (m.map bw).length = 16 := by simp [hm]
  have f0 : (root.map bw ++ (iv height :: (m.map bw ++ [iv ix, .ds true ch.length (fl ch), .ds true ps.length (fl ps)]))).length = 36 := by simp [hr, hm]
  have f1 : List.take 16 (root.map bw ++ (iv height :: (m.map bw ++ [iv ix, .ds true ch.length (fl ch), .ds true ps.length (fl ps)]))) = root.map bw := List.take_left' hrl
  have f2 : (root.map bw ++ (iv height :: (m.map bw ++ [iv ix, .ds true ch.length (fl ch), .ds true ps.length (fl ps)])))[16]? = some (iv height) := by rw [List.getElem?_append_right (by omega), hrl]; rfl
  have f3 : List.take 16 (List.drop 17 (root.map bw ++ (iv height :: (m.map bw ++ [iv ix, .ds true ch.length (fl ch), .ds true ps.length (fl ps)])))) = m.map bw := by
    rw [List.drop_append, List.drop_eq_nil_of_le (by omega), hrl]
    exact List.take_left' hml
  have f4 : List.take 3 (List.drop 33 (root.map bw ++ (iv height :: (m.map bw ++ [iv ix, .ds true ch.length (fl ch), .ds true ps.length (fl ps)])))) = [iv ix, .ds true ch.length (fl ch), .ds true ps.length (fl ps)] := by
    rw [List.drop_append, List.drop_eq_nil_of_le (by omega), hrl]
    show List.take 3 (List.drop 16 (m.map bw ++ _)) = _
    rw [List.drop_left' hml]
    rfl
  generalize root.map bw ++ (iv height :: (m.map bw ++ [iv ix, .ds true ch.length (fl ch), .ds true ps.length (fl ps)])) = cs at *
  have za : spl (List.replicate 16 (.val (.int .u8 0))) 0 (root.map bw) = root.map bw := spl_all (by simp [hr]) (by simp [hr])
  have zb : spl (List.replicate 16 (.val (.int .u8 0))) 0 (m.map bw) = m.map bw := spl_all (by simp [hm]) (by simp [hm])
  simp only [List.replicate] at za zb
  have zc : List.take 16 (root.map bw) = root.map bw := List.take_of_length_le (by simp [hr])
  have zd : List.take 16 (m.map bw) = m.map bw := List.take_of_length_le (by simp [hm])
  simp only [idx, List.map_nil, List.length_nil]
  refine AW_reg TB (fun D K hD hK => ?_)
  simp only [AwS, TS, AwD, aval, aIndex, aSlice, aLen, BN, BW, BS, Int.cast_ofNat_Int, spl, splice, bind, ↓reduceIte, Nat.reduceAdd, Nat.reduceMul, Nat.reduceSub, Nat.reduceMod, Nat.reduceDiv, Nat.reduceEqDiff, Nat.reduceLT, Nat.reduceLeDiff, Nat.reduceBEq, Nat.reduceBNe, Int.reduceAdd, Int.reduceMul, Int.reduceSub, Int.reduceNeg, Int.reduceLT, Int.reduceLE, Int.reduceEq, Int.reduceToNat, reduceCtorEq]
  refine hD _ ?_
  clear hD hK D K
  refine AW_reg TB (fun D K hD hK => ?_)
  simp only [AwS, TS, AwD, aval, aIndex, aSlice, aLen, BN, BW, BS, Int.cast_ofNat_Int, spl, splice, bind, ↓reduceIte, Nat.reduceAdd, Nat.reduceMul, Nat.reduceSub, Nat.reduceMod, Nat.reduceDiv, Nat.reduceEqDiff, Nat.reduceLT, Nat.reduceLeDiff, Nat.reduceBEq, Nat.reduceBNe, Int.reduceAdd, Int.reduceMul, Int.reduceSub, Int.reduceNeg, Int.reduceLT, Int.reduceLE, Int.reduceEq, Int.reduceToNat, reduceCtorEq, f0, f1, za, hrl, bws_cell, -spl]
  refine hD _ ?_
  clear hD hK D K
  refine AW_reg TB (fun D K hD hK => ?_)
  simp only [AwS, TS, AwD, aval, aIndex, aSlice, aLen, BN, BW, BS, Int.cast_ofNat_Int, spl, splice, bind, ↓reduceIte, Nat.reduceAdd, Nat.reduceMul, Nat.reduceSub, Nat.reduceMod, Nat.reduceDiv, Nat.reduceEqDiff, Nat.reduceLT, Nat.reduceLeDiff, Nat.reduceBEq, Nat.reduceBNe, Int.reduceAdd, Int.reduceMul, Int.reduceSub, Int.reduceNeg, Int.reduceLT, Int.reduceLE, Int.reduceEq, Int.reduceToNat, reduceCtorEq, f0, f2]
  refine hD _ ?_
  clear hD hK D K
  refine AW_reg TB (fun D K hD hK => ?_)
  simp only [AwS, TS, AwD, aval, aIndex, aSlice, aLen, BN, BW, BS, Int.cast_ofNat_Int, spl, splice, bind, ↓reduceIte, Nat.reduceAdd, Nat.reduceMul, Nat.reduceSub, Nat.reduceMod, Nat.reduceDiv, Nat.reduceEqDiff, Nat.reduceLT, Nat.reduceLeDiff, Nat.reduceBEq, Nat.reduceBNe, Int.reduceAdd, Int.reduceMul, Int.reduceSub, Int.reduceNeg, Int.reduceLT, Int.reduceLE, Int.reduceEq, Int.reduceToNat, reduceCtorEq, f0, f3, zb, hml, bws_cell, -spl]
  refine hD _ ?_
  clear hD hK D K
  refine AW_reg TB (fun D K hD hK => ?_)
  simp only [AwS, TS, AwD, aval, aIndex, aSlice, aLen, BN, BW, BS, Int.cast_ofNat_Int, spl, splice, bind, ↓reduceIte, Nat.reduceAdd, Nat.reduceMul, Nat.reduceSub, Nat.reduceMod, Nat.reduceDiv, Nat.reduceEqDiff, Nat.reduceLT, Nat.reduceLeDiff, Nat.reduceBEq, Nat.reduceBNe, Int.reduceAdd, Int.reduceMul, Int.reduceSub, Int.reduceNeg, Int.reduceLT, Int.reduceLE, Int.reduceEq, Int.reduceToNat, reduceCtorEq, f0, f4]
  refine hD _ ?_
  clear hD hK D K
  refine AW_reg TB (fun D K hD hK => ?_)
  simp only [AwS, TS, AwD, aval, aIndex, aSlice, aLen, BN, BW, BS, Int.cast_ofNat_Int, spl, splice, bind, ↓reduceIte, Nat.reduceAdd, Nat.reduceMul, Nat.reduceSub, Nat.reduceMod, Nat.reduceDiv, Nat.reduceEqDiff, Nat.reduceLT, Nat.reduceLeDiff, Nat.reduceBEq, Nat.reduceBNe, Int.reduceAdd, Int.reduceMul, Int.reduceSub, Int.reduceNeg, Int.reduceLT, Int.reduceLE, Int.reduceEq, Int.reduceToNat, reduceCtorEq]
  refine hK _ _ ?_
  clear hD hK D K
  refine AL_callG rfl rfl rfl rfl en_20 tsanity_spec [] ?_ (by simp) rfl rfl (by simp [alook, AV.map, cs_map, wws_map]) ?_
  · simp [evs, St.ev, cav, alook, lendA, lentBx, lendC, blook, AVs.map, AV.map, ioMap]
  refine AL_runR TB _ _ (fun D K hD hK => ?_)
  simp only [AwS, TS, AwD, aval, aIndex, aSlice, aLen, BN, BW, BS, Int.cast_ofNat_Int, spl, splice, bind, ↓reduceIte, Nat.reduceAdd, Nat.reduceMul, Nat.reduceSub, Nat.reduceMod, Nat.reduceDiv, Nat.reduceEqDiff, Nat.reduceLT, Nat.reduceLeDiff, Nat.reduceBEq, Nat.reduceBNe, Int.reduceAdd, Int.reduceMul, Int.reduceSub, Int.reduceNeg, Int.reduceLT, Int.reduceLE, Int.reduceEq, Int.reduceToNat, reduceCtorEq]
  refine hD _ ?_
  clear hD hK D K
  have ss := small_spec ix true true ch ps
  simp only [sigA] at ss
  refine AW_seq ?_
  refine AW_reg TB (fun D K hD hK => ?_)
  simp only [AwS, TS, AwD, aval, aIndex, aSlice, aLen, BN, BW, BS, Int.cast_ofNat_Int, spl, splice, bind, ↓reduceIte, Nat.reduceAdd, Nat.reduceMul, Nat.reduceSub, Nat.reduceMod, Nat.reduceDiv, Nat.reduceEqDiff, Nat.reduceLT, Nat.reduceLeDiff, Nat.reduceBEq, Nat.reduceBNe, Int.reduceAdd, Int.reduceMul, Int.reduceSub, Int.reduceNeg, Int.reduceLT, Int.reduceLE, Int.reduceEq, Int.reduceToNat, reduceCtorEq, fl_map]
  refine hK _ _ ?_
  clear hD hK D K
  refine AL_callPW rfl (.inl rfl) rfl rfl en_25 ss [] ?_ (by simp) rfl rfl ?_
  · simp [evs, St.ev, cav, alook, lendA, lentBx, lendC, blook, AVs.map, AV.map, ioMap, fl_map]
  by_cases hs : ch.length ≤ 100 ∧ ps.length ≤ 20
  · rw [decide_eq_true hs.1, decide_eq_true hs.2, Bool.and_self]
    have q1 := tverify_spec root height m ix true true ch ps hr hm hc hp (by omega) (by omega)
    simp only [sigA] at q1
    refine AL_runR TB _ _ (fun D K hD hK => ?_)
    simp only [AwS, TS, AwD, aval, aIndex, aSlice, aLen, BN, BW, BS, Int.cast_ofNat_Int, spl, splice, bind, ↓reduceIte, Nat.reduceAdd, Nat.reduceMul, Nat.reduceSub, Nat.reduceMod, Nat.reduceDiv, Nat.reduceEqDiff, Nat.reduceLT, Nat.reduceLeDiff, Nat.reduceBEq, Nat.reduceBNe, Int.reduceAdd, Int.reduceMul, Int.reduceSub, Int.reduceNeg, Int.reduceLT, Int.reduceLE, Int.reduceEq, Int.reduceToNat, reduceCtorEq, zc, zd, hrl, hml, fl_map]
    refine hK _ _ ?_
    clear hD hK D K
    refine AL_callGW rfl (.inr ⟨3, _, false, rfl, rfl, rfl⟩) rfl rfl en_19 q1 [] ?_ (by simp) rfl rfl (by simp [alook, AV.map, cs_map, wws_map]) ?_
    · simp [evs, St.ev, cav, alook, lendA, lentBx, lendC, blook, AVs.map, AV.map, ioMap, bws_map, fl_map]
    cases hv : verT root height m ix ch ps with
    | false =>
      refine AL_runR TB _ _ (fun D K hD hK => ?_)
      simp only [AwS, TS, AwD, aval, aIndex, aSlice, aLen, BN, BW, BS, Int.cast_ofNat_Int, spl, splice, bind, ↓reduceIte, Nat.reduceAdd, Nat.reduceMul, Nat.reduceSub, Nat.reduceMod, Nat.reduceDiv, Nat.reduceEqDiff, Nat.reduceLT, Nat.reduceLeDiff, Nat.reduceBEq, Nat.reduceBNe, Int.reduceAdd, Int.reduceMul, Int.reduceSub, Int.reduceNeg, Int.reduceLT, Int.reduceLE, Int.reduceEq, Int.reduceToNat, reduceCtorEq]
      refine hD _ ?_
      clear hD hK D K
      refine AW_true rfl ?_
      refine AW_reg TB (fun D K hD hK => ?_)
      simp only [AwS, TS, AwD, aval, aIndex, aSlice, aLen, BN, BW, BS, Int.cast_ofNat_Int, spl, splice, bind, ↓reduceIte, Nat.reduceAdd, Nat.reduceMul, Nat.reduceSub, Nat.reduceMod, Nat.reduceDiv, Nat.reduceEqDiff, Nat.reduceLT, Nat.reduceLeDiff, Nat.reduceBEq, Nat.reduceBNe, Int.reduceAdd, Int.reduceMul, Int.reduceSub, Int.reduceNeg, Int.reduceLT, Int.reduceLE, Int.reduceEq, Int.reduceToNat, reduceCtorEq]
      refine hD _ ?_
      clear hD hK D K
      refine AW_ret ?_
      simp only [seqQ, Ret]
      refine retp (bv true) rfl ?_ rfl rfl
      simp [resOf, resAll, resAV, alook, blook, AV.known, loadC, AwS, TS, TD.isAgg]
    | true =>
      refine AL_runR TB _ _ (fun D K hD hK => ?_)
      simp only [AwS, TS, AwD, aval, aIndex, aSlice, aLen, BN, BW, BS, Int.cast_ofNat_Int, spl, splice, bind, ↓reduceIte, Nat.reduceAdd, Nat.reduceMul, Nat.reduceSub, Nat.reduceMod, Nat.reduceDiv, Nat.reduceEqDiff, Nat.reduceLT, Nat.reduceLeDiff, Nat.reduceBEq, Nat.reduceBNe, Int.reduceAdd, Int.reduceMul, Int.reduceSub, Int.reduceNeg, Int.reduceLT, Int.reduceLE, Int.reduceEq, Int.reduceToNat, reduceCtorEq]
      refine hD _ ?_
      clear hD hK D K
      refine AW_false rfl (AW_skip ?_)
      simp only [seqQ]
      obtain ⟨h, x, rfl, rfl, hh, hx, h68, hpl, hup⟩ := verT_true hv
      have rcs := recover_spec m ch true hm hc (by omega)
      have hrR : recR m ch = (recW m ch, 0) := if_pos h68
      rw [hrR] at rcs
      have hkl : (recW m ch).length = 16 := keyOf_len _
      generalize recW m ch = key at *
      have k1 : spl (List.replicate 16 (.val (.int .u8 0))) 0 (key.map bw) = key.map bw := spl_all (by simp [hkl]) (by simp [hkl])
      simp only [List.replicate] at k1
      have k2 : List.take 16 (key.map bw) = key.map bw := List.take_of_length_le (by simp [hkl])
      have k3 : (key.map bw).length = 16 := by simp [hkl]
      refine AW_reg TB (fun D K hD hK => ?_)
      simp only [AwS, TS, AwD, aval, aIndex, aSlice, aLen, BN, BW, BS, Int.cast_ofNat_Int, spl, splice, bind, ↓reduceIte, Nat.reduceAdd, Nat.reduceMul, Nat.reduceSub, Nat.reduceMod, Nat.reduceDiv, Nat.reduceEqDiff, Nat.reduceLT, Nat.reduceLeDiff, Nat.reduceBEq, Nat.reduceBNe, Int.reduceAdd, Int.reduceMul, Int.reduceSub, Int.reduceNeg, Int.reduceLT, Int.reduceLE, Int.reduceEq, Int.reduceToNat, reduceCtorEq, zd, hml]
      refine hK _ _ ?_
      clear hD hK D K
      refine AL_callG rfl rfl rfl rfl en_29 rcs [] ?_ (by simp) rfl (by simp only [AV.map, AVs.map, bws_map]) (by simp [alook, AV.map, cs_map, wws_map]) ?_
      · simp [evs, St.ev, cav, alook, lendA, lentBx, lendC, blook, AVs.map, AV.map, ioMap, bws_map, fl_map]
      refine AL_runR TB _ _ (fun D K hD hK => ?_)
      simp only [AwS, TS, AwD, aval, aIndex, aSlice, aLen, BN, BW, BS, Int.cast_ofNat_Int, spl, splice, bind, ↓reduceIte, Nat.reduceAdd, Nat.reduceMul, Nat.reduceSub, Nat.reduceMod, Nat.reduceDiv, Nat.reduceEqDiff, Nat.reduceLT, Nat.reduceLeDiff, Nat.reduceBEq, Nat.reduceBNe, Int.reduceAdd, Int.reduceMul, Int.reduceSub, Int.reduceNeg, Int.reduceLT, Int.reduceLE, Int.reduceEq, Int.reduceToNat, reduceCtorEq, k1, k3, bws_cell, bws_map, -spl]
      refine hD _ ?_
      clear hD hK D K
      refine AW_seq ?_
      have e1 : ((ps.length : Int) = (h : Int)) = True := eq_true (by omega)
      have e2 : ((h : Int) < 0) = False := eq_false (by omega)
      have e3 : ((h : Int) > 4) = False := eq_false (by omega)
      refine AW_reg TB (fun D K hD hK => ?_)
      simp only [AwS, TS, AwD, aval, aIndex, aSlice, aLen, BN, BW, BS, Int.cast_ofNat_Int, spl, splice, bind, ↓reduceIte, Nat.reduceAdd, Nat.reduceMul, Nat.reduceSub, Nat.reduceMod, Nat.reduceDiv, Nat.reduceEqDiff, Nat.reduceLT, Nat.reduceLeDiff, Nat.reduceBEq, Nat.reduceBNe, Int.reduceAdd, Int.reduceMul, Int.reduceSub, Int.reduceNeg, Int.reduceLT, Int.reduceLE, Int.reduceEq, Int.reduceToNat, reduceCtorEq, e1, e2, e3]
      refine hD _ ?_
      clear hD hK D K
      refine AW_false rfl (AW_skip ?_)
      simp only [seqQ]
      have ds := rdigest_spec 1 false (lp [key]) (by simp [lp]) (by
        have h1 := wBytes_len key
        simp [wAll, lp]; omega)
      have hst : dig (byteOf 1) (lp [key]) = leafD key := rfl
      rw [hst] at ds
      have hL : (leafD key).length = 16 := dig_len _ _
      generalize leafD key = L at *
      have z1 : spl (List.replicate 16 (.val (.int .u8 0))) 0 (L.map bw) = L.map bw := spl_all (by simp [hL]) (by simp [hL])
      simp only [List.replicate] at z1
      have z3 : (L.map bw).length = 16 := by simp [hL]
      refine AW_reg TB (fun D K hD hK => ?_)
      simp only [AwS, TS, AwD, aval, aIndex, aSlice, aLen, BN, BW, BS, Int.cast_ofNat_Int, spl, splice, bind, ↓reduceIte, Nat.reduceAdd, Nat.reduceMul, Nat.reduceSub, Nat.reduceMod, Nat.reduceDiv, Nat.reduceEqDiff, Nat.reduceLT, Nat.reduceLeDiff, Nat.reduceBEq, Nat.reduceBNe, Int.reduceAdd, Int.reduceMul, Int.reduceSub, Int.reduceNeg, Int.reduceLT, Int.reduceLE, Int.reduceEq, Int.reduceToNat, reduceCtorEq, k3]
      refine hK _ _ ?_
      clear hD hK D K
      refine AL_callPW rfl (.inl rfl) rfl rfl en_30 ds [464, 296] ?_ (by simp [blook]) (by simp [AV.kept, bws_kept]) (by simp only [AV.map, bws_map]) ?_
      · simp [evs, St.ev, cav, alook, lendA, lentBx, lendC, blook, AVs.map, AV.map, ioMap, bws_map, -List.map_map, lendC_bws, bws_take, k2, lp, pA, hkl]
      refine AL_runR TB _ _ (fun D K hD hK => ?_)
      simp only [AwS, TS, AwD, aval, aIndex, aSlice, aLen, BN, BW, BS, Int.cast_ofNat_Int, spl, splice, bind, ↓reduceIte, Nat.reduceAdd, Nat.reduceMul, Nat.reduceSub, Nat.reduceMod, Nat.reduceDiv, Nat.reduceEqDiff, Nat.reduceLT, Nat.reduceLeDiff, Nat.reduceBEq, Nat.reduceBNe, Int.reduceAdd, Int.reduceMul, Int.reduceSub, Int.reduceNeg, Int.reduceLT, Int.reduceLE, Int.reduceEq, Int.reduceToNat, reduceCtorEq, z1, z3, bws_cell, bws_map, -spl]
      refine hD _ ?_
      clear hD hK D K
      refine AW_reg TB (fun D K hD hK => ?_)
      simp only [AwS, TS, AwD, aval, aIndex, aSlice, aLen, BN, BW, BS, Int.cast_ofNat_Int, spl, splice, bind, ↓reduceIte, Nat.reduceAdd, Nat.reduceMul, Nat.reduceSub, Nat.reduceMod, Nat.reduceDiv, Nat.reduceEqDiff, Nat.reduceLT, Nat.reduceLeDiff, Nat.reduceBEq, Nat.reduceBNe, Int.reduceAdd, Int.reduceMul, Int.reduceSub, Int.reduceNeg, Int.reduceLT, Int.reduceLE, Int.reduceEq, Int.reduceToNat, reduceCtorEq]
      refine hD _ ?_
      clear hD hK D K
      refine AW_seqk (fun K0 hK0 => ?_)
      refine AW_reg TB (fun D K hD hK => ?_)
      simp only [AwS, TS, AwD, aval, aIndex, aSlice, aLen, BN, BW, BS, Int.cast_ofNat_Int, spl, splice, bind, ↓reduceIte, Nat.reduceAdd, Nat.reduceMul, Nat.reduceSub, Nat.reduceMod, Nat.reduceDiv, Nat.reduceEqDiff, Nat.reduceLT, Nat.reduceLeDiff, Nat.reduceBEq, Nat.reduceBNe, Int.reduceAdd, Int.reduceMul, Int.reduceSub, Int.reduceNeg, Int.reduceLT, Int.reduceLE, Int.reduceEq, Int.reduceToNat, reduceCtorEq]
      refine hD _ ?_
      clear hD hK D K
      refine AW_block ?_
      refine AW_loop (bindF root ps ((List.range h).map fun k => decide (x / 2 ^ k % 2 = 0)) L x ch) (fun q => q ≤ ps.length) (fun q => ps.length - q) hE 0 [(0, 32), (1, 480), (2, 120)] (by omega) ?_ ?_
      · refine ⟨rfl, by simp [bindF, upD, alook, AV.map, AVs.map, hKm, cs_map, bws_map, fl_map], ⟨rfl, rfl⟩, ?_, ?_, by simp [bindF, upD], by simp [bindF, upD, nmap], ?_⟩
        · simp [bindF, upD, alook, AV.map, AVs.map, nmap, AVs_map_append, ivs_map, yvs_map, hKm, cs_map, bws_map, fl_map]
        · simp [bindF, upD, blook, AV.map, AVs.map, nmap, AVs_map_append, ivs_map, yvs_map, hKm, cs_map, bws_map, fl_map]
        · intro k hk
          have hk2 : k < 0 := hk
          omega
      intro q hq
      simp only [bindF]
      have hbl : ((List.range h).map fun k => decide (x / 2 ^ k % 2 = 0)).length = ps.length := by simp [hpl]
      have hbq : ∀ (hlt : q < ((List.range h).map fun k => decide (x / 2 ^ k % 2 = 0)).length), ((List.range h).map fun k => decide (x / 2 ^ k % 2 = 0))[q] = decide (x / 2 ^ q % 2 = 0) := by intro hlt; simp
      have hdiv : x / 2 ^ (q + 1) = x / 2 ^ q / 2 := by rw [Nat.pow_succ, Nat.div_div_eq_div_mul]
      have hfin : q = ps.length → x / 2 ^ q = 0 := by
        rintro rfl
        rw [hpl]
        exact Nat.div_eq_of_lt hx
      have hxq : x / 2 ^ q ≤ x := Nat.div_le_self _ _
      have hx16 : x < 16 := Nat.lt_of_lt_of_le hx (by
        have : 2 ^ h ≤ 2 ^ 4 := Nat.pow_le_pow_right (by omega) hh
        omega)
      generalize hbs : ((List.range h).map fun k => decide (x / 2 ^ k % 2 = 0)) = bs at *
      generalize hxx : x / 2 ^ q = y at *
      refine AW_seq ?_
      refine AW_reg TB (fun D K hD hK => ?_)
      simp only [AwS, TS, AwD, aval, aIndex, aSlice, aLen, BN, BW, BS, Int.cast_ofNat_Int, spl, splice, bind, ↓reduceIte, Nat.reduceAdd, Nat.reduceMul, Nat.reduceSub, Nat.reduceMod, Nat.reduceDiv, Nat.reduceEqDiff, Nat.reduceLT, Nat.reduceLeDiff, Nat.reduceBEq, Nat.reduceBNe, Int.reduceAdd, Int.reduceMul, Int.reduceSub, Int.reduceNeg, Int.reduceLT, Int.reduceLE, Int.reduceEq, Int.reduceToNat, reduceCtorEq, fl_map]
      refine hD _ ?_
      clear hD hK D K
      refine AW_cond rfl (fun h5 => AW_skip ?_) (fun h5 => AW_exit ?_)
      · have hlt : q < ps.length := by simpa using h5
        have x3 : (0 ≤ (q : Int) ∧ (q : Int) < (ps.length : Int)) = True := eq_true (by omega)
        have g2 := fl_get hp q hlt
        have hp16 := hp _ (List.getElem_mem hlt)
        have g3 : (16 ≤ (List.drop (q * 16) (fl ps)).length) = True := by
          rw [List.length_drop, fl_len hp]; exact eq_true (by omega)
        have hu := upD_take bs ps L q (by omega) hlt
        rw [hbq (by omega)] at hu
        have hul := upD_len (bs.take q) (ps.take q) L hL
        generalize upD (bs.take q) (ps.take q) L = D0 at *
        generalize hpq : ps[q] = P at *
        have a1 : spl (List.replicate 16 (.val (.int .u8 0))) 0 (P.map bw) = P.map bw := spl_all (by simp [hp16]) (by simp [hp16])
        simp only [List.replicate] at a1
        have a2 : List.take 16 (P.map bw) = P.map bw := List.take_of_length_le (by simp [hp16])
        have a3 : (P.map bw).length = 16 := by simp [hp16]
        have b2 : List.take 16 (D0.map bw) = D0.map bw := List.take_of_length_le (by simp [hul])
        have b3 : (D0.map bw).length = 16 := by simp [hul]
        have w1 : IntKind.i64.wrap ((q : Int) + 1) = (q : Int) + 1 := wrap_i64 (by omega) (by omega)
        have w2 : (y : Int).tmod 2 = ((y % 2 : Nat) : Int) := by
          rw [show (2 : Int) = ((2 : Nat) : Int) from rfl, ← Int.ofNat_tmod]
        have w3 : IntKind.i64.wrap ((y : Int).tdiv 2) = ((y / 2 : Nat) : Int) := by
          rw [show (2 : Int) = ((2 : Nat) : Int) from rfl, ← Int.ofNat_tdiv, wrap_i64 (by omega) (by omega)]
        simp only [seqQ]
        refine AW_seqk (fun K3 hK3 => ?_)
        refine AW_block ?_
        refine AW_reg TB (fun D K hD hK => ?_)
        simp only [AwS, TS, AwD, aval, aIndex, aSlice, aLen, BN, BW, BS, Int.cast_ofNat_Int, spl, splice, bind, ↓reduceIte, Nat.reduceAdd, Nat.reduceMul, Nat.reduceSub, Nat.reduceMod, Nat.reduceDiv, Nat.reduceEqDiff, Nat.reduceLT, Nat.reduceLeDiff, Nat.reduceBEq, Nat.reduceBNe, Int.reduceAdd, Int.reduceMul, Int.reduceSub, Int.reduceNeg, Int.reduceLT, Int.reduceLE, Int.reduceEq, Int.reduceToNat, reduceCtorEq, x3, g2, g3, a1, a3, bws_cell, fl_map, Int.toNat_natCast, -spl]
        refine hD _ ?_
        clear hD hK D K
        refine AW_seqk (fun K4 hK4 => ?_)
        refine AW_reg TB (fun D K hD hK => ?_)
        simp only [AwS, TS, AwD, aval, aIndex, aSlice, aLen, BN, BW, BS, Int.cast_ofNat_Int, spl, splice, bind, ↓reduceIte, Nat.reduceAdd, Nat.reduceMul, Nat.reduceSub, Nat.reduceMod, Nat.reduceDiv, Nat.reduceEqDiff, Nat.reduceLT, Nat.reduceLeDiff, Nat.reduceBEq, Nat.reduceBNe, Int.reduceAdd, Int.reduceMul, Int.reduceSub, Int.reduceNeg, Int.reduceLT, Int.reduceLE, Int.reduceEq, Int.reduceToNat, reduceCtorEq, w2]
        refine hD _ ?_
        clear hD hK D K
        by_cases hy : y % 2 = 0
        · have hy1 : (((y % 2 : Nat) : Int) = 0) = True := eq_true (by omega)
          rw [decide_eq_true hy] at hu
          have hs : sib true D0 P = nodeD D0 P := rfl
          have hnl : (nodeD D0 P).length = 16 := dig_len _ _
          have hst : dig (byteOf 2) (lp [D0, P]) = nodeD D0 P := rfl
          have hps := lp2_len D0 P hul hp16
          have ds := rdigest_spec 2 false (lp [D0, P]) (by simp [lp]) hps
          rw [hst] at ds
          rw [hs] at hu
          generalize nodeD D0 P = D1 at *
          simp only [hy1, decide_true]
          refine AW_true rfl ?_
          have n1 : ((1 : Nat) ≠ 0) = True := by simp
          have zz1 : spl (D0.map bw) 0 (D1.map bw) = D1.map bw := spl_all (by simp [hnl, hul]) (by simp [hnl])
          have zz3 : (D1.map bw).length = 16 := by simp [hnl]
          refine AW_dregl TB mx ([[], [], [0, 1], [2, 0, 1], [3, 2, 0, 1]]) (by kernel_rfl) (by kernel_rfl) (fun D K hD hK => ?_)
          simp only [AwS, TS, AwD, aval, aIndex, aSlice, aLen, BN, BW, BS, Int.cast_ofNat_Int, spl, splice, bind, ↓reduceIte, Nat.reduceAdd, Nat.reduceMul, Nat.reduceSub, Nat.reduceMod, Nat.reduceDiv, Nat.reduceEqDiff, Nat.reduceLT, Nat.reduceLeDiff, Nat.reduceBEq, Nat.reduceBNe, Int.reduceAdd, Int.reduceMul, Int.reduceSub, Int.reduceNeg, Int.reduceLT, Int.reduceLE, Int.reduceEq, Int.reduceToNat, reduceCtorEq, Op.operands, Call.operands, List.toList_toArray, List.size_toArray, cmp, List.getD_cons_zero, List.getD_cons_succ, Array.toList_append, Option.toArray, List.append_toArray,  n1, b3, a3, Int.toNat_natCast, Nat.mul_one]
          refine hK _ _ _ _ ?_
          clear hD hK D K
          refine DL_callPW rfl rfl (.inl rfl) rfl rfl en_30 ds [139, 1, 83] ?_ (by simp [blook]) (by simp) (by simp [AV.kept, bws_kept]) (by simp only [AV.map, bws_map]) rfl ?_
          · simp [evs, St.ev, cav, alook, lendA, lentBx, lendC, blook, AVs.map, AV.map, ioMap, bws_map, -List.map_map, lendC_bws, bws_take, a2, b2, lp, pA, hp16, hul]
          refine DL_rest TB rfl (fun D K hD hK => ?_)
          simp only [AwS, TS, AwD, aval, aIndex, aSlice, aLen, BN, BW, BS, Int.cast_ofNat_Int, spl, splice, bind, ↓reduceIte, Nat.reduceAdd, Nat.reduceMul, Nat.reduceSub, Nat.reduceMod, Nat.reduceDiv, Nat.reduceEqDiff, Nat.reduceLT, Nat.reduceLeDiff, Nat.reduceBEq, Nat.reduceBNe, Int.reduceAdd, Int.reduceMul, Int.reduceSub, Int.reduceNeg, Int.reduceLT, Int.reduceLE, Int.reduceEq, Int.reduceToNat, reduceCtorEq, Op.operands, Call.operands, List.toList_toArray, List.size_toArray, cmp, List.getD_cons_zero, List.getD_cons_succ, Array.toList_append, Option.toArray, List.append_toArray, zz1, zz3, b3, bws_cell, bws_map, fl_map, -spl]
          refine hD _ ?_
          clear hD hK D K
          refine hK4 _ ?_
          refine AW_regl TB (fun D K hD hK => ?_)
          simp only [AwS, TS, AwD, aval, aIndex, aSlice, aLen, BN, BW, BS, Int.cast_ofNat_Int, spl, splice, bind, ↓reduceIte, Nat.reduceAdd, Nat.reduceMul, Nat.reduceSub, Nat.reduceMod, Nat.reduceDiv, Nat.reduceEqDiff, Nat.reduceLT, Nat.reduceLeDiff, Nat.reduceBEq, Nat.reduceBNe, Int.reduceAdd, Int.reduceMul, Int.reduceSub, Int.reduceNeg, Int.reduceLT, Int.reduceLE, Int.reduceEq, Int.reduceToNat, reduceCtorEq, w3]
          refine hD _ ?_
          clear hD hK D K
          simp only [blockQ]
          refine hK3 _ ?_
          refine AW_regl TB (fun D K hD hK => ?_)
          simp only [AwS, TS, AwD, aval, aIndex, aSlice, aLen, BN, BW, BS, Int.cast_ofNat_Int, spl, splice, bind, ↓reduceIte, Nat.reduceAdd, Nat.reduceMul, Nat.reduceSub, Nat.reduceMod, Nat.reduceDiv, Nat.reduceEqDiff, Nat.reduceLT, Nat.reduceLeDiff, Nat.reduceBEq, Nat.reduceBNe, Int.reduceAdd, Int.reduceMul, Int.reduceSub, Int.reduceNeg, Int.reduceLT, Int.reduceLE, Int.reduceEq, Int.reduceToNat, reduceCtorEq, w1]
          refine hD _ ?_
          clear hD hK D K
          refine ⟨q + 1, [(0, 0), (1, 1), (2, 2)], by omega, by dsimp only; omega, ?_⟩
          refine ⟨rfl, by simp [bindF, alook, AV.map, AVs.map, hKm, cs_map, bws_map, fl_map, hu, hdiv, hxx, hbs], ⟨rfl, rfl⟩, ?_, ?_, by simp [bindF], by simp [bindF, nmap], ?_⟩
          · simp [bindF, alook, AV.map, AVs.map, nmap, AVs_map_append, ivs_map, yvs_map, hKm, cs_map, bws_map, fl_map, hu, hdiv, hxx, hbs]
          · simp [bindF, blook, AV.map, AVs.map, nmap, AVs_map_append, ivs_map, yvs_map, hKm, cs_map, bws_map, fl_map, hu, hdiv, hxx, hbs]
          · intro k hk
            have hk2 : k < 0 := hk
            omega
        · have hy1 : (((y % 2 : Nat) : Int) = 0) = False := eq_false (by omega)
          rw [decide_eq_false hy] at hu
          have hs : sib false D0 P = nodeD P D0 := rfl
          have hnl : (nodeD P D0).length = 16 := dig_len _ _
          have hst : dig (byteOf 2) (lp [P, D0]) = nodeD P D0 := rfl
          have hps := lp2_len P D0 hp16 hul
          have ds := rdigest_spec 2 false (lp [P, D0]) (by simp [lp]) hps
          rw [hst] at ds
          rw [hs] at hu
          generalize nodeD P D0 = D1 at *
          simp only [hy1, decide_false]
          refine AW_false rfl ?_
          have n1 : ((1 : Nat) ≠ 0) = True := by simp
          have zz1 : spl (D0.map bw) 0 (D1.map bw) = D1.map bw := spl_all (by simp [hnl, hul]) (by simp [hnl])
          have zz3 : (D1.map bw).length = 16 := by simp [hnl]
          refine AW_dregl TB mx ([[], [], [0, 1], [2, 0, 1], [3, 2, 0, 1]]) (by kernel_rfl) (by kernel_rfl) (fun D K hD hK => ?_)
          simp only [AwS, TS, AwD, aval, aIndex, aSlice, aLen, BN, BW, BS, Int.cast_ofNat_Int, spl, splice, bind, ↓reduceIte, Nat.reduceAdd, Nat.reduceMul, Nat.reduceSub, Nat.reduceMod, Nat.reduceDiv, Nat.reduceEqDiff, Nat.reduceLT, Nat.reduceLeDiff, Nat.reduceBEq, Nat.reduceBNe, Int.reduceAdd, Int.reduceMul, Int.reduceSub, Int.reduceNeg, Int.reduceLT, Int.reduceLE, Int.reduceEq, Int.reduceToNat, reduceCtorEq, Op.operands, Call.operands, List.toList_toArray, List.size_toArray, cmp, List.getD_cons_zero, List.getD_cons_succ, Array.toList_append, Option.toArray, List.append_toArray,  n1, b3, a3, Int.toNat_natCast, Nat.mul_one]
          refine hK _ _ _ _ ?_
          clear hD hK D K
          refine DL_callPW rfl rfl (.inl rfl) rfl rfl en_30 ds [139, 83, 1] ?_ (by simp [blook]) (by simp) (by simp [AV.kept, bws_kept]) (by simp only [AV.map, bws_map]) rfl ?_
          · simp [evs, St.ev, cav, alook, lendA, lentBx, lendC, blook, AVs.map, AV.map, ioMap, bws_map, -List.map_map, lendC_bws, bws_take, a2, b2, lp, pA, hp16, hul]
          refine DL_rest TB rfl (fun D K hD hK => ?_)
          simp only [AwS, TS, AwD, aval, aIndex, aSlice, aLen, BN, BW, BS, Int.cast_ofNat_Int, spl, splice, bind, ↓reduceIte, Nat.reduceAdd, Nat.reduceMul, Nat.reduceSub, Nat.reduceMod, Nat.reduceDiv, Nat.reduceEqDiff, Nat.reduceLT, Nat.reduceLeDiff, Nat.reduceBEq, Nat.reduceBNe, Int.reduceAdd, Int.reduceMul, Int.reduceSub, Int.reduceNeg, Int.reduceLT, Int.reduceLE, Int.reduceEq, Int.reduceToNat, reduceCtorEq, Op.operands, Call.operands, List.toList_toArray, List.size_toArray, cmp, List.getD_cons_zero, List.getD_cons_succ, Array.toList_append, Option.toArray, List.append_toArray, zz1, zz3, b3, bws_cell, bws_map, fl_map, -spl]
          refine hD _ ?_
          clear hD hK D K
          refine hK4 _ ?_
          refine AW_regl TB (fun D K hD hK => ?_)
          simp only [AwS, TS, AwD, aval, aIndex, aSlice, aLen, BN, BW, BS, Int.cast_ofNat_Int, spl, splice, bind, ↓reduceIte, Nat.reduceAdd, Nat.reduceMul, Nat.reduceSub, Nat.reduceMod, Nat.reduceDiv, Nat.reduceEqDiff, Nat.reduceLT, Nat.reduceLeDiff, Nat.reduceBEq, Nat.reduceBNe, Int.reduceAdd, Int.reduceMul, Int.reduceSub, Int.reduceNeg, Int.reduceLT, Int.reduceLE, Int.reduceEq, Int.reduceToNat, reduceCtorEq, w3]
          refine hD _ ?_
          clear hD hK D K
          simp only [blockQ]
          refine hK3 _ ?_
          refine AW_regl TB (fun D K hD hK => ?_)
          simp only [AwS, TS, AwD, aval, aIndex, aSlice, aLen, BN, BW, BS, Int.cast_ofNat_Int, spl, splice, bind, ↓reduceIte, Nat.reduceAdd, Nat.reduceMul, Nat.reduceSub, Nat.reduceMod, Nat.reduceDiv, Nat.reduceEqDiff, Nat.reduceLT, Nat.reduceLeDiff, Nat.reduceBEq, Nat.reduceBNe, Int.reduceAdd, Int.reduceMul, Int.reduceSub, Int.reduceNeg, Int.reduceLT, Int.reduceLE, Int.reduceEq, Int.reduceToNat, reduceCtorEq, w1]
          refine hD _ ?_
          clear hD hK D K
          refine ⟨q + 1, [(0, 0), (1, 1), (2, 2)], by omega, by dsimp only; omega, ?_⟩
          refine ⟨rfl, by simp [bindF, alook, AV.map, AVs.map, hKm, cs_map, bws_map, fl_map, hu, hdiv, hxx, hbs], ⟨rfl, rfl⟩, ?_, ?_, by simp [bindF], by simp [bindF, nmap], ?_⟩
          · simp [bindF, alook, AV.map, AVs.map, nmap, AVs_map_append, ivs_map, yvs_map, hKm, cs_map, bws_map, fl_map, hu, hdiv, hxx, hbs]
          · simp [bindF, blook, AV.map, AVs.map, nmap, AVs_map_append, ivs_map, yvs_map, hKm, cs_map, bws_map, fl_map, hu, hdiv, hxx, hbs]
          · intro k hk
            have hk2 : k < 0 := hk
            omega
      · have hge : q = ps.length := by
          have : ¬ q < ps.length := by simpa using h5
          omega
        have hy0 := hfin hge
        subst hge
        have t1 : bs.take ps.length = bs := List.take_of_length_le (by omega)
        simp only [t1, List.take_length, hup]
        have e5 := eqL_bws root root rfl
        have e6 := fun ti hd => fits_bws ti .u8 hd root
        have y0 : ((y : Int) = 0) = True := eq_true (by omega)
        refine hK0 _ ?_
        refine AW_reg TB (fun D K hD hK => ?_)
        simp only [AwS, TS, AwD, aval, aIndex, aSlice, aLen, BN, BW, BS, Int.cast_ofNat_Int, spl, splice, bind, ↓reduceIte, Nat.reduceAdd, Nat.reduceMul, Nat.reduceSub, Nat.reduceMod, Nat.reduceDiv, Nat.reduceEqDiff, Nat.reduceLT, Nat.reduceLeDiff, Nat.reduceBEq, Nat.reduceBNe, Int.reduceAdd, Int.reduceMul, Int.reduceSub, Int.reduceNeg, Int.reduceLT, Int.reduceLE, Int.reduceEq, Int.reduceToNat, reduceCtorEq, zc, hrl, e5, e6, y0]
        refine hD _ ?_
        clear hD hK D K
        refine AW_ret ?_
        simp only [Ret]
        refine retp (bv true) rfl ?_ rfl rfl
        simp [resOf, resAll, resAV, alook, blook, AV.known, loadC, AwS, TS, TD.isAgg]
  · have hsf : (decide (ch.length ≤ 100) && decide (ps.length ≤ 20)) = false := by
      rw [Bool.and_eq_false_iff]
      by_cases h1 : ch.length ≤ 100
      · exact .inr (decide_eq_false (fun h2 => hs ⟨h1, h2⟩))
      · exact .inl (decide_eq_false h1)
    rw [hsf]
    refine AL_runR TB _ _ (fun D K hD hK => ?_)
    simp only [AwS, TS, AwD, aval, aIndex, aSlice, aLen, BN, BW, BS, Int.cast_ofNat_Int, spl, splice, bind, ↓reduceIte, Nat.reduceAdd, Nat.reduceMul, Nat.reduceSub, Nat.reduceMod, Nat.reduceDiv, Nat.reduceEqDiff, Nat.reduceLT, Nat.reduceLeDiff, Nat.reduceBEq, Nat.reduceBNe, Int.reduceAdd, Int.reduceMul, Int.reduceSub, Int.reduceNeg, Int.reduceLT, Int.reduceLE, Int.reduceEq, Int.reduceToNat, reduceCtorEq]
    refine hD _ ?_
    clear hD hK D K
    refine AW_true rfl ?_
    refine AW_reg TB (fun D K hD hK => ?_)
    simp only [AwS, TS, AwD, aval, aIndex, aSlice, aLen, BN, BW, BS, Int.cast_ofNat_Int, spl, splice, bind, ↓reduceIte, Nat.reduceAdd, Nat.reduceMul, Nat.reduceSub, Nat.reduceMod, Nat.reduceDiv, Nat.reduceEqDiff, Nat.reduceLT, Nat.reduceLeDiff, Nat.reduceBEq, Nat.reduceBNe, Int.reduceAdd, Int.reduceMul, Int.reduceSub, Int.reduceNeg, Int.reduceLT, Int.reduceLE, Int.reduceEq, Int.reduceToNat, reduceCtorEq]
    refine hD _ ?_
    clear hD hK D K
    refine AW_ret ?_
    simp only [seqQ, Ret]
    refine retp (bv true) rfl ?_ rfl rfl
    simp [resOf, resAll, resAV, alook, blook, AV.known, loadC, AwS, TS, TD.isAgg]
end Go.Proofs.YtgbpgplkhifgiaaDoor

/- How more kinds of arguments read. No condition. -/
set_option linter.unusedVariables false
set_option linter.unusedSimpArgs false
set_option maxRecDepth 100000
namespace Go.Proofs.YtgbpgplkhifgiaaDoor
open Go Go.RowKit Go.ChangeShapes Go.WideShapes Go.ChangeAt

theorem decV_b : DecV Tryd.prog 5 UInt8 (fun b => bw b) (fun _ => True) :=
  decV_of dec_b fun W base v h => by obtain ⟨n, rfl⟩ := okWide_int Tryd.underlying5 h; rfl
theorem decV_dig : DecV Tryd.prog 23 (List UInt8) (fun d => .agg (d.map bw)) (fun d => d.length = 16) :=
  decV_agg dec_dig fun W base v h => by
    unfold Value.okWide at h
    rw [Tryd.underlying23] at h
    obtain ⟨cs, h1, _⟩ := h
    exact ⟨cs, h1⟩

/-- A list of digests that comes in. -/
theorem flat_fl (l : List (List UInt8)) : (l.flatMap fun d => d.map bw) = fl l := by
  unfold fl
  rw [List.map_flatten]
  rfl
theorem dec_digs : Dec Tryd.prog 43 (List (List UInt8)) (fun l => [.ds true l.length (fl l)]) (fun l => l.length ≤ maxLen ∧ All16 l) :=
  (dec_slice Tryd.underlying43 dec_dig (z := 16) (by kernel_rfl) (by decide)).conv id (fun l h => ⟨⟨h.1, h.2⟩, by rw [← flat_fl]; rfl⟩)

/-- A signature that comes in. -/
theorem dec_sig : Dec Tryd.prog 45 (Int × List (List UInt8) × List (List UInt8) × Unit) (fun s => [iv s.1] ++ ([.ds true s.2.1.length (fl s.2.1)] ++ ([.ds true s.2.2.1.length (fl s.2.2.1)] ++ [])))
    (fun s => (Lit.int .i64 s.1).wf = true ∧ (s.2.1.length ≤ maxLen ∧ All16 s.2.1) ∧ (s.2.2.1.length ≤ maxLen ∧ All16 s.2.2.1) ∧ True) :=
  by
  have h := dec_struct Tryd.underlying45 (by kernel_rfl) (decF_cons 1 (dec_int Tryd.underlying3) rfl (by kernel_rfl) (decF_cons 1 dec_digs rfl (by kernel_rfl) (decF_cons 1 dec_digs rfl (by kernel_rfl) decF_nil)))
  exact h

end Go.Proofs.YtgbpgplkhifgiaaDoor

set_option linter.unusedVariables false
set_option linter.unusedSimpArgs false
set_option maxRecDepth 100000
namespace Go.Proofs.YtgbpgplkhifgiaaDoor
open Go Go.RowKit Go.ChangeShapes Go.WideShapes Go.ChangeAt

set_option linter.defProp false in
def dec_in14 :=
  decV_struct Tryd.underlying70 (by kernel_rfl) (decF_cons 16 dec_dig rfl (by kernel_rfl) (decF_cons 1 (dec_int Tryd.underlying3) rfl (by kernel_rfl) (decF_cons 16 dec_dig rfl (by kernel_rfl) (decF_cons 3 dec_sig rfl (by kernel_rfl) decF_nil))))

theorem lifted14 (os : Os) (started : os.Started) (H : Type) (enc : TypeId × Value → H) :
    ReturnsInHanded {} Tryd.checked os 8 .any (fun w args => (Rows.treesigBindsKeySpec.pre enc Tryd.prog Tryd.f8 [] false w args ∧ laidMetH Tryd.prog laidL w) ∧ sizedMet enc Tryd.prog Tryd.f8 (OpenSpec.ofChange Rows.treesigBindsKeySpec) false w args)
      (Rows.treesigBindsKeySpec.post enc Tryd.prog Tryd.f8 false true false false) := by
  refine returnsInHanded_of_change_and (C := Tryd.checked) (X := fun w _ => laidMetH Tryd.prog laidL w) (fun _ _ _ hh h => h.of_heap hh) own started (by kernel_rfl) Tryd.func8
    (ChangeSpec.witness_shaped (enc := enc) (C := Tryd.checked) (os := os) (X := fun w _ => laidMetH Tryd.prog laidL w) false (World.doorLaid Tryd.prog 400 os) #[.agg #[.int .u8 0, .int .u8 0, .int .u8 0, .int .u8 0, .int .u8 0, .int .u8 0, .int .u8 0, .int .u8 0, .int .u8 0, .int .u8 0, .int .u8 0, .int .u8 0, .int .u8 0, .int .u8 0, .int .u8 0, .int .u8 0, .int .i64 0, .int .u8 0, .int .u8 0, .int .u8 0, .int .u8 0, .int .u8 0, .int .u8 0, .int .u8 0, .int .u8 0, .int .u8 0, .int .u8 0, .int .u8 0, .int .u8 0, .int .u8 0, .int .u8 0, .int .u8 0, .int .u8 0, .int .i64 0, .slice none 0 0, .slice none 0 0]] 8 rfl (World.shaped_of_RefB (by kernel_rfl) (by kernel_rfl)) (by kernel_rfl) (by kernel_rfl) (by kernel_rfl) (door_met os _)) ?_
  intro W base args ds gs before hval0 hW _ _ hL _
  have hval : ∀ (j : Nat) t v, Tryd.f8.params[j]? = some t → args[j]? = some v → Value.okWide Tryd.prog W .any base t v := hval0
  refine law_step (P := Tryd.prog) (tb := 4) laidOut (by kernel_rfl) rfl Tryd.underlying4 rfl (fun ds hds => ?_) hW ?_
  · match ds, hds with
    | [d], _ => rfl
  · obtain ⟨p, q, hA0, _⟩ := hW
    have hA : DataW.TrodAll enc Tryd.prog W 0 (fun _ => true) true Tryd.f8.params.toList args.toList ds p := hA0
    rw [Tryd.params8] at hA hval
    obtain ⟨v0, vs0, d0, ds0, p0, q0, hargs, rfl, rfl, h0, r0⟩ := trodAll_cons hA
    obtain ⟨rfl, rfl, rfl⟩ := trodAll_nil r0
    obtain rfl : args = #[v0] := by cases args; simp_all
    obtain ⟨⟨root, hh, m, ⟨ix, ch, ps, u1⟩, u⟩, hok, hm⟩ := dec_in14.run enc W base 0 _ _ v0 d0 p0 (hval 0 70 v0 rfl rfl) h0
    obtain ⟨h1, h2, h3, ⟨h4, h5, h6, _⟩, _⟩ := hok
    refine calls_of_spec (binds_spec root m hh ix ch ps h1 h3 h5.2 h6.2) (Ms_cons.2 ⟨v0, [], rfl, ?_, rfl⟩) (gl_of_laid hL)
    simpa using hm

theorem over14 : Rows.treesigBindsKeyRow.holds Tryd.pinned (OpenSpec.ofChange Rows.treesigBindsKeySpec) :=
  OpenClaim.holds_of_wide 8 Tryd.f8 rfl rfl rfl rfl rfl rfl rfl ⟨rfl, rfl, rfl, rfl, rfl⟩ rfl rfl rfl rfl rfl (by kernel_rfl) Tryd.func8 (by kernel_rfl)
    (of_decide_eq_true (by kernel_rfl)) (by unfold Func.isWrapper; first | (rw [if_pos (by decide +kernel)]; kernel_rfl) | (rw [if_neg (by decide +kernel)]; exact ⟨rfl, rfl⟩))
    (fun os started H enc _ => lifted14 os started H enc)

/-- THE STATEMENT. -/
theorem treesigBindsKey_holds : Rows.TreesigBindsKeyCardSaid :=
  Claim7.holds_tied_plain_at .later [] [.data, .data] true (true, "1f7228ecc30db96422f7eff86bcd234cff7766a2089915b410f6763b33ffab23") true
    over14 (fun _ h => by cases h) (by kernel_rfl) (fun _ h => by cases h) treesigBindsKey_row_tie rfl ⟨rfl, rfl⟩ (by kernel_rfl) rfl
    (fun f fn hf hfn => by
      obtain rfl : f = 8 := Option.some.inj ((show Tryd.prog.funcNamed "bootchain/bootchainlaw05.TreesigBindsKey" = some 8 by kernel_rfl).symm.trans hf) |>.symm
      obtain rfl : fn = Tryd.f8 := (Option.some.inj (Tryd.func8.symm.trans hfn)).symm
      exact ⟨by kernel_rfl, fun j t ht => by
        rw [Tryd.params8] at ht
        have hm : t ∈ [70] := by simpa using Array.mem_of_getElem? ht
        have hall : ([70].all fun u => !Tryd.prog.wantsStandIn u) = true := by kernel_rfl
        exact (show Tryd.prog.wantsStandIn t = false by simpa using List.all_eq_true.1 hall t hm)⟩)
    (by kernel_rfl)
#print axioms treesigBindsKey_holds
end Go.Proofs.YtgbpgplkhifgiaaDoor
