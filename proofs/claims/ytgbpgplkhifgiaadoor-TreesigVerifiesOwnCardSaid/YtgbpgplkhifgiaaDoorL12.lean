/- For every seed, every height from 0 to 4, every index below 2^height and every message, the signature verifies under the root; its path has height elements and its chain 68: the statement TreesigVerifiesOwn. No condition. -/
import Derived.Test.YtgbpgplkhifgiaaDoorMX
import Derived.Test.YtgbpgplkhifgiaaDoorMD
set_option linter.unusedVariables false
set_option linter.unusedSimpArgs false
set_option maxRecDepth 100000
namespace Go.Proofs.YtgbpgplkhifgiaaDoor
open Go Go.RowKit

theorem manyZ_nat (h : Nat) (hh : h ≤ 4) : manyZ (h : Int) = ((2 ^ h : Nat) : Int) := by
  unfold manyZ
  rw [if_pos (by omega), Int.toNat_natCast]

theorem rem_u8 (H : UInt8) (n : Nat) : (IntKind.i64.wrap (H.toNat : Int)).tmod ((n : Nat) : Int) = ((H.toNat % n : Nat) : Int) := by
  have := H.toNat_lt
  rw [wrap_i64 (by omega) (by omega), ← Int.ofNat_tmod]

theorem own_spec (seed m : List UInt8) (H I : UInt8) (hs : seed.length = 16) (hm : m.length = 16) :
    Spec Tryd.prog glS 6 [.agg (seed.map bw ++ (bw H :: bw I :: m.map bw))] [] (fun o => o = .ret (bv true) [] []) := by
  refine spec_of TB 80 [.tmp 2] Tryd.func6 rfl rfl rfl (Nat.le_of_ble_eq_true rfl) ?_
  intro X w0 E0 hE hX
  have hsl : (seed.map bw).length = 16 := by simp [hs]
  have hml : (m.map bw).length = 16 := by simp [hm]
  have f0 : (seed.map bw ++ (bw H :: bw I :: m.map bw)).length = 34 := by simp [hs, hm]
  have f1 : List.take 16 (seed.map bw ++ (bw H :: bw I :: m.map bw)) = seed.map bw := List.take_left' hsl
  have f2 : (seed.map bw ++ (bw H :: bw I :: m.map bw))[16]? = some (bw H) := by rw [List.getElem?_append_right (by omega), hsl]; rfl
  have f3 : (seed.map bw ++ (bw H :: bw I :: m.map bw))[17]? = some (bw I) := by rw [List.getElem?_append_right (by omega), hsl]; rfl
  have f4 : List.take 16 (List.drop 18 (seed.map bw ++ (bw H :: bw I :: m.map bw))) = m.map bw := by
    rw [List.drop_append, List.drop_eq_nil_of_le (by omega), hsl]
    exact List.take_of_length_le (by simp [hm])
  generalize seed.map bw ++ (bw H :: bw I :: m.map bw) = cs at *
  have za : spl (List.replicate 16 (.val (.int .u8 0))) 0 (seed.map bw) = seed.map bw := spl_all (by simp [hs]) (by simp [hs])
  have zb : spl (List.replicate 16 (.val (.int .u8 0))) 0 (m.map bw) = m.map bw := spl_all (by simp [hm]) (by simp [hm])
  simp only [List.replicate] at za zb
  have zc : List.take 16 (seed.map bw) = seed.map bw := List.take_of_length_le (by simp [hs])
  have zd : List.take 16 (m.map bw) = m.map bw := List.take_of_length_le (by simp [hm])
  simp only [idx, List.map_nil, List.length_nil]
  refine AW_reg TB (fun D K hD hK => ?_)
  simp only [AwS, TS, AwD, aval, aIndex, aSlice, aLen, BN, BW, BS, Int.cast_ofNat_Int, spl, splice, bind, ↓reduceIte, Nat.reduceAdd, Nat.reduceMul, Nat.reduceSub, Nat.reduceMod, Nat.reduceDiv, Nat.reduceEqDiff, Nat.reduceLT, Nat.reduceLeDiff, Nat.reduceBEq, Nat.reduceBNe, Int.reduceAdd, Int.reduceMul, Int.reduceSub, Int.reduceNeg, Int.reduceLT, Int.reduceLE, Int.reduceEq, Int.reduceToNat, reduceCtorEq]
  refine hD _ ?_
  clear hD hK D K
  refine AW_reg TB (fun D K hD hK => ?_)
  simp only [AwS, TS, AwD, aval, aIndex, aSlice, aLen, BN, BW, BS, Int.cast_ofNat_Int, spl, splice, bind, ↓reduceIte, Nat.reduceAdd, Nat.reduceMul, Nat.reduceSub, Nat.reduceMod, Nat.reduceDiv, Nat.reduceEqDiff, Nat.reduceLT, Nat.reduceLeDiff, Nat.reduceBEq, Nat.reduceBNe, Int.reduceAdd, Int.reduceMul, Int.reduceSub, Int.reduceNeg, Int.reduceLT, Int.reduceLE, Int.reduceEq, Int.reduceToNat, reduceCtorEq, f0, f1, za, hsl, bws_cell, -spl]
  refine hD _ ?_
  clear hD hK D K
  refine AW_reg TB (fun D K hD hK => ?_)
  simp only [AwS, TS, AwD, aval, aIndex, aSlice, aLen, BN, BW, BS, Int.cast_ofNat_Int, spl, splice, bind, ↓reduceIte, Nat.reduceAdd, Nat.reduceMul, Nat.reduceSub, Nat.reduceMod, Nat.reduceDiv, Nat.reduceEqDiff, Nat.reduceLT, Nat.reduceLeDiff, Nat.reduceBEq, Nat.reduceBNe, Int.reduceAdd, Int.reduceMul, Int.reduceSub, Int.reduceNeg, Int.reduceLT, Int.reduceLE, Int.reduceEq, Int.reduceToNat, reduceCtorEq, f0, f2]
  refine hD _ ?_
  clear hD hK D K
  refine AW_reg TB (fun D K hD hK => ?_)
  simp only [AwS, TS, AwD, aval, aIndex, aSlice, aLen, BN, BW, BS, Int.cast_ofNat_Int, spl, splice, bind, ↓reduceIte, Nat.reduceAdd, Nat.reduceMul, Nat.reduceSub, Nat.reduceMod, Nat.reduceDiv, Nat.reduceEqDiff, Nat.reduceLT, Nat.reduceLeDiff, Nat.reduceBEq, Nat.reduceBNe, Int.reduceAdd, Int.reduceMul, Int.reduceSub, Int.reduceNeg, Int.reduceLT, Int.reduceLE, Int.reduceEq, Int.reduceToNat, reduceCtorEq, f0, f3]
  refine hD _ ?_
  clear hD hK D K
  refine AW_reg TB (fun D K hD hK => ?_)
  simp only [AwS, TS, AwD, aval, aIndex, aSlice, aLen, BN, BW, BS, Int.cast_ofNat_Int, spl, splice, bind, ↓reduceIte, Nat.reduceAdd, Nat.reduceMul, Nat.reduceSub, Nat.reduceMod, Nat.reduceDiv, Nat.reduceEqDiff, Nat.reduceLT, Nat.reduceLeDiff, Nat.reduceBEq, Nat.reduceBNe, Int.reduceAdd, Int.reduceMul, Int.reduceSub, Int.reduceNeg, Int.reduceLT, Int.reduceLE, Int.reduceEq, Int.reduceToNat, reduceCtorEq, f0, f4, zb, hml, bws_cell, -spl]
  refine hD _ ?_
  clear hD hK D K
  refine AW_reg TB (fun D K hD hK => ?_)
  simp only [AwS, TS, AwD, aval, aIndex, aSlice, aLen, BN, BW, BS, Int.cast_ofNat_Int, spl, splice, bind, ↓reduceIte, Nat.reduceAdd, Nat.reduceMul, Nat.reduceSub, Nat.reduceMod, Nat.reduceDiv, Nat.reduceEqDiff, Nat.reduceLT, Nat.reduceLeDiff, Nat.reduceBEq, Nat.reduceBNe, Int.reduceAdd, Int.reduceMul, Int.reduceSub, Int.reduceNeg, Int.reduceLT, Int.reduceLE, Int.reduceEq, Int.reduceToNat, reduceCtorEq]
  refine hK _ _ ?_
  clear hD hK D K
  refine AL_callG rfl rfl rfl rfl en_20 tsanity_spec [] ?_ (by simp) rfl rfl (by simp [alook, AV.map, cs_map, wws_map]) ?_
  · simp [evs, St.ev, cav, alook, lendA, lentBx, lendC, blook, AVs.map, AV.map, ioMap]
  refine AL_runR TB _ _ (fun D K hD hK => ?_)
  simp only [AwS, TS, AwD, aval, aIndex, aSlice, aLen, BN, BW, BS, Int.cast_ofNat_Int, spl, splice, bind, ↓reduceIte, Nat.reduceAdd, Nat.reduceMul, Nat.reduceSub, Nat.reduceMod, Nat.reduceDiv, Nat.reduceEqDiff, Nat.reduceLT, Nat.reduceLeDiff, Nat.reduceBEq, Nat.reduceBNe, Int.reduceAdd, Int.reduceMul, Int.reduceSub, Int.reduceNeg, Int.reduceLT, Int.reduceLE, Int.reduceEq, Int.reduceToNat, reduceCtorEq]
  refine hD _ ?_
  clear hD hK D K
  have r5 := rem_u8 H 5
  have hh : H.toNat % 5 ≤ 4 := by have := Nat.mod_lt H.toNat (show 0 < 5 by omega); omega
  have ms := many_spec ((H.toNat % 5 : Nat) : Int)
  rw [manyZ_nat _ hh] at ms
  simp only [Int.cast_ofNat_Int] at r5
  generalize H.toNat % 5 = h at *
  have ri := rem_u8 I (2 ^ h)
  have hp1 : 1 ≤ 2 ^ h := Nat.one_le_two_pow
  have hi : I.toNat % 2 ^ h < 2 ^ h := Nat.mod_lt _ (by omega)
  have hp0 : (((2 ^ h : Nat) : Int) = 0) = False := eq_false (by omega)
  have rs := rootT_spec seed h hh hs
  have ts := tsign_spec seed h (I.toNat % 2 ^ h) m hh hi hs hm
  have v1 := verT_own seed h (I.toNat % 2 ^ h) m hh hi
  have pl := path_len seed h (I.toNat % 2 ^ h)
  have p16 := path_16 seed h (I.toNat % 2 ^ h)
  generalize I.toNat % 2 ^ h = i at *
  have s16 := sigL_16 seed i m 68
  have sl := sigL_len seed i m 68
  generalize pathW seed h i = P at *
  generalize sigL seed i m 68 = S at *
  have hdl0 := rootW_len seed h
  generalize rootW seed h = D0 at *
  have za0 : spl (List.replicate 16 (.val (.int .u8 0))) 0 (D0.map bw) = D0.map bw := spl_all (by simp [hdl0]) (by simp [hdl0])
  simp only [List.replicate] at za0
  have zb0 : List.take 16 (D0.map bw) = D0.map bw := List.take_of_length_le (by simp [hdl0])
  have zc0 : (D0.map bw).length = 16 := by simp [hdl0]
  have q1 := tverify_spec D0 h m i true true S P hdl0 hm s16 p16 (by omega) (by omega)
  rw [v1] at q1
  simp only [sigA] at ts q1
  generalize 2 ^ h = N at *
  refine AW_reg TB (fun D K hD hK => ?_)
  simp only [AwS, TS, AwD, aval, aIndex, aSlice, aLen, BN, BW, BS, Int.cast_ofNat_Int, spl, splice, bind, ↓reduceIte, Nat.reduceAdd, Nat.reduceMul, Nat.reduceSub, Nat.reduceMod, Nat.reduceDiv, Nat.reduceEqDiff, Nat.reduceLT, Nat.reduceLeDiff, Nat.reduceBEq, Nat.reduceBNe, Int.reduceAdd, Int.reduceMul, Int.reduceSub, Int.reduceNeg, Int.reduceLT, Int.reduceLE, Int.reduceEq, Int.reduceToNat, reduceCtorEq, r5]
  refine hD _ ?_
  clear hD hK D K
  refine AW_reg TB (fun D K hD hK => ?_)
  simp only [AwS, TS, AwD, aval, aIndex, aSlice, aLen, BN, BW, BS, Int.cast_ofNat_Int, spl, splice, bind, ↓reduceIte, Nat.reduceAdd, Nat.reduceMul, Nat.reduceSub, Nat.reduceMod, Nat.reduceDiv, Nat.reduceEqDiff, Nat.reduceLT, Nat.reduceLeDiff, Nat.reduceBEq, Nat.reduceBNe, Int.reduceAdd, Int.reduceMul, Int.reduceSub, Int.reduceNeg, Int.reduceLT, Int.reduceLE, Int.reduceEq, Int.reduceToNat, reduceCtorEq]
  refine hK _ _ ?_
  clear hD hK D K
  refine AL_callPW rfl (.inl rfl) rfl rfl en_28 ms [] ?_ (by simp) rfl rfl ?_
  · simp [evs, St.ev, cav, alook, lendA, lentBx, lendC, blook, AVs.map, AV.map, ioMap]
  refine AL_runR TB _ _ (fun D K hD hK => ?_)
  simp only [AwS, TS, AwD, aval, aIndex, aSlice, aLen, BN, BW, BS, Int.cast_ofNat_Int, spl, splice, bind, ↓reduceIte, Nat.reduceAdd, Nat.reduceMul, Nat.reduceSub, Nat.reduceMod, Nat.reduceDiv, Nat.reduceEqDiff, Nat.reduceLT, Nat.reduceLeDiff, Nat.reduceBEq, Nat.reduceBNe, Int.reduceAdd, Int.reduceMul, Int.reduceSub, Int.reduceNeg, Int.reduceLT, Int.reduceLE, Int.reduceEq, Int.reduceToNat, reduceCtorEq, ri, hp0]
  refine hD _ ?_
  clear hD hK D K
  refine AW_reg TB (fun D K hD hK => ?_)
  simp only [AwS, TS, AwD, aval, aIndex, aSlice, aLen, BN, BW, BS, Int.cast_ofNat_Int, spl, splice, bind, ↓reduceIte, Nat.reduceAdd, Nat.reduceMul, Nat.reduceSub, Nat.reduceMod, Nat.reduceDiv, Nat.reduceEqDiff, Nat.reduceLT, Nat.reduceLeDiff, Nat.reduceBEq, Nat.reduceBNe, Int.reduceAdd, Int.reduceMul, Int.reduceSub, Int.reduceNeg, Int.reduceLT, Int.reduceLE, Int.reduceEq, Int.reduceToNat, reduceCtorEq, zc, hsl]
  refine hK _ _ ?_
  clear hD hK D K
  refine AL_callG rfl rfl rfl rfl en_17 rs [] ?_ (by simp) rfl (by simp only [AV.map, AVs.map, bws_map]) (by simp [alook, AV.map, cs_map, wws_map]) ?_
  · simp [evs, St.ev, cav, alook, lendA, lentBx, lendC, blook, AVs.map, AV.map, ioMap, bws_map]
  refine AL_runR TB _ _ (fun D K hD hK => ?_)
  simp only [AwS, TS, AwD, aval, aIndex, aSlice, aLen, BN, BW, BS, Int.cast_ofNat_Int, spl, splice, bind, ↓reduceIte, Nat.reduceAdd, Nat.reduceMul, Nat.reduceSub, Nat.reduceMod, Nat.reduceDiv, Nat.reduceEqDiff, Nat.reduceLT, Nat.reduceLeDiff, Nat.reduceBEq, Nat.reduceBNe, Int.reduceAdd, Int.reduceMul, Int.reduceSub, Int.reduceNeg, Int.reduceLT, Int.reduceLE, Int.reduceEq, Int.reduceToNat, reduceCtorEq, za0, zc0, bws_cell, bws_map, -spl]
  refine hD _ ?_
  clear hD hK D K
  refine AW_reg TB (fun D K hD hK => ?_)
  simp only [AwS, TS, AwD, aval, aIndex, aSlice, aLen, BN, BW, BS, Int.cast_ofNat_Int, spl, splice, bind, ↓reduceIte, Nat.reduceAdd, Nat.reduceMul, Nat.reduceSub, Nat.reduceMod, Nat.reduceDiv, Nat.reduceEqDiff, Nat.reduceLT, Nat.reduceLeDiff, Nat.reduceBEq, Nat.reduceBNe, Int.reduceAdd, Int.reduceMul, Int.reduceSub, Int.reduceNeg, Int.reduceLT, Int.reduceLE, Int.reduceEq, Int.reduceToNat, reduceCtorEq, zc, zd, hsl, hml]
  refine hK _ _ ?_
  clear hD hK D K
  refine AL_callG rfl rfl rfl rfl en_22 ts [] ?_ (by simp) rfl (by simp only [AV.map, AVs.map, fl_map]) (by simp [alook, AV.map, cs_map, wws_map]) ?_
  · simp [evs, St.ev, cav, alook, lendA, lentBx, lendC, blook, AVs.map, AV.map, ioMap, bws_map]
  refine AL_runR TB _ _ (fun D K hD hK => ?_)
  simp only [AwS, TS, AwD, aval, aIndex, aSlice, aLen, BN, BW, BS, Int.cast_ofNat_Int, spl, splice, bind, ↓reduceIte, Nat.reduceAdd, Nat.reduceMul, Nat.reduceSub, Nat.reduceMod, Nat.reduceDiv, Nat.reduceEqDiff, Nat.reduceLT, Nat.reduceLeDiff, Nat.reduceBEq, Nat.reduceBNe, Int.reduceAdd, Int.reduceMul, Int.reduceSub, Int.reduceNeg, Int.reduceLT, Int.reduceLE, Int.reduceEq, Int.reduceToNat, reduceCtorEq, fl_map]
  refine hD _ ?_
  clear hD hK D K
  have l1 : ((P.length : Nat) : Int) = (h : Int) := by omega
  have l2 : ((S.length : Nat) : Int) = 68 := by omega
  refine AW_reg TB (fun D K hD hK => ?_)
  simp only [AwS, TS, AwD, aval, aIndex, aSlice, aLen, BN, BW, BS, Int.cast_ofNat_Int, spl, splice, bind, ↓reduceIte, Nat.reduceAdd, Nat.reduceMul, Nat.reduceSub, Nat.reduceMod, Nat.reduceDiv, Nat.reduceEqDiff, Nat.reduceLT, Nat.reduceLeDiff, Nat.reduceBEq, Nat.reduceBNe, Int.reduceAdd, Int.reduceMul, Int.reduceSub, Int.reduceNeg, Int.reduceLT, Int.reduceLE, Int.reduceEq, Int.reduceToNat, reduceCtorEq, l1, l2, zb0, zc0, zd, hml, fl_map]
  refine hK _ _ ?_
  clear hD hK D K
  refine AL_callGW rfl (.inr ⟨28, _, true, rfl, rfl, rfl⟩) rfl rfl en_19 q1 [] ?_ (by simp) rfl rfl (by simp [alook, AV.map, cs_map, wws_map]) ?_
  · simp [evs, St.ev, cav, alook, lendA, lentBx, lendC, blook, AVs.map, AV.map, ioMap, bws_map, fl_map]
  refine AL_runR TB _ _ (fun D K hD hK => ?_)
  simp only [AwS, TS, AwD, aval, aIndex, aSlice, aLen, BN, BW, BS, Int.cast_ofNat_Int, spl, splice, bind, ↓reduceIte, Nat.reduceAdd, Nat.reduceMul, Nat.reduceSub, Nat.reduceMod, Nat.reduceDiv, Nat.reduceEqDiff, Nat.reduceLT, Nat.reduceLeDiff, Nat.reduceBEq, Nat.reduceBNe, Int.reduceAdd, Int.reduceMul, Int.reduceSub, Int.reduceNeg, Int.reduceLT, Int.reduceLE, Int.reduceEq, Int.reduceToNat, reduceCtorEq]
  refine hD _ ?_
  clear hD hK D K
  refine AW_ret ?_
  simp only [Ret]
  refine retp (bv true) rfl ?_ rfl rfl
  simp [resOf, resAll, resAV, alook, blook, AV.known, loadC, AwS, TS, TD.isAgg]
end Go.Proofs.YtgbpgplkhifgiaaDoor

set_option linter.unusedVariables false
set_option linter.unusedSimpArgs false
set_option maxRecDepth 100000
namespace Go.Proofs.YtgbpgplkhifgiaaDoor
open Go Go.RowKit Go.ChangeShapes Go.WideShapes Go.ChangeAt

set_option linter.defProp false in
def dec_in12 :=
  decV_struct Tryd.underlying63 (by kernel_rfl) (decF_cons 16 dec_dig rfl (by kernel_rfl) (decF_cons 1 dec_b rfl (by kernel_rfl) (decF_cons 1 dec_b rfl (by kernel_rfl) (decF_cons 16 dec_dig rfl (by kernel_rfl) decF_nil))))

theorem lifted12 (os : Os) (started : os.Started) (H : Type) (enc : TypeId × Value → H) :
    ReturnsInHanded {} Tryd.checked os 6 .any (fun w args => (Rows.treesigVerifiesOwnSpec.pre enc Tryd.prog Tryd.f6 [] false w args ∧ laidMetH Tryd.prog laidL w) ∧ sizedMet enc Tryd.prog Tryd.f6 (OpenSpec.ofChange Rows.treesigVerifiesOwnSpec) false w args)
      (Rows.treesigVerifiesOwnSpec.post enc Tryd.prog Tryd.f6 false true false false) := by
  refine returnsInHanded_of_change_and (C := Tryd.checked) (X := fun w _ => laidMetH Tryd.prog laidL w) (fun _ _ _ hh h => h.of_heap hh) own started (by kernel_rfl) Tryd.func6
    (ChangeSpec.witness_shaped (enc := enc) (C := Tryd.checked) (os := os) (X := fun w _ => laidMetH Tryd.prog laidL w) false (World.doorLaid Tryd.prog 400 os) #[.agg (Array.replicate 34 (.int .u8 0))] 8 rfl (World.shaped_of_RefB (by kernel_rfl) (by kernel_rfl)) (by kernel_rfl) (by kernel_rfl) (by kernel_rfl) (door_met os _)) ?_
  intro W base args ds gs before hval0 hW _ _ hL _
  have hval : ∀ (j : Nat) t v, Tryd.f6.params[j]? = some t → args[j]? = some v → Value.okWide Tryd.prog W .any base t v := hval0
  refine law_step (P := Tryd.prog) (tb := 4) laidOut (by kernel_rfl) rfl Tryd.underlying4 rfl (fun ds hds => ?_) hW ?_
  · match ds, hds with
    | [d], _ => rfl
  · obtain ⟨p, q, hA0, _⟩ := hW
    have hA : DataW.TrodAll enc Tryd.prog W 0 (fun _ => true) true Tryd.f6.params.toList args.toList ds p := hA0
    rw [Tryd.params6] at hA hval
    obtain ⟨v0, vs0, d0, ds0, p0, q0, hargs, rfl, rfl, h0, r0⟩ := trodAll_cons hA
    obtain ⟨rfl, rfl, rfl⟩ := trodAll_nil r0
    obtain rfl : args = #[v0] := by cases args; simp_all
    obtain ⟨⟨seed, hh, ii, m, u⟩, hok, hm⟩ := dec_in12.run enc W base 0 _ _ v0 d0 p0 (hval 0 63 v0 rfl rfl) h0
    obtain ⟨h1, h2, h3, h4, _⟩ := hok
    refine calls_of_spec (own_spec seed m hh ii h1 h4) (Ms_cons.2 ⟨v0, [], rfl, ?_, rfl⟩) (gl_of_laid hL)
    simpa using hm

theorem over12 : Rows.treesigVerifiesOwnRow.holds Tryd.pinned (OpenSpec.ofChange Rows.treesigVerifiesOwnSpec) :=
  OpenClaim.holds_of_wide 6 Tryd.f6 rfl rfl rfl rfl rfl rfl rfl ⟨rfl, rfl, rfl, rfl, rfl⟩ rfl rfl rfl rfl rfl (by kernel_rfl) Tryd.func6 (by kernel_rfl)
    (of_decide_eq_true (by kernel_rfl)) (by unfold Func.isWrapper; first | (rw [if_pos (by decide +kernel)]; kernel_rfl) | (rw [if_neg (by decide +kernel)]; exact ⟨rfl, rfl⟩))
    (fun os started H enc _ => lifted12 os started H enc)

/-- THE STATEMENT. -/
theorem treesigVerifiesOwn_holds : Rows.TreesigVerifiesOwnCardSaid :=
  Claim7.holds_tied_plain_at .later [] [.data, .data] true (true, "1f7228ecc30db96422f7eff86bcd234cff7766a2089915b410f6763b33ffab23") true
    over12 (fun _ h => by cases h) (by kernel_rfl) (fun _ h => by cases h) treesigVerifiesOwn_row_tie rfl ⟨rfl, rfl⟩ (by kernel_rfl) rfl
    (fun f fn hf hfn => by
      obtain rfl : f = 6 := Option.some.inj ((show Tryd.prog.funcNamed "bootchain/bootchainlaw05.TreesigVerifiesOwn" = some 6 by kernel_rfl).symm.trans hf) |>.symm
      obtain rfl : fn = Tryd.f6 := (Option.some.inj (Tryd.func6.symm.trans hfn)).symm
      exact ⟨by kernel_rfl, fun j t ht => by
        rw [Tryd.params6] at ht
        have hm : t ∈ [63] := by simpa using Array.mem_of_getElem? ht
        have hall : ([63].all fun u => !Tryd.prog.wantsStandIn u) = true := by kernel_rfl
        exact (show Tryd.prog.wantsStandIn t = false by simpa using List.all_eq_true.1 hall t hm)⟩)
    (by kernel_rfl)
#print axioms treesigVerifiesOwn_holds
end Go.Proofs.YtgbpgplkhifgiaaDoor
