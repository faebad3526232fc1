/- The walk of the law TreesigVerifiesOwn. No condition. -/
import Derived.Test.YtgbpgplkhifgiaaDoorMX
import Derived.Test.YtgbpgplkhifgiaaDoorMG
import Derived.Test.YtgbpgplkhifgiaaDoorMW
set_option linter.unusedVariables false
set_option linter.unusedSimpArgs false
set_option maxRecDepth 100000
namespace Go.Proofs.YtgbpgplkhifgiaaDoor
open Go Go.RowKit

theorem manyZ_nat (h : Nat) (hh : h ≤ 4) : manyZ (h : Int) = ((2 ^ h : Nat) : Int) := by
  unfold manyZ
  rw [if_pos (by omega), Int.toNat_natCast]

theorem rem_u8 (H : UInt8) (n : Nat) : (IntKind.i64.wrap (H.toNat : Int)).tmod ((n : Nat) : Int) = ((H.toNat % n : Nat) : Int) := by
  have := H.toNat_lt
  rw [wrap_i64 (by omega) (by omega), ← Int.ofNat_tmod]

theorem own_spec (seed m : List UInt8) (H I : UInt8) (hs : seed.length = 16) (hm : m.length = 16) :
    Spec Tryd.prog glS 6 [.agg (seed.map bw ++ (bw H :: bw I :: m.map bw))] [] (fun o => o = .ret (bv true) [] []) := by
  refine spec_of TB 80 [.tmp 2] Tryd.func6 rfl rfl rfl (Nat.le_of_ble_eq_true rfl) ?_
  intro X w0 E0 hE hX
  have hsl : (seed.map bw).length = 16 := by simp [hs]
  have hml : (m.map bw).length = 16 := by simp [hm]
  have f0 : (seed.map bw ++ (bw H :: bw I :: m.map bw)).length = 34 := by simp [hs, hm]
  have f1 : List.take 16 (seed.map bw ++ (bw H :: bw I :: m.map bw)) = seed.map bw := List.take_left' hsl
  have f2 : (seed.map bw ++ (bw H :: bw I :: m.map bw))[16]? = some (bw H) := by rw [List.getElem?_append_right (by omega), hsl]; rfl
  have f3 : (seed.map bw ++ (bw H :: bw I :: m.map bw))[17]? = some (bw I) := by rw [List.getElem?_append_right (by omega), hsl]; rfl
  have f4 : List.take 16 (List.drop 18 (seed.map bw ++ (bw H :: bw I :: m.map bw))) = m.map bw := by
    rw [List.drop_append, List.drop_eq_nil_of_le (by omega), hsl]
    exact List.take_of_length_le (by simp [hm])
  generalize seed.map bw ++ (bw H :: bw I :: m.map bw) = cs at *
  have za : spl (List.replicate 16 (.val (.int .u8 0))) 0 (seed.map bw) = seed.map bw := spl_all (by simp [hs]) (by simp [hs])
  have zb : spl (List.replicate 16 (.val (.int .u8 0))) 0 (m.map bw) = m.map bw := spl_all (by simp [hm]) (by simp [hm])
  simp only [List.replicate] at za zb
  have zc : List.take 16 (seed.map bw) = seed.map bw := List.take_of_length_le (by simp [hs])
  have zd : List.take 16 (m.map bw) = m.map bw := List.take_of_length_le (by simp [hm])
  simp only [idx, List.map_nil, List.length_nil]
  refine AW_reg TB (fun D K hD hK => ?_)
  simp only [AwS, TS, AwD, aval, aIndex, aSlice, aLen, BN, BW, BS, Int.cast_ofNat_Int, spl, splice, bind, ↓reduceIte, simprocAttr]
  refine hD _ ?_
  clear hD hK D K
  refine AW_reg TB (fun D K hD hK => ?_)
  simp only [AwS, TS, AwD, aval, aIndex, aSlice, aLen, BN, BW, BS, Int.cast_ofNat_Int, spl, splice, bind, ↓reduceIte, simprocAttr, f0, f1, za, hsl, bws_cell, -spl]
  refine hD _ ?_
  clear hD hK D K
  refine AW_reg TB (fun D K hD hK => ?_)
  simp only [AwS, TS, AwD, aval, aIndex, aSlice, aLen, BN, BW, BS, Int.cast_ofNat_Int, spl, splice, bind, ↓reduceIte, simprocAttr, f0, f2]
  refine hD _ ?_
  clear hD hK D K
  refine AW_reg TB (fun D K hD hK => ?_)
  simp only [AwS, TS, AwD, aval, aIndex, aSlice, aLen, BN, BW, BS, Int.cast_ofNat_Int, spl, splice, bind, ↓reduceIte, simprocAttr, f0, f3]
  refine hD _ ?_
  clear hD hK D K
  refine AW_reg TB (fun D K hD hK => ?_)
  simp only [AwS, TS, AwD, aval, aIndex, aSlice, aLen, BN, BW, BS, Int.cast_ofNat_Int, spl, splice, bind, ↓reduceIte, simprocAttr, f0, f4, zb, hml, bws_cell, -spl]
  refine hD _ ?_
  clear hD hK D K
  refine AW_reg TB (fun D K hD hK => ?_)
  simp only [AwS, TS, AwD, aval, aIndex, aSlice, aLen, BN, BW, BS, Int.cast_ofNat_Int, spl, splice, bind, ↓reduceIte, simprocAttr]
  refine hK _ _ ?_
  clear hD hK D K
  refine AL_callG rfl rfl rfl rfl en_20 tsanity_spec [] ?_ (by simp) rfl rfl (by simp [alook, AV.map, cs_map, wws_map]) ?_
  · simp [evs, St.ev, cav, alook, lendA, lentBx, lendC, blook, AVs.map, AV.map, ioMap]
  refine AL_runR TB _ _ (fun D K hD hK => ?_)
  simp only [AwS, TS, AwD, aval, aIndex, aSlice, aLen, BN, BW, BS, Int.cast_ofNat_Int, spl, splice, bind, ↓reduceIte, simprocAttr]
  refine hD _ ?_
  clear hD hK D K
  have r5 := rem_u8 H 5
  have hh : H.toNat % 5 ≤ 4 := by have := Nat.mod_lt H.toNat (show 0 < 5 by omega); omega
  have ms := many_spec ((H.toNat % 5 : Nat) : Int)
  rw [manyZ_nat _ hh] at ms
  simp only [Int.cast_ofNat_Int] at r5
  generalize H.toNat % 5 = h at *
  have ri := rem_u8 I (2 ^ h)
  have hp1 : 1 ≤ 2 ^ h := Nat.one_le_two_pow
  have hi : I.toNat % 2 ^ h < 2 ^ h := Nat.mod_lt _ (by omega)
  have hp0 : (((2 ^ h : Nat) : Int) = 0) = False := eq_false (by omega)
  have rs := rootT_spec seed h hh hs
  have ts := tsign_spec seed h (I.toNat % 2 ^ h) m hh hi hs hm
  have v1 := verT_own seed h (I.toNat % 2 ^ h) m hh hi
  have pl := path_len seed h (I.toNat % 2 ^ h)
  have p16 := path_16 seed h (I.toNat % 2 ^ h)
  generalize I.toNat % 2 ^ h = i at *
  have s16 := sigL_16 seed i m 68
  have sl := sigL_len seed i m 68
  generalize pathW seed h i = P at *
  generalize sigL seed i m 68 = S at *
  have hdl0 := rootW_len seed h
  generalize rootW seed h = D0 at *
  have za0 : spl (List.replicate 16 (.val (.int .u8 0))) 0 (D0.map bw) = D0.map bw := spl_all (by simp [hdl0]) (by simp [hdl0])
  simp only [List.replicate] at za0
  have zb0 : List.take 16 (D0.map bw) = D0.map bw := List.take_of_length_le (by simp [hdl0])
  have zc0 : (D0.map bw).length = 16 := by simp [hdl0]
  have q1 := tverify_spec D0 h m i true true S P hdl0 hm s16 p16 (by omega) (by omega)
  rw [v1] at q1
  simp only [sigA] at ts q1
  generalize 2 ^ h = N at *
  refine AW_reg TB (fun D K hD hK => ?_)
  simp only [AwS, TS, AwD, aval, aIndex, aSlice, aLen, BN, BW, BS, Int.cast_ofNat_Int, spl, splice, bind, ↓reduceIte, simprocAttr, r5]
  refine hD _ ?_
  clear hD hK D K
  refine AW_reg TB (fun D K hD hK => ?_)
  simp only [AwS, TS, AwD, aval, aIndex, aSlice, aLen, BN, BW, BS, Int.cast_ofNat_Int, spl, splice, bind, ↓reduceIte, simprocAttr]
  refine hK _ _ ?_
  clear hD hK D K
  refine AL_callPW rfl (.inl rfl) rfl rfl en_28 ms [] ?_ (by simp) rfl rfl ?_
  · simp [evs, St.ev, cav, alook, lendA, lentBx, lendC, blook, AVs.map, AV.map, ioMap]
  refine AL_runR TB _ _ (fun D K hD hK => ?_)
  simp only [AwS, TS, AwD, aval, aIndex, aSlice, aLen, BN, BW, BS, Int.cast_ofNat_Int, spl, splice, bind, ↓reduceIte, simprocAttr, ri, hp0]
  refine hD _ ?_
  clear hD hK D K
  refine AW_reg TB (fun D K hD hK => ?_)
  simp only [AwS, TS, AwD, aval, aIndex, aSlice, aLen, BN, BW, BS, Int.cast_ofNat_Int, spl, splice, bind, ↓reduceIte, simprocAttr, zc, hsl]
  refine hK _ _ ?_
  clear hD hK D K
  refine AL_callG rfl rfl rfl rfl en_17 rs [] ?_ (by simp) rfl (by simp only [AV.map, AVs.map, bws_map]) (by simp [alook, AV.map, cs_map, wws_map]) ?_
  · simp [evs, St.ev, cav, alook, lendA, lentBx, lendC, blook, AVs.map, AV.map, ioMap, bws_map]
  refine AL_runR TB _ _ (fun D K hD hK => ?_)
  simp only [AwS, TS, AwD, aval, aIndex, aSlice, aLen, BN, BW, BS, Int.cast_ofNat_Int, spl, splice, bind, ↓reduceIte, simprocAttr, za0, zc0, bws_cell, bws_map, -spl]
  refine hD _ ?_
  clear hD hK D K
  refine AW_reg TB (fun D K hD hK => ?_)
  simp only [AwS, TS, AwD, aval, aIndex, aSlice, aLen, BN, BW, BS, Int.cast_ofNat_Int, spl, splice, bind, ↓reduceIte, simprocAttr, zc, zd, hsl, hml]
  refine hK _ _ ?_
  clear hD hK D K
  refine AL_callG rfl rfl rfl rfl en_22 ts [] ?_ (by simp) rfl (by simp only [AV.map, AVs.map, fl_map]) (by simp [alook, AV.map, cs_map, wws_map]) ?_
  · simp [evs, St.ev, cav, alook, lendA, lentBx, lendC, blook, AVs.map, AV.map, ioMap, bws_map]
  refine AL_runR TB _ _ (fun D K hD hK => ?_)
  simp only [AwS, TS, AwD, aval, aIndex, aSlice, aLen, BN, BW, BS, Int.cast_ofNat_Int, spl, splice, bind, ↓reduceIte, simprocAttr, fl_map]
  refine hD _ ?_
  clear hD hK D K
  have l1 : ((P.length : Nat) : Int) = (h : Int) := by omega
  have l2 : ((S.length : Nat) : Int) = 68 := by omega
  refine AW_reg TB (fun D K hD hK => ?_)
  simp only [AwS, TS, AwD, aval, aIndex, aSlice, aLen, BN, BW, BS, Int.cast_ofNat_Int, spl, splice, bind, ↓reduceIte, simprocAttr, l1, l2, zb0, zc0, zd, hml, fl_map]
  refine hK _ _ ?_
  clear hD hK D K
  refine AL_callGW rfl (.inr ⟨28, _, true, rfl, rfl, rfl⟩) rfl rfl en_19 q1 [] ?_ (by simp) rfl rfl (by simp [alook, AV.map, cs_map, wws_map]) ?_
  · simp [evs, St.ev, cav, alook, lendA, lentBx, lendC, blook, AVs.map, AV.map, ioMap, bws_map, fl_map]
  refine AL_runR TB _ _ (fun D K hD hK => ?_)
  simp only [AwS, TS, AwD, aval, aIndex, aSlice, aLen, BN, BW, BS, Int.cast_ofNat_Int, spl, splice, bind, ↓reduceIte, simprocAttr]
  refine hD _ ?_
  clear hD hK D K
  refine AW_ret ?_
  simp only [Ret]
  refine retp (bv true) rfl ?_ rfl rfl
  simp [resOf, resAll, resAV, alook, blook, AV.known, loadC, AwS, TS, TD.isAgg]
end Go.Proofs.YtgbpgplkhifgiaaDoor

/- The walk of bootchainref05.Small. No condition. -/
set_option linter.unusedVariables false
set_option linter.unusedSimpArgs false
set_option maxRecDepth 100000
namespace Go.Proofs.YtgbpgplkhifgiaaDoor
open Go Go.RowKit

theorem small_spec (i : Int) (kc kp : Bool) (ch ps : List (List UInt8)) : Spec Tryd.prog [] 25 [sigA i kc kp ch ps] [] (fun o => o = .ret (bv (decide (ch.length ≤ 100) && decide (ps.length ≤ 20))) [] []) := by
  refine spec_of TB 13 [.tmp 2] Tryd.func25 rfl rfl rfl (Nat.le_of_ble_eq_true rfl) ?_
  intro X w0 E0 hE hX
  simp only [idx, List.map_nil, List.length_nil, sigA]
  refine AW_reg TB (fun D K hD hK => ?_)
  simp only [AwS, TS, AwD, aval, aIndex, aSlice, aLen, BN, BW, BS, Int.cast_ofNat_Int, spl, splice, bind, ↓reduceIte, simprocAttr]
  refine hD _ ?_
  clear hD hK D K
  have e : ∀ (a b : Nat), decide ((a : Int) ≤ (b : Int)) = decide (a ≤ b) := fun a b => by simp
  by_cases h : ch.length ≤ 100
  · have e1 : ((ch.length : Int) ≤ 100) = True := eq_true (by omega)
    refine AW_reg TB (fun D K hD hK => ?_)
    simp only [AwS, TS, AwD, aval, aIndex, aSlice, aLen, BN, BW, BS, Int.cast_ofNat_Int, spl, splice, bind, ↓reduceIte, simprocAttr, e1]
    refine hD _ ?_
    clear hD hK D K
    refine AW_ret ?_
    simp only [Ret]
    refine retp (bv (decide ((ps.length : Int) ≤ 20))) rfl ?_ rfl (by
      have := e ps.length 20
      simp only [Int.cast_ofNat_Int] at this
      rw [this, decide_eq_true h, Bool.true_and])
    simp [resOf, resAll, resAV, alook, blook, AV.known, loadC, AwS, TS, TD.isAgg]
  · have e1 : ((ch.length : Int) ≤ 100) = False := eq_false (by omega)
    refine AW_reg TB (fun D K hD hK => ?_)
    simp only [AwS, TS, AwD, aval, aIndex, aSlice, aLen, BN, BW, BS, Int.cast_ofNat_Int, spl, splice, bind, ↓reduceIte, simprocAttr, e1]
    refine hD _ ?_
    clear hD hK D K
    refine AW_ret ?_
    simp only [Ret]
    refine retp (bv false) rfl ?_ rfl (by rw [decide_eq_false h, Bool.false_and])
    simp [resOf, resAll, resAV, alook, blook, AV.known, loadC, AwS, TS, TD.isAgg]
end Go.Proofs.YtgbpgplkhifgiaaDoor

/- The walks of bootchainref03's combine and Verify. No condition. -/
set_option linter.unusedVariables false
set_option linter.unusedSimpArgs false
set_option maxRecDepth 100000
namespace Go.Proofs.YtgbpgplkhifgiaaDoor
open Go Go.RowKit

/-- What combine hands back. -/
def combM (n i : Nat) (leaf : List UInt8) (ps : List (List UInt8)) : List UInt8 × Bool :=
  if h : 1 < n then
    (if ps.length = 0 then (zD, false)
    else if i < splitM n then (nodeD (combM (splitM n) i leaf (ps.take (ps.length - 1))).1 (ps.getD (ps.length - 1) zD), (combM (splitM n) i leaf (ps.take (ps.length - 1))).2)
    else (nodeD (ps.getD (ps.length - 1) zD) (combM (n - splitM n) (i - splitM n) leaf (ps.take (ps.length - 1))).1, (combM (n - splitM n) (i - splitM n) leaf (ps.take (ps.length - 1))).2))
  else (leafD leaf, decide ((ps.length : Int) = 0))
termination_by n
decreasing_by
  all_goals (have := splitM_bd h; omega)
theorem comb_one {n i : Nat} {leaf : List UInt8} {ps : List (List UInt8)} (h : ¬ 1 < n) : combM n i leaf ps = (leafD leaf, decide ((ps.length : Int) = 0)) := by rw [combM, dif_neg h]
theorem comb_nil {n i : Nat} {leaf : List UInt8} {ps : List (List UInt8)} (h : 1 < n) (hp : ps.length = 0) : combM n i leaf ps = (zD, false) := by rw [combM, dif_pos h, if_pos hp]
theorem comb_lt {n i : Nat} {leaf : List UInt8} {ps : List (List UInt8)} (h : 1 < n) (hp : ¬ ps.length = 0) (hi : i < splitM n) :
    combM n i leaf ps = (nodeD (combM (splitM n) i leaf (ps.take (ps.length - 1))).1 (ps.getD (ps.length - 1) zD), (combM (splitM n) i leaf (ps.take (ps.length - 1))).2) := by rw [combM, dif_pos h, if_neg hp, if_pos hi]
theorem comb_ge {n i : Nat} {leaf : List UInt8} {ps : List (List UInt8)} (h : 1 < n) (hp : ¬ ps.length = 0) (hi : ¬ i < splitM n) :
    combM n i leaf ps = (nodeD (ps.getD (ps.length - 1) zD) (combM (n - splitM n) (i - splitM n) leaf (ps.take (ps.length - 1))).1, (combM (n - splitM n) (i - splitM n) leaf (ps.take (ps.length - 1))).2) := by rw [combM, dif_pos h, if_neg hp, if_neg hi]

theorem comb_len (n i : Nat) (leaf : List UInt8) (ps : List (List UInt8)) : (combM n i leaf ps).1.length = 16 := by
  by_cases h : 1 < n
  · by_cases hp : ps.length = 0
    · rw [comb_nil h hp]; simp [zD]
    · by_cases hi : i < splitM n
      · rw [comb_lt h hp hi]; exact dig_len _ _
      · rw [comb_ge h hp hi]; exact dig_len _ _
  · rw [comb_one h]; exact dig_len _ _

theorem take_last {ps : List (List UInt8)} (hp : ¬ ps.length = 0) : ps = ps.take (ps.length - 1) ++ [ps.getD (ps.length - 1) zD] := by
  have h1 : ps.length - 1 < ps.length := by omega
  have h2 := List.take_succ_eq_append_getElem h1
  rw [show ps.length - 1 + 1 = ps.length by omega, List.take_length] at h2
  rw [List.getD_eq_getElem?_getD, List.getElem?_eq_getElem h1]
  exact h2

theorem comb_law (leaf : List UInt8) : ∀ (m n i : Nat) (ps : List (List UInt8)), n ≤ m →
    (combM n i leaf ps).2 = decide ((sidesOf n i).length = ps.length) ∧ ((sidesOf n i).length = ps.length → (combM n i leaf ps).1 = upD (sidesOf n i).reverse ps (leafD leaf))
  | m, n, i, ps, hm => by
    by_cases h : 1 < n
    · have hb := splitM_bd h
      match m, hm with
      | 0, hm => omega
      | m + 1, hm =>
      by_cases hp : ps.length = 0
      · rw [comb_nil h hp]
        by_cases hi : i < splitM n
        · rw [sides_lt h hi]; simp [hp]
        · rw [sides_ge h hi]; simp [hp]
      · have hl : (ps.take (ps.length - 1)).length = ps.length - 1 := by simp
        have ht := take_last hp
        by_cases hi : i < splitM n
        · have ih := comb_law leaf m (splitM n) i (ps.take (ps.length - 1)) (by omega)
          rw [hl] at ih
          rw [comb_lt h hp hi, sides_lt h hi]
          refine ⟨?_, fun he => ?_⟩
          · rw [ih.1, List.length_cons]
            exact decide_eq_decide.2 (by omega)
          · rw [List.length_cons] at he
            have e2 := ih.2 (by omega)
            simp only [e2, List.reverse_cons]
            generalize ps.getD (ps.length - 1) zD = P at *
            generalize ps.take (ps.length - 1) = Q at *
            rw [ht, upD_snoc _ _ _ _ _ (by simp; omega)]
            rfl
        · have ih := comb_law leaf m (n - splitM n) (i - splitM n) (ps.take (ps.length - 1)) (by omega)
          rw [hl] at ih
          rw [comb_ge h hp hi, sides_ge h hi]
          refine ⟨?_, fun he => ?_⟩
          · rw [ih.1, List.length_cons]
            exact decide_eq_decide.2 (by omega)
          · rw [List.length_cons] at he
            have e2 := ih.2 (by omega)
            simp only [e2, List.reverse_cons]
            generalize ps.getD (ps.length - 1) zD = P at *
            generalize ps.take (ps.length - 1) = Q at *
            rw [ht, upD_snoc _ _ _ _ _ (by simp; omega)]
            rfl
    · rw [comb_one h, sides_one h]
      refine ⟨?_, fun he => ?_⟩
      · exact decide_eq_decide.2 (show ((ps.length : Int) = 0 ↔ 0 = ps.length) by omega)
      · rfl

theorem rcomb_spec : ∀ (m : Nat) (k : Bool) (n i : Nat) (leaf : List UInt8) (ps : List (List UInt8)), n ≤ m → m ≤ 1000000 → 1 ≤ n → i ≤ 1000000 → leaf.length = 16 → All16 ps → ps.length ≤ 1000000 →
    Spec Tryd.prog [] 104 [iv n, iv i, .agg (leaf.map bw), .ds k ps.length (fl ps)] [] (fun o => o = .ret (.tup [.agg ((combM n i leaf ps).1.map bw), bv (combM n i leaf ps).2]) [] []) := by
  intro m
  induction m using Nat.strongRecOn with
  | _ m ih =>
  intro k n i leaf ps hnm hm hn hi hl h16 hps
  refine spec_of TB 73 [.cell 8 23, .tmp 9] Tryd.func104 rfl rfl rfl (Nat.le_of_ble_eq_true rfl) ?_
  intro X w0 E0 hE hX
  have a1 : (leaf.map bw).length = 16 := by simp [hl]
  have a2 : List.take 16 (leaf.map bw) = leaf.map bw := List.take_of_length_le (by simp [hl])
  simp only [idx, List.map_nil, List.length_nil]
  refine AW_reg TB (fun D K hD hK => ?_)
  simp only [AwS, TS, AwD, aval, aIndex, aSlice, aLen, BN, BW, BS, Int.cast_ofNat_Int, spl, splice, bind, ↓reduceIte, simprocAttr, a1, a2]
  refine hD _ ?_
  clear hD hK D K
  refine AW_seq ?_
  refine AW_reg TB (fun D K hD hK => ?_)
  simp only [AwS, TS, AwD, aval, aIndex, aSlice, aLen, BN, BW, BS, Int.cast_ofNat_Int, spl, splice, bind, ↓reduceIte, simprocAttr]
  refine hD _ ?_
  clear hD hK D K
  refine AW_cond rfl (fun h1 => ?_) (fun h1 => AW_skip ?_)
  · have hn1 : ¬ 1 < n := by
      have : (n : Int) = 1 := by simpa using h1
      omega
    rw [comb_one hn1]
    have ls := rleaf_spec leaf hl
    refine AW_reg TB (fun D K hD hK => ?_)
    simp only [AwS, TS, AwD, aval, aIndex, aSlice, aLen, BN, BW, BS, Int.cast_ofNat_Int, spl, splice, bind, ↓reduceIte, simprocAttr, a1, a2]
    refine hK _ _ ?_
    clear hD hK D K
    refine AL_callPW rfl (.inl rfl) rfl rfl en_95 ls [] ?_ (by simp) (by simp) (by simp only [AV.map, bws_map]) ?_
    · simp [evs, St.ev, cav, alook, lendA, lentBx, lendC, blook, AVs.map, AV.map, ioMap, bws_map]
    have hdl0 := (show (leafD leaf).length = 16 from dig_len _ _)
    generalize leafD leaf = D0 at *
    have za0 : spl (List.replicate 16 (.val (.int .u8 0))) 0 (D0.map bw) = D0.map bw := spl_all (by simp [hdl0]) (by simp [hdl0])
    simp only [List.replicate] at za0
    have zb0 : List.take 16 (D0.map bw) = D0.map bw := List.take_of_length_le (by simp [hdl0])
    have zc0 : (D0.map bw).length = 16 := by simp [hdl0]
    refine AL_runR TB _ _ (fun D K hD hK => ?_)
    simp only [AwS, TS, AwD, aval, aIndex, aSlice, aLen, BN, BW, BS, Int.cast_ofNat_Int, spl, splice, bind, ↓reduceIte, simprocAttr, za0, zb0, zc0, bws_cell, bws_map, -spl]
    refine hD _ ?_
    clear hD hK D K
    refine AW_ret ?_
    simp only [Ret, seqQ]
    refine retp (.tup [.agg (D0.map bw), bv (decide ((ps.length : Int) = 0))]) rfl ?_ (by simp only [AV.map, AVs.map, bws_map]) rfl
    simp only [resOf, resAll, resAV, AwS, TS, AwD, aval, aIndex, aSlice, aLen, BN, BW, BS, Int.cast_ofNat_Int, spl, splice, bind, ↓reduceIte, simprocAttr, zb0, zc0]
  · have hbig : 1 < n := by
      have : ¬ (n : Int) = 1 := by simpa using h1
      omega
    obtain ⟨hs0, hs1⟩ := splitM_bd hbig
    simp only [seqQ]
    refine AW_seq ?_
    refine AW_reg TB (fun D K hD hK => ?_)
    simp only [AwS, TS, AwD, aval, aIndex, aSlice, aLen, BN, BW, BS, Int.cast_ofNat_Int, spl, splice, bind, ↓reduceIte, simprocAttr]
    refine hD _ ?_
    clear hD hK D K
    refine AW_cond rfl (fun h3 => ?_) (fun h3 => AW_skip ?_)
    · have hp0 : ps.length = 0 := by
        have : (ps.length : Int) = 0 := by simpa using h3
        omega
      rw [comb_nil hbig hp0]
      refine AW_reg TB (fun D K hD hK => ?_)
      simp only [AwS, TS, AwD, aval, aIndex, aSlice, aLen, BN, BW, BS, Int.cast_ofNat_Int, spl, splice, bind, ↓reduceIte, simprocAttr]
      refine hD _ ?_
      clear hD hK D K
      refine AW_ret ?_
      simp only [Ret, seqQ]
      refine retp (.tup [.agg (zD.map bw), bv false]) rfl ?_ (by simp only [AV.map, AVs.map, bws_map]) rfl
      simp [resOf, resAll, resAV, alook, blook, AV.known, loadC, AwS, TS, TD.isAgg, zD]
    · have hp0 : ¬ ps.length = 0 := by
        have : ¬ (ps.length : Int) = 0 := by simpa using h3
        omega
      have w1 : IntKind.i64.wrap ((ps.length : Int) - 1) = ((ps.length - 1 : Nat) : Int) := by rw [wrap_i64 (by omega) (by omega)]; omega
      have ss := rsplit_spec n (by omega) (by omega)
      have hlt' : ps.length - 1 < ps.length := by omega
      have y1 : (0 ≤ ((ps.length - 1 : Nat) : Int)) = True := eq_true (by omega)
      have y2 : (ps.length - 1 ≤ ps.length) = True := eq_true (by omega)
      have x4 : (0 ≤ ((ps.length - 1 : Nat) : Int) ∧ ((ps.length - 1 : Nat) : Int) < (ps.length : Int)) = True := eq_true (by omega)
      have hL := fl_take h16 (ps.length - 1) (by omega)
      have g2 := fl_get h16 (ps.length - 1) hlt'
      have hpe : ps.getD (ps.length - 1) zD = ps[ps.length - 1] := by rw [List.getD_eq_getElem?_getD, List.getElem?_eq_getElem hlt']; rfl
      have g3 : (16 ≤ (List.drop ((ps.length - 1) * 16) (fl ps)).length) = True := by
        rw [List.length_drop, fl_len h16]; exact eq_true (by omega)
      have hP := h16 _ (List.getElem_mem hlt')
      have ll : (ps.take (ps.length - 1)).length = ps.length - 1 := by simp
      have hT := h16.take (ps.length - 1)
      rw [← hpe] at g2 hP
      simp only [seqQ]
      refine AW_reg TB (fun D K hD hK => ?_)
      simp only [AwS, TS, AwD, aval, aIndex, aSlice, aLen, BN, BW, BS, Int.cast_ofNat_Int, spl, splice, bind, ↓reduceIte, simprocAttr, w1]
      refine hD _ ?_
      clear hD hK D K
      refine AW_reg TB (fun D K hD hK => ?_)
      simp only [AwS, TS, AwD, aval, aIndex, aSlice, aLen, BN, BW, BS, Int.cast_ofNat_Int, spl, splice, bind, ↓reduceIte, simprocAttr]
      refine hK _ _ ?_
      clear hD hK D K
      refine AL_callPW rfl (.inl rfl) rfl rfl en_96 ss [] ?_ (by simp) rfl rfl ?_
      · simp [evs, St.ev, cav, alook, lendA, lentBx, lendC, blook, AVs.map, AV.map, ioMap]
      refine AL_runR TB _ _ (fun D K hD hK => ?_)
      simp only [AwS, TS, AwD, aval, aIndex, aSlice, aLen, BN, BW, BS, Int.cast_ofNat_Int, spl, splice, bind, ↓reduceIte, simprocAttr]
      refine hD _ ?_
      clear hD hK D K
      refine AW_seq ?_
      refine AW_reg TB (fun D K hD hK => ?_)
      simp only [AwS, TS, AwD, aval, aIndex, aSlice, aLen, BN, BW, BS, Int.cast_ofNat_Int, spl, splice, bind, ↓reduceIte, simprocAttr]
      refine hD _ ?_
      clear hD hK D K
      refine AW_cond rfl (fun h2 => ?_) (fun h2 => AW_skip ?_)
      · have hlt : i < splitM n := by simpa using h2
        have ir := ih (splitM n) (by omega) k (splitM n) i leaf (ps.take (ps.length - 1)) (by omega) (by omega) (by omega) hi hl hT (by omega)
        rw [ll] at ir
        rw [comb_lt hbig hp0 hlt]
        have hrl := comb_len (splitM n) i leaf (ps.take (ps.length - 1))
        generalize combM (splitM n) i leaf (ps.take (ps.length - 1)) = r at *
        generalize ps.getD (ps.length - 1) zD = P at *
        obtain ⟨D1, ok⟩ := r
        dsimp only at ir hrl ⊢
        have z1 : spl (List.replicate 16 (.val (.int .u8 0))) 0 (D1.map bw) = D1.map bw := spl_all (by simp [hrl]) (by simp [hrl])
        simp only [List.replicate] at z1
        have z2 : List.take 16 (D1.map bw) = D1.map bw := List.take_of_length_le (by simp [hrl])
        have z3 : (D1.map bw).length = 16 := by simp [hrl]
        have p2 : List.take 16 (P.map bw) = P.map bw := List.take_of_length_le (by simp [hP])
        have p3 : (P.map bw).length = 16 := by simp [hP]
        have ns := rnode_spec D1 P hrl hP
        refine AW_dreg TB mx ([[], [], [], [], [], [3, 4], [0, 1, 2, 5, 3, 4], [6, 0, 1, 2, 5, 3, 4], [7, 6, 0, 1, 2, 5, 3, 4], [7, 6, 0, 1, 2, 5, 3, 4], [], [10, 8, 7, 6, 0, 1, 2, 5, 3, 4], [9, 7, 6, 0, 1, 2, 5, 3, 4, 11, 10, 8]]) (by kernel_rfl) (by kernel_rfl) (fun D K hD hK => ?_)
        simp only [AwS, TS, AwD, aval, aIndex, aSlice, aLen, BN, BW, BS, Int.cast_ofNat_Int, spl, splice, bind, ↓reduceIte, simprocAttr, Op.operands, Call.operands, List.toList_toArray, List.size_toArray, cmp, List.getD_cons_zero, List.getD_cons_succ, Array.toList_append, Option.toArray, List.append_toArray,  a1, a2, y1, y2, hL, Int.toNat_natCast, implies_true, Nat.sub_zero]
        refine hK _ _ _ _ ?_
        clear hD hK D K
        refine DL_callPW rfl rfl (.inl rfl) rfl rfl en_104 ir [] ?_ (by simp) (by simp) rfl (by simp only [AV.map, AVs.map, bws_map]) rfl ?_
        · simp [evs, St.ev, cav, alook, lendA, lentBx, lendC, blook, AVs.map, AV.map, ioMap, bws_map, fl_map]
        refine DL_rest TB rfl (fun D K hD hK => ?_)
        simp only [AwS, TS, AwD, aval, aIndex, aSlice, aLen, BN, BW, BS, Int.cast_ofNat_Int, spl, splice, bind, ↓reduceIte, simprocAttr, Op.operands, Call.operands, List.toList_toArray, List.size_toArray, cmp, List.getD_cons_zero, List.getD_cons_succ, Array.toList_append, Option.toArray, List.append_toArray, z1, z2, z3, bws_cell, bws_map, -spl]
        refine hD _ ?_
        clear hD hK D K
        refine AW_dreg TB mx ([[], [], [], [1, 2], [3, 1, 2], [0, 4, 3, 1, 2], [], [5, 0, 4, 3, 1, 2], [6, 7, 5, 0, 4, 3, 1, 2]]) (by kernel_rfl) (by kernel_rfl) (fun D K hD hK => ?_)
        simp only [AwS, TS, AwD, aval, aIndex, aSlice, aLen, BN, BW, BS, Int.cast_ofNat_Int, spl, splice, bind, ↓reduceIte, simprocAttr, Op.operands, Call.operands, List.toList_toArray, List.size_toArray, cmp, List.getD_cons_zero, List.getD_cons_succ, Array.toList_append, Option.toArray, List.append_toArray,  z1, z2, z3, x4, g2, g3, p2, p3, Int.toNat_natCast]
        refine hK _ _ _ _ ?_
        clear hD hK D K
        refine DL_callPW rfl rfl (.inl rfl) rfl rfl en_97 ns [] ?_ (by simp) (by simp) rfl (by simp only [AV.map, bws_map]) rfl ?_
        · simp [evs, St.ev, cav, alook, lendA, lentBx, lendC, blook, AVs.map, AV.map, ioMap, bws_map]
        have hdl0 := (show (nodeD D1 P).length = 16 from dig_len _ _)
        generalize nodeD D1 P = D0 at *
        have za0 : spl (List.replicate 16 (.val (.int .u8 0))) 0 (D0.map bw) = D0.map bw := spl_all (by simp [hdl0]) (by simp [hdl0])
        simp only [List.replicate] at za0
        have zb0 : List.take 16 (D0.map bw) = D0.map bw := List.take_of_length_le (by simp [hdl0])
        have zc0 : (D0.map bw).length = 16 := by simp [hdl0]
        refine DL_rest TB rfl (fun D K hD hK => ?_)
        simp only [AwS, TS, AwD, aval, aIndex, aSlice, aLen, BN, BW, BS, Int.cast_ofNat_Int, spl, splice, bind, ↓reduceIte, simprocAttr, Op.operands, Call.operands, List.toList_toArray, List.size_toArray, cmp, List.getD_cons_zero, List.getD_cons_succ, Array.toList_append, Option.toArray, List.append_toArray, za0, zb0, zc0, bws_cell, bws_map, -spl]
        refine hD _ ?_
        clear hD hK D K
        refine AW_ret ?_
        simp only [Ret, seqQ]
        refine retp (.tup [.agg (D0.map bw), bv ok]) rfl ?_ (by simp only [AV.map, AVs.map, bws_map]) rfl
        simp only [resOf, resAll, resAV, AwS, TS, AwD, aval, aIndex, aSlice, aLen, BN, BW, BS, Int.cast_ofNat_Int, spl, splice, bind, ↓reduceIte, simprocAttr, zb0, zc0]
      · have hge : ¬ i < splitM n := by simpa using h2
        have w2 : IntKind.i64.wrap ((n : Int) - (splitM n : Int)) = ((n - splitM n : Nat) : Int) := by rw [wrap_i64 (by omega) (by omega)]; omega
        have w3 : IntKind.i64.wrap ((i : Int) - (splitM n : Int)) = ((i - splitM n : Nat) : Int) := by rw [wrap_i64 (by omega) (by omega)]; omega
        have ir := ih (n - splitM n) (by omega) k (n - splitM n) (i - splitM n) leaf (ps.take (ps.length - 1)) (by omega) (by omega) (by omega) (by omega) hl hT (by omega)
        rw [ll] at ir
        rw [comb_ge hbig hp0 hge]
        have hrl := comb_len (n - splitM n) (i - splitM n) leaf (ps.take (ps.length - 1))
        generalize combM (n - splitM n) (i - splitM n) leaf (ps.take (ps.length - 1)) = r at *
        generalize ps.getD (ps.length - 1) zD = P at *
        obtain ⟨D1, ok⟩ := r
        dsimp only at ir hrl ⊢
        have z1 : spl (List.replicate 16 (.val (.int .u8 0))) 0 (D1.map bw) = D1.map bw := spl_all (by simp [hrl]) (by simp [hrl])
        simp only [List.replicate] at z1
        have z2 : List.take 16 (D1.map bw) = D1.map bw := List.take_of_length_le (by simp [hrl])
        have z3 : (D1.map bw).length = 16 := by simp [hrl]
        have p2 : List.take 16 (P.map bw) = P.map bw := List.take_of_length_le (by simp [hP])
        have p3 : (P.map bw).length = 16 := by simp [hP]
        have ns := rnode_spec P D1 hP hrl
        simp only [seqQ]
        refine AW_dreg TB mx ([[], [], [0, 1], [], [], [3, 4], [], [], [], [7, 8], [2, 0, 1, 5, 3, 4, 6, 9, 7, 8], [10, 2, 0, 1, 5, 3, 4, 6, 9, 7, 8], [11, 10, 2, 0, 1, 5, 3, 4, 6, 9, 7, 8], [11, 10, 2, 0, 1, 5, 3, 4, 6, 9, 7, 8], [], [14, 12, 11, 10, 2, 0, 1, 5, 3, 4, 6, 9, 7, 8], [13, 11, 10, 2, 0, 1, 5, 3, 4, 6, 9, 7, 8, 15, 14, 12]]) (by kernel_rfl) (by kernel_rfl) (fun D K hD hK => ?_)
        simp only [AwS, TS, AwD, aval, aIndex, aSlice, aLen, BN, BW, BS, Int.cast_ofNat_Int, spl, splice, bind, ↓reduceIte, simprocAttr, Op.operands, Call.operands, List.toList_toArray, List.size_toArray, cmp, List.getD_cons_zero, List.getD_cons_succ, Array.toList_append, Option.toArray, List.append_toArray,  a1, a2, w2, w3, y1, y2, hL, Int.toNat_natCast, implies_true, Nat.sub_zero]
        refine hK _ _ _ _ ?_
        clear hD hK D K
        refine DL_callPW rfl rfl (.inl rfl) rfl rfl en_104 ir [] ?_ (by simp) (by simp) rfl (by simp only [AV.map, AVs.map, bws_map]) rfl ?_
        · simp [evs, St.ev, cav, alook, lendA, lentBx, lendC, blook, AVs.map, AV.map, ioMap, bws_map, fl_map, w2, w3]
        refine DL_rest TB rfl (fun D K hD hK => ?_)
        simp only [AwS, TS, AwD, aval, aIndex, aSlice, aLen, BN, BW, BS, Int.cast_ofNat_Int, spl, splice, bind, ↓reduceIte, simprocAttr, Op.operands, Call.operands, List.toList_toArray, List.size_toArray, cmp, List.getD_cons_zero, List.getD_cons_succ, Array.toList_append, Option.toArray, List.append_toArray, z1, z2, z3, bws_cell, bws_map, -spl]
        refine hD _ ?_
        clear hD hK D K
        refine AW_dreg TB mx ([[], [], [0, 1], [2, 0, 1], [], [3, 2, 0, 1, 4], [], [5, 3, 2, 0, 1, 4], [6, 7, 5, 3, 2, 0, 1, 4]]) (by kernel_rfl) (by kernel_rfl) (fun D K hD hK => ?_)
        simp only [AwS, TS, AwD, aval, aIndex, aSlice, aLen, BN, BW, BS, Int.cast_ofNat_Int, spl, splice, bind, ↓reduceIte, simprocAttr, Op.operands, Call.operands, List.toList_toArray, List.size_toArray, cmp, List.getD_cons_zero, List.getD_cons_succ, Array.toList_append, Option.toArray, List.append_toArray,  z1, z2, z3, x4, g2, g3, p2, p3, Int.toNat_natCast]
        refine hK _ _ _ _ ?_
        clear hD hK D K
        refine DL_callPW rfl rfl (.inl rfl) rfl rfl en_97 ns [] ?_ (by simp) (by simp) rfl (by simp only [AV.map, bws_map]) rfl ?_
        · simp [evs, St.ev, cav, alook, lendA, lentBx, lendC, blook, AVs.map, AV.map, ioMap, bws_map]
        have hdl0 := (show (nodeD P D1).length = 16 from dig_len _ _)
        generalize nodeD P D1 = D0 at *
        have za0 : spl (List.replicate 16 (.val (.int .u8 0))) 0 (D0.map bw) = D0.map bw := spl_all (by simp [hdl0]) (by simp [hdl0])
        simp only [List.replicate] at za0
        have zb0 : List.take 16 (D0.map bw) = D0.map bw := List.take_of_length_le (by simp [hdl0])
        have zc0 : (D0.map bw).length = 16 := by simp [hdl0]
        refine DL_rest TB rfl (fun D K hD hK => ?_)
        simp only [AwS, TS, AwD, aval, aIndex, aSlice, aLen, BN, BW, BS, Int.cast_ofNat_Int, spl, splice, bind, ↓reduceIte, simprocAttr, Op.operands, Call.operands, List.toList_toArray, List.size_toArray, cmp, List.getD_cons_zero, List.getD_cons_succ, Array.toList_append, Option.toArray, List.append_toArray, za0, zb0, zc0, bws_cell, bws_map, -spl]
        refine hD _ ?_
        clear hD hK D K
        refine AW_ret ?_
        simp only [Ret, seqQ]
        refine retp (.tup [.agg (D0.map bw), bv ok]) rfl ?_ (by simp only [AV.map, AVs.map, bws_map]) rfl
        simp only [resOf, resAll, resAV, AwS, TS, AwD, aval, aIndex, aSlice, aLen, BN, BW, BS, Int.cast_ofNat_Int, spl, splice, bind, ↓reduceIte, simprocAttr, zb0, zc0]

end Go.Proofs.YtgbpgplkhifgiaaDoor

/- The walks of bootchainref03.Verify and of bootchainref05's keys and Root. No condition. -/
set_option linter.unusedVariables false
set_option linter.unusedSimpArgs false
set_option maxRecDepth 100000
namespace Go.Proofs.YtgbpgplkhifgiaaDoor
open Go Go.RowKit

theorem rverify_spec (k : Bool) (root : List UInt8) (n i : Nat) (leaf : List UInt8) (ps : List (List UInt8)) (hr : root.length = 16) (hl : leaf.length = 16) (h16 : All16 ps) (hps : ps.length ≤ 1000000) (hn : n ≤ 1000000) (hi : i < n) :
    Spec Tryd.prog [] 65 [.agg (root.map bw), iv n, iv i, .agg (leaf.map bw), .ds k ps.length (fl ps)] [] (fun o => o = .ret (bv (verM root n i leaf ps)) [] []) := by
  refine spec_of TB 34 [.tmp 10] Tryd.func65 rfl rfl rfl (Nat.le_of_ble_eq_true rfl) ?_
  intro X w0 E0 hE hX
  have e1 : decide ((i : Int) < 0) = false := decide_eq_false (by omega)
  have e2 : decide ((n : Int) ≤ (i : Int)) = false := decide_eq_false (by omega)
  have a1 : (leaf.map bw).length = 16 := by simp [hl]
  have a2 : List.take 16 (leaf.map bw) = leaf.map bw := List.take_of_length_le (by simp [hl])
  have r1 : (root.map bw).length = 16 := by simp [hr]
  have r2 : List.take 16 (root.map bw) = root.map bw := List.take_of_length_le (by simp [hr])
  simp only [idx, List.map_nil, List.length_nil]
  refine AW_reg TB (fun D K hD hK => ?_)
  simp only [AwS, TS, AwD, aval, aIndex, aSlice, aLen, BN, BW, BS, Int.cast_ofNat_Int, spl, splice, bind, ↓reduceIte, simprocAttr, a1, r1]
  refine hD _ ?_
  clear hD hK D K
  refine AW_seq ?_
  refine AW_reg TB (fun D K hD hK => ?_)
  simp only [AwS, TS, AwD, aval, aIndex, aSlice, aLen, BN, BW, BS, Int.cast_ofNat_Int, spl, splice, bind, ↓reduceIte, simprocAttr, e1, e2]
  refine hD _ ?_
  clear hD hK D K
  refine AW_false rfl (AW_skip ?_)
  have cs := rcomb_spec n k n i leaf ps (by omega) hn (by omega) (by omega) hl h16 hps
  have cl := comb_law leaf n n i ps (by omega)
  have cn := comb_len n i leaf ps
  generalize combM n i leaf ps = r at *
  obtain ⟨D1, ok⟩ := r
  dsimp only at cs cl cn
  have z1 : spl (List.replicate 16 (.val (.int .u8 0))) 0 (D1.map bw) = D1.map bw := spl_all (by simp [cn]) (by simp [cn])
  simp only [List.replicate] at z1
  have z2 : List.take 16 (D1.map bw) = D1.map bw := List.take_of_length_le (by simp [cn])
  have z3 : (D1.map bw).length = 16 := by simp [cn]
  simp only [seqQ]
  refine AW_reg TB (fun D K hD hK => ?_)
  simp only [AwS, TS, AwD, aval, aIndex, aSlice, aLen, BN, BW, BS, Int.cast_ofNat_Int, spl, splice, bind, ↓reduceIte, simprocAttr, a1, a2]
  refine hK _ _ ?_
  clear hD hK D K
  refine AL_callPW rfl (.inl rfl) rfl rfl en_104 cs [] ?_ (by simp) (by simp) (by simp only [AV.map, AVs.map, bws_map]) ?_
  · simp [evs, St.ev, cav, alook, lendA, lentBx, lendC, blook, AVs.map, AV.map, ioMap, bws_map, fl_map]
  refine AL_runR TB _ _ (fun D K hD hK => ?_)
  simp only [AwS, TS, AwD, aval, aIndex, aSlice, aLen, BN, BW, BS, Int.cast_ofNat_Int, spl, splice, bind, ↓reduceIte, simprocAttr, z1, z3, bws_cell, bws_map, -spl]
  refine hD _ ?_
  clear hD hK D K
  cases ok with
  | false =>
    have hv : verM root n i leaf ps = false := by
      unfold verM
      rw [← cl.1, Bool.false_and]
    refine AW_reg TB (fun D K hD hK => ?_)
    simp only [AwS, TS, AwD, aval, aIndex, aSlice, aLen, BN, BW, BS, Int.cast_ofNat_Int, spl, splice, bind, ↓reduceIte, simprocAttr]
    refine hD _ ?_
    clear hD hK D K
    refine AW_ret ?_
    simp only [Ret]
    refine retp (bv false) rfl ?_ rfl (by rw [hv])
    simp [resOf, resAll, resAV, alook, blook, AV.known, loadC, AwS, TS, TD.isAgg]
  | true =>
    have hls : (sidesOf n i).length = ps.length := of_decide_eq_true cl.1.symm
    have hv : verM root n i leaf ps = decide (D1 = root) := by
      unfold verM
      rw [← cl.1, Bool.true_and, ← cl.2 hls]
    have e5 := eqL_bws D1 root (by omega)
    have e6 := fun ti hd => fits_bws ti .u8 hd D1
    refine AW_reg TB (fun D K hD hK => ?_)
    simp only [AwS, TS, AwD, aval, aIndex, aSlice, aLen, BN, BW, BS, Int.cast_ofNat_Int, spl, splice, bind, ↓reduceIte, simprocAttr, z2, z3, r1, r2, e5, e6]
    refine hD _ ?_
    clear hD hK D K
    refine AW_ret ?_
    simp only [Ret]
    refine retp (bv (decide (D1 = root))) rfl ?_ rfl (by rw [hv])
    simp [resOf, resAll, resAV, alook, blook, AV.known, loadC, AwS, TS, TD.isAgg]

def rkeF (seed : List UInt8) (h i : Nat) : St :=
  { nt := 20, nx := 2, tm := [(6, iv (i : Nat)), (5, .sl 1 0 i 16 (some 23)), (2, .ptr 0 0), (1, iv (h : Nat))], bx := [(0, some (seed.map bw)), (1, some (fl (pubs seed i)))], gl := [], df := [] }

theorem rkeys_spec (seed : List UInt8) (h : Nat) (hh : h ≤ 4) (hs : seed.length = 16) :
    Spec Tryd.prog [] 58 [.agg (seed.map bw), iv (h : Nat)] [] (fun o => o = .ret (.sl 0 0 (2 ^ h) 16 (some 23)) [] [fl (pubs seed (2 ^ h))]) := by
  refine spec_of TB 20 [.tmp 4] Tryd.func58 rfl rfl rfl (Nat.le_of_ble_eq_true rfl) ?_
  intro X w0 E0 hE hX
  have s1 : (seed.map bw).length = 16 := by simp [hs]
  have s2 : List.take 16 (seed.map bw) = seed.map bw := List.take_of_length_le (by simp [hs])
  have ms := many_spec (h : Int)
  rw [manyZ_nat h hh] at ms
  have hp2 : 2 ^ h ≤ 2 ^ 4 := Nat.pow_le_pow_right (by omega) hh
  simp only [idx, List.map_nil, List.length_nil]
  refine AW_reg TB (fun D K hD hK => ?_)
  simp only [AwS, TS, AwD, aval, aIndex, aSlice, aLen, BN, BW, BS, Int.cast_ofNat_Int, spl, splice, bind, ↓reduceIte, simprocAttr, s1]
  refine hD _ ?_
  clear hD hK D K
  refine AW_reg TB (fun D K hD hK => ?_)
  simp only [AwS, TS, AwD, aval, aIndex, aSlice, aLen, BN, BW, BS, Int.cast_ofNat_Int, spl, splice, bind, ↓reduceIte, simprocAttr]
  refine hD _ ?_
  clear hD hK D K
  refine AW_seqk (fun K0 hK0 => ?_)
  refine AW_reg TB (fun D K hD hK => ?_)
  simp only [AwS, TS, AwD, aval, aIndex, aSlice, aLen, BN, BW, BS, Int.cast_ofNat_Int, spl, splice, bind, ↓reduceIte, simprocAttr]
  refine hD _ ?_
  clear hD hK D K
  refine AW_block ?_
  generalize 2 ^ h = N at *
  refine AW_loop (rkeF seed h) (fun i => i ≤ N) (fun i => N - i) hE 0 [(0, 0), (1, 16)] (by omega) ?_ ?_
  · refine ⟨rfl, by simp [rkeF, pubs, fl, alook, AV.map, AVs.map, bws_map, fl_map], ⟨rfl, rfl⟩, ?_, ?_, by simp [rkeF, pubs, fl], by simp [rkeF, pubs, fl, nmap], ?_⟩
    · simp [rkeF, pubs, fl, alook, AV.map, AVs.map, nmap, AVs_map_append, ivs_map, yvs_map, bws_map, fl_map]
    · simp [rkeF, pubs, fl, blook, AV.map, AVs.map, nmap, AVs_map_append, ivs_map, yvs_map, bws_map, fl_map]
    · intro k hk
      have hk2 : k < 0 := hk
      omega
  intro i hi
  simp only [rkeF]
  refine AW_seq ?_
  refine AW_reg TB (fun D K hD hK => ?_)
  simp only [AwS, TS, AwD, aval, aIndex, aSlice, aLen, BN, BW, BS, Int.cast_ofNat_Int, spl, splice, bind, ↓reduceIte, simprocAttr]
  refine hK _ _ ?_
  clear hD hK D K
  refine AL_callPW rfl (.inl rfl) rfl rfl en_28 ms [] ?_ (by simp) rfl rfl ?_
  · simp [evs, St.ev, cav, alook, lendA, lentBx, lendC, blook, AVs.map, AV.map, ioMap]
  refine AL_runR TB _ _ (fun D K hD hK => ?_)
  simp only [AwS, TS, AwD, aval, aIndex, aSlice, aLen, BN, BW, BS, Int.cast_ofNat_Int, spl, splice, bind, ↓reduceIte, simprocAttr]
  refine hD _ ?_
  clear hD hK D K
  refine AW_cond rfl (fun h5 => AW_skip ?_) (fun h5 => AW_exit ?_)
  · have hlt : i < N := by
      have : (i : Int) < (N : Int) := by simpa using h5
      omega
    have w1 : IntKind.i64.wrap ((i : Int) + 1) = (i : Int) + 1 := wrap_i64 (by omega) (by omega)
    have hpl := pubW_len seed (i : Int)
    have hps := pubs_fl seed i
    have hfl : (fl (pubs seed i)).length = i * 16 := by rw [fl_len (pubs_16 seed i), pubs_len]
    have ps := rpublic_spec seed (i : Int) hs (by omega) (by omega)
    have c1 : (i + 1 ≤ 4294967296) = True := eq_true (by omega)
    have c2 : (i ≤ 4294967295) = True := eq_true (by omega)
    simp only [seqQ]
    refine AW_seqk (fun K1 hK1 => ?_)
    refine AW_block ?_
    refine AW_regl TB (fun D K hD hK => ?_)
    simp only [AwS, TS, AwD, aval, aIndex, aSlice, aLen, BN, BW, BS, Int.cast_ofNat_Int, spl, splice, bind, ↓reduceIte, simprocAttr, s1, s2]
    refine hK _ _ ?_
    clear hD hK D K
    refine AL_callPW rfl (.inl rfl) rfl rfl en_98 ps [] ?_ (by simp) (by simp) (by simp only [AV.map, bws_map]) ?_
    · simp [evs, St.ev, cav, alook, lendA, lentBx, lendC, blook, AVs.map, AV.map, ioMap, bws_map]
    generalize pubs seed i = R at *
    generalize pubW seed i = B at *
    have z1 : spl (List.replicate 16 (.val (.int .u8 0))) 0 (B.map bw) = B.map bw := spl_all (by simp [hpl]) (by simp [hpl])
    have y5 : splice (List.replicate 16 (.val (.int .u8 0))) 0 (B.map bw) = B.map bw := by simp [splice, hpl]
    simp only [List.replicate] at z1 y5
    have z2 : List.take 16 (B.map bw) = B.map bw := List.take_of_length_le (by simp [hpl])
    have z3 : (B.map bw).length = 16 := by simp [hpl]
    refine AL_runR TB _ _ (fun D K hD hK => ?_)
    simp only [AwS, TS, AwD, aval, aIndex, aSlice, aLen, BN, BW, BS, Int.cast_ofNat_Int, spl, splice, bind, ↓reduceIte, simprocAttr, z1, y5, z2, z3, c1, c2, hfl, bws_cell, bws_map, -spl, -splice]
    refine hD _ ?_
    clear hD hK D K
    simp only [blockQ]
    refine hK1 _ ?_
    refine AW_regl TB (fun D K hD hK => ?_)
    simp only [AwS, TS, AwD, aval, aIndex, aSlice, aLen, BN, BW, BS, Int.cast_ofNat_Int, spl, splice, bind, ↓reduceIte, simprocAttr, w1]
    refine hD _ ?_
    clear hD hK D K
    refine ⟨i + 1, [(0, 0), (1, 74)], by omega, by dsimp only; omega, ?_⟩
    refine ⟨rfl, by simp [rkeF, alook, AV.map, AVs.map, bws_map, fl_map, hps], ⟨rfl, rfl⟩, ?_, ?_, by simp [rkeF], by simp [rkeF, nmap], ?_⟩
    · simp [rkeF, alook, AV.map, AVs.map, nmap, AVs_map_append, ivs_map, yvs_map, bws_map, fl_map, hps]
    · simp [rkeF, blook, AV.map, AVs.map, nmap, AVs_map_append, ivs_map, yvs_map, bws_map, fl_map, hps]
    · intro k hk
      have hk2 : k < 0 := hk
      omega
  · have hge : i = N := by
      have : ¬ (i : Int) < (N : Int) := by simpa using h5
      omega
    subst hge
    refine hK0 _ ?_
    refine AW_reg TB (fun D K hD hK => ?_)
    simp only [AwS, TS, AwD, aval, aIndex, aSlice, aLen, BN, BW, BS, Int.cast_ofNat_Int, spl, splice, bind, ↓reduceIte, simprocAttr]
    refine hD _ ?_
    clear hD hK D K
    refine AW_ret ?_
    simp only [Ret]
    exact ret_sl _ _ _ _ _ rfl rfl rfl (fun f => fl_map f _) rfl


theorem rrootT_spec (seed : List UInt8) (h : Nat) (hh : h ≤ 4) (hs : seed.length = 16) :
    Spec Tryd.prog [] 21 [.agg (seed.map bw), iv (h : Nat)] [] (fun o => o = .ret (.tup [.agg ((rootW seed h).map bw), .val (.int .i64 0)]) [] []) := by
  refine spec_of TB 14 [.cell 4 23, .tmp 5] Tryd.func21 rfl rfl rfl (Nat.le_of_ble_eq_true rfl) ?_
  intro X w0 E0 hE hX
  have s1 : (seed.map bw).length = 16 := by simp [hs]
  have s2 : List.take 16 (seed.map bw) = seed.map bw := List.take_of_length_le (by simp [hs])
  have ms := many_spec (h : Int)
  rw [manyZ_nat h hh] at ms
  have hp1 : 1 ≤ 2 ^ h := Nat.one_le_two_pow
  have hp2 : 2 ^ h ≤ 2 ^ 4 := Nat.pow_le_pow_right (by omega) hh
  have e1 : decide (((2 ^ h : Nat) : Int) = 0) = false := decide_eq_false (by omega)
  simp only [idx, List.map_nil, List.length_nil]
  refine AW_reg TB (fun D K hD hK => ?_)
  simp only [AwS, TS, AwD, aval, aIndex, aSlice, aLen, BN, BW, BS, Int.cast_ofNat_Int, spl, splice, bind, ↓reduceIte, simprocAttr, s1]
  refine hD _ ?_
  clear hD hK D K
  refine AW_seq ?_
  refine AW_reg TB (fun D K hD hK => ?_)
  simp only [AwS, TS, AwD, aval, aIndex, aSlice, aLen, BN, BW, BS, Int.cast_ofNat_Int, spl, splice, bind, ↓reduceIte, simprocAttr]
  refine hK _ _ ?_
  clear hD hK D K
  refine AL_callPW rfl (.inl rfl) rfl rfl en_28 ms [] ?_ (by simp) rfl rfl ?_
  · simp [evs, St.ev, cav, alook, lendA, lentBx, lendC, blook, AVs.map, AV.map, ioMap]
  refine AL_runR TB _ _ (fun D K hD hK => ?_)
  simp only [AwS, TS, AwD, aval, aIndex, aSlice, aLen, BN, BW, BS, Int.cast_ofNat_Int, spl, splice, bind, ↓reduceIte, simprocAttr, e1]
  refine hD _ ?_
  clear hD hK D K
  refine AW_false rfl (AW_skip ?_)
  have ks := rkeys_spec seed h hh hs
  have hpn : (pubs seed (2 ^ h)).length = 2 ^ h := pubs_len _ _
  have hp16 := pubs_16 seed (2 ^ h)
  have hfl : (fl (pubs seed (2 ^ h))).length = 2 ^ h * 16 := by rw [fl_len hp16, hpn]
  have rs := rroot_spec (2 ^ h) false (pubs seed (2 ^ h)) (by omega) (by omega) (by omega) hp16
  have hdl : (rootW seed h).length = 16 := by unfold rootW; exact mroot_len _
  have hrw : mroot (pubs seed (2 ^ h)) = rootW seed h := rfl
  rw [hrw, hpn] at rs
  have lendC_fl : ∀ f, List.map (lendC f) (fl (pubs seed (2 ^ h))) = fl (pubs seed (2 ^ h)) := fun f => lendC_bws f _
  have fl_tk : List.take (2 ^ h * 16) (fl (pubs seed (2 ^ h))) = fl (pubs seed (2 ^ h)) := List.take_of_length_le (by omega)
  have flk := fl_kept (pubs seed (2 ^ h))
  generalize rootW seed h = d at *
  generalize 2 ^ h = N at *
  simp only [seqQ]
  refine AW_reg TB (fun D K hD hK => ?_)
  simp only [AwS, TS, AwD, aval, aIndex, aSlice, aLen, BN, BW, BS, Int.cast_ofNat_Int, spl, splice, bind, ↓reduceIte, simprocAttr, s1, s2]
  refine hK _ _ ?_
  clear hD hK D K
  refine AL_callD rfl rfl rfl rfl en_58 ks [] [] rfl (by simp) (by simp) ?_ (by simp) (by simp) rfl (by simp) ?_
  · simp [evs, St.ev, cav, alook, lendA, lentBx, lendC, blook, AVs.map, AV.map, ioMap, bws_map]
  refine AL_runR TB _ _ (fun D K hD hK => ?_)
  simp only [AwS, TS, AwD, aval, aIndex, aSlice, aLen, BN, BW, BS, Int.cast_ofNat_Int, spl, splice, bind, ↓reduceIte, simprocAttr, bws_map, fl_map]
  refine hK _ _ ?_
  clear hD hK D K
  refine AL_callPW rfl (.inl rfl) rfl rfl en_57 rs [64] ?_ (by simp [blook]) (by simp [AV.kept, bws_kept]) (by simp only [AV.map, bws_map]) ?_
  · simp [evs, St.ev, cav, alook, lendA, lentBx, lendC, blook, AVs.map, AV.map, ioMap, hfl, fl_map, -List.map_map, lendC_fl, fl_tk]
  have z1 : spl (List.replicate 16 (.val (.int .u8 0))) 0 (d.map bw) = d.map bw := spl_all (by simp [hdl]) (by simp [hdl])
  simp only [List.replicate] at z1
  have z2 : List.take 16 (d.map bw) = d.map bw := List.take_of_length_le (by simp [hdl])
  have z3 : (d.map bw).length = 16 := by simp [hdl]
  refine AL_runR TB _ _ (fun D K hD hK => ?_)
  simp only [AwS, TS, AwD, aval, aIndex, aSlice, aLen, BN, BW, BS, Int.cast_ofNat_Int, spl, splice, bind, ↓reduceIte, simprocAttr, z1, z3, bws_cell, bws_map, -spl]
  refine hD _ ?_
  clear hD hK D K
  refine AW_ret ?_
  simp only [Ret]
  refine retp (.tup [.agg (d.map bw), .val (.int .i64 0)]) rfl ?_ (by simp only [AV.map, AVs.map, bws_map]) rfl
  simp only [resOf, resAll, resAV, AwS, TS, AwD, aval, aIndex, aSlice, aLen, BN, BW, BS, Int.cast_ofNat_Int, spl, splice, bind, ↓reduceIte, simprocAttr, z2, z3]

theorem rrootT_bad (seed : List UInt8) (h : Int) (hs : seed.length = 16) (hh : ¬ (0 ≤ h ∧ h ≤ 4)) :
    Spec Tryd.prog [] 21 [.agg (seed.map bw), iv h] [] (fun o => o = .ret (.tup [.agg (zB 16), .val (.int .i64 1)]) [] []) := by
  refine spec_of TB 14 [.cell 4 23, .tmp 5] Tryd.func21 rfl rfl rfl (Nat.le_of_ble_eq_true rfl) ?_
  intro X w0 E0 hE hX
  have s1 : (seed.map bw).length = 16 := by simp [hs]
  have ms := many_spec h
  rw [show manyZ h = 0 from if_neg hh] at ms
  simp only [idx, List.map_nil, List.length_nil]
  refine AW_reg TB (fun D K hD hK => ?_)
  simp only [AwS, TS, AwD, aval, aIndex, aSlice, aLen, BN, BW, BS, Int.cast_ofNat_Int, spl, splice, bind, ↓reduceIte, simprocAttr, s1]
  refine hD _ ?_
  clear hD hK D K
  refine AW_seq ?_
  refine AW_reg TB (fun D K hD hK => ?_)
  simp only [AwS, TS, AwD, aval, aIndex, aSlice, aLen, BN, BW, BS, Int.cast_ofNat_Int, spl, splice, bind, ↓reduceIte, simprocAttr]
  refine hK _ _ ?_
  clear hD hK D K
  refine AL_callPW rfl (.inl rfl) rfl rfl en_28 ms [] ?_ (by simp) rfl rfl ?_
  · simp [evs, St.ev, cav, alook, lendA, lentBx, lendC, blook, AVs.map, AV.map, ioMap]
  refine AL_runR TB _ _ (fun D K hD hK => ?_)
  simp only [AwS, TS, AwD, aval, aIndex, aSlice, aLen, BN, BW, BS, Int.cast_ofNat_Int, spl, splice, bind, ↓reduceIte, simprocAttr]
  refine hD _ ?_
  clear hD hK D K
  refine AW_true rfl ?_
  refine AW_reg TB (fun D K hD hK => ?_)
  simp only [AwS, TS, AwD, aval, aIndex, aSlice, aLen, BN, BW, BS, Int.cast_ofNat_Int, spl, splice, bind, ↓reduceIte, simprocAttr]
  refine hD _ ?_
  clear hD hK D K
  refine AW_ret ?_
  simp only [seqQ, Ret]
  refine retp (.tup [.agg (zB 16), .val (.int .i64 1)]) rfl ?_ rfl rfl
  simp only [resOf, resAll, resAV, AwS, TS, AwD, aval, aIndex, aSlice, aLen, BN, BW, BS, Int.cast_ofNat_Int, spl, splice, bind, ↓reduceIte, simprocAttr]
  rfl

end Go.Proofs.YtgbpgplkhifgiaaDoor

/- The walk of bootchainref05.Sign. No condition. -/
set_option linter.unusedVariables false
set_option linter.unusedSimpArgs false
set_option maxRecDepth 100000
namespace Go.Proofs.YtgbpgplkhifgiaaDoor
open Go Go.RowKit

theorem rtsign_spec (seed : List UInt8) (h i : Nat) (m : List UInt8) (hh : h ≤ 4) (hi : i < 2 ^ h) (hs : seed.length = 16) (hm : m.length = 16) :
    Spec Tryd.prog [] 23 [.agg (seed.map bw), iv (h : Nat), iv (i : Nat), .agg (m.map bw)] [] (fun o => o = .ret (.tup [sigA (i : Nat) true true (sigL seed i m 68) (pathW seed h i), iv 0]) [] []) := by
  refine spec_of TB 40 [.cell 8 45, .tmp 9] Tryd.func23 rfl rfl rfl (Nat.le_of_ble_eq_true rfl) ?_
  intro X w0 E0 hE hX
  have hX0 : ∀ g, ¬ X g := fun g hg => by obtain ⟨q, hq, _⟩ := hX g hg; simp at hq
  have s1 : (seed.map bw).length = 16 := by simp [hs]
  have s2 : List.take 16 (seed.map bw) = seed.map bw := List.take_of_length_le (by simp [hs])
  have m1 : (m.map bw).length = 16 := by simp [hm]
  have m2 : List.take 16 (m.map bw) = m.map bw := List.take_of_length_le (by simp [hm])
  have ms := many_spec (h : Int)
  rw [manyZ_nat h hh] at ms
  have hp1 : 1 ≤ 2 ^ h := Nat.one_le_two_pow
  have hp2 : 2 ^ h ≤ 2 ^ 4 := Nat.pow_le_pow_right (by omega) hh
  have e1 : decide (((2 ^ h : Nat) : Int) = 0) = false := decide_eq_false (by omega)
  have i1 : decide ((i : Int) < 0) = false := decide_eq_false (by omega)
  have i2 : decide (((2 ^ h : Nat) : Int) ≤ (i : Int)) = false := decide_eq_false (by omega)
  simp only [idx, List.map_nil, List.length_nil]
  refine AW_reg TB (fun D K hD hK => ?_)
  simp only [AwS, TS, AwD, aval, aIndex, aSlice, aLen, BN, BW, BS, Int.cast_ofNat_Int, spl, splice, bind, ↓reduceIte, simprocAttr, s1, m1]
  refine hD _ ?_
  clear hD hK D K
  refine AW_seq ?_
  refine AW_reg TB (fun D K hD hK => ?_)
  simp only [AwS, TS, AwD, aval, aIndex, aSlice, aLen, BN, BW, BS, Int.cast_ofNat_Int, spl, splice, bind, ↓reduceIte, simprocAttr]
  refine hK _ _ ?_
  clear hD hK D K
  refine AL_callPW rfl (.inl rfl) rfl rfl en_28 ms [] ?_ (by simp) rfl rfl ?_
  · simp [evs, St.ev, cav, alook, lendA, lentBx, lendC, blook, AVs.map, AV.map, ioMap]
  refine AL_runR TB _ _ (fun D K hD hK => ?_)
  simp only [AwS, TS, AwD, aval, aIndex, aSlice, aLen, BN, BW, BS, Int.cast_ofNat_Int, spl, splice, bind, ↓reduceIte, simprocAttr, e1, i1]
  refine hD _ ?_
  clear hD hK D K
  refine AW_false rfl (AW_skip ?_)
  simp only [seqQ]
  refine AW_seq ?_
  refine AW_reg TB (fun D K hD hK => ?_)
  simp only [AwS, TS, AwD, aval, aIndex, aSlice, aLen, BN, BW, BS, Int.cast_ofNat_Int, spl, splice, bind, ↓reduceIte, simprocAttr]
  refine hK _ _ ?_
  clear hD hK D K
  refine AL_callPW rfl (.inl rfl) rfl rfl en_28 ms [] ?_ (by simp) rfl rfl ?_
  · simp [evs, St.ev, cav, alook, lendA, lentBx, lendC, blook, AVs.map, AV.map, ioMap]
  refine AL_runR TB _ _ (fun D K hD hK => ?_)
  simp only [AwS, TS, AwD, aval, aIndex, aSlice, aLen, BN, BW, BS, Int.cast_ofNat_Int, spl, splice, bind, ↓reduceIte, simprocAttr, i2]
  refine hD _ ?_
  clear hD hK D K
  refine AW_false rfl (AW_skip ?_)
  have ks := rkeys_spec seed h hh hs
  have hpn : (pubs seed (2 ^ h)).length = 2 ^ h := pubs_len _ _
  have hp16 := pubs_16 seed (2 ^ h)
  have hfl : (fl (pubs seed (2 ^ h))).length = 2 ^ h * 16 := by rw [fl_len hp16, hpn]
  have fl_tk : List.take (2 ^ h * 16) (fl (pubs seed (2 ^ h))) = fl (pubs seed (2 ^ h)) := List.take_of_length_le (by omega)
  have lendC_fl : ∀ f, List.map (lendC f) (fl (pubs seed (2 ^ h))) = fl (pubs seed (2 ^ h)) := fun f => lendC_bws f _
  have ps := rprove_spec (2 ^ h) false (pubs seed (2 ^ h)) i (by omega) (by omega) hp16 (by omega)
  rw [hpn] at ps
  have hpw : proveM (pubs seed (2 ^ h)) i = pathW seed h i := rfl
  rw [hpw] at ps
  have wsp := rwsign_spec seed i m hs hm (by omega) (by omega)
  have hP16 : All16 (pathW seed h i) := prove_16 _ _ _ (Nat.le_refl _)
  generalize pathW seed h i = P at *
  generalize 2 ^ h = N at *
  simp only [seqQ]
  refine AW_reg TB (fun D K hD hK => ?_)
  simp only [AwS, TS, AwD, aval, aIndex, aSlice, aLen, BN, BW, BS, Int.cast_ofNat_Int, spl, splice, bind, ↓reduceIte, simprocAttr, s1, s2]
  refine hK _ _ ?_
  clear hD hK D K
  refine AL_callD rfl rfl rfl rfl en_58 ks [] [] rfl (by simp) (by simp) ?_ (by simp) (by simp) rfl (by simp) ?_
  · simp [evs, St.ev, cav, alook, lendA, lentBx, lendC, blook, AVs.map, AV.map, ioMap, bws_map]
  refine AL_runR TB _ _ (fun D K hD hK => ?_)
  simp only [AwS, TS, AwD, aval, aIndex, aSlice, aLen, BN, BW, BS, Int.cast_ofNat_Int, spl, splice, bind, ↓reduceIte, simprocAttr, bws_map, fl_map]
  refine hK _ _ ?_
  clear hD hK D K
  refine AL_call rfl rfl rfl rfl en_61 ps [] [136] rfl (by simp) (by simp) ?_ (by simp) (by simp [blook]) (by simp) (fun x io' nb hR _ => ?_) (fun v io2 hR _ => by simp at hR)
  · simp [evs, St.ev, cav, alook, lendA, lentBx, lendC, blook, AVs.map, AV.map, ioMap, hfl, fl_map, -List.map_map, lendC_fl, fl_tk]
  simp only [Out.ret.injEq] at hR
  obtain ⟨rfl, rfl, rfl⟩ := hR
  refine ⟨by simp [keptAll, AV.kept, AVs.kept, fl_kept], by simp, ?_⟩
  refine AL_runR TB _ _ (fun D K hD hK => ?_)
  simp only [AwS, TS, AwD, aval, aIndex, aSlice, aLen, BN, BW, BS, Int.cast_ofNat_Int, spl, splice, bind, ↓reduceIte, simprocAttr, fl_map]
  refine hD _ ?_
  clear hD hK D K
  refine AW_reg TB (fun D K hD hK => ?_)
  simp only [AwS, TS, AwD, aval, aIndex, aSlice, aLen, BN, BW, BS, Int.cast_ofNat_Int, spl, splice, bind, ↓reduceIte, simprocAttr, s1, s2, m1, m2]
  refine hK _ _ ?_
  clear hD hK D K
  refine AL_call rfl rfl rfl rfl en_62 wsp [] [] rfl (by simp) (by simp) ?_ (by simp) (by simp) (by simp) (fun x io' nb hR _ => ?_) (fun v io2 hR _ => by simp at hR)
  · simp [evs, St.ev, cav, alook, lendA, lentBx, lendC, blook, AVs.map, AV.map, ioMap, bws_map]
  simp only [Out.ret.injEq] at hR
  obtain ⟨rfl, rfl, rfl⟩ := hR
  refine ⟨rfl, by simp, ?_⟩
  refine AL_runR TB _ _ (fun D K hD hK => ?_)
  simp only [AwS, TS, AwD, aval, aIndex, aSlice, aLen, BN, BW, BS, Int.cast_ofNat_Int, spl, splice, bind, ↓reduceIte, simprocAttr, fl_map]
  refine hD _ ?_
  clear hD hK D K
  have g1 : List.take 1088 (fl (sigL seed i m 68)) = fl (sigL seed i m 68) := List.take_of_length_le (by rw [fl_len (sigL_16 _ _ _ _), sigL_len]; omega)
  have g2 : List.take (P.length * 16) (fl P) = fl P := List.take_of_length_le (by rw [fl_len hP16]; omega)
  refine AW_keep [8, 9] ?_
  refine AW_freeze 232 hX0 rfl ?_
  simp only [St.freeze, frz, frzs, frzs_fl, List.filter_cons, List.filter_nil, AwS, TS, AwD, aval, aIndex, aSlice, aLen, BN, BW, BS, Int.cast_ofNat_Int, spl, splice, bind, ↓reduceIte, simprocAttr, g1]
  refine AW_freeze 152 hX0 rfl ?_
  simp only [St.freeze, frz, frzs, frzs_fl, List.filter_cons, List.filter_nil, AwS, TS, AwD, aval, aIndex, aSlice, aLen, BN, BW, BS, Int.cast_ofNat_Int, spl, splice, bind, ↓reduceIte, simprocAttr, g2]
  refine AW_ret ?_
  simp only [Ret]
  refine retp (.tup [sigA (i : Nat) true true (sigL seed i m 68) P, iv 0]) rfl ?_ (by simp only [AV.map, AVs.map, sigA, fl_map]) rfl
  simp only [resOf, resAll, resAV, sigA, sigL_len, AwS, TS, AwD, aval, aIndex, aSlice, aLen, BN, BW, BS, Int.cast_ofNat_Int, spl, splice, bind, ↓reduceIte, simprocAttr]


theorem rtsign_bad (seed : List UInt8) (h i : Int) (m : List UInt8) (hs : seed.length = 16) (hm : m.length = 16) (hb : ¬ (0 ≤ h ∧ h ≤ 4) ∨ i < 0) :
    Spec Tryd.prog [] 23 [.agg (seed.map bw), iv h, iv i, .agg (m.map bw)] [] (fun o => o = .ret (.tup [.agg [iv 0, .val (.slice none 0 0), .val (.slice none 0 0)], iv 1]) [] []) := by
  refine spec_of TB 40 [.cell 8 45, .tmp 9] Tryd.func23 rfl rfl rfl (Nat.le_of_ble_eq_true rfl) ?_
  intro X w0 E0 hE hX
  have s1 : (seed.map bw).length = 16 := by simp [hs]
  have m1 : (m.map bw).length = 16 := by simp [hm]
  have ms := many_spec h
  simp only [idx, List.map_nil, List.length_nil]
  refine AW_reg TB (fun D K hD hK => ?_)
  simp only [AwS, TS, AwD, aval, aIndex, aSlice, aLen, BN, BW, BS, Int.cast_ofNat_Int, spl, splice, bind, ↓reduceIte, simprocAttr, s1, m1]
  refine hD _ ?_
  clear hD hK D K
  refine AW_seq ?_
  by_cases hv : 0 ≤ h ∧ h ≤ 4
  · have hi : i < 0 := by
      rcases hb with h1 | h1
      · exact absurd hv h1
      · exact h1
    have i1 : (i < 0) = True := eq_true hi
    rw [show manyZ h = ((2 ^ h.toNat : Nat) : Int) from if_pos hv] at ms
    have hp1 : 1 ≤ 2 ^ h.toNat := Nat.one_le_two_pow
    generalize 2 ^ h.toNat = N at *
    have e1 : decide ((N : Int) = 0) = false := decide_eq_false (by omega)
    refine AW_reg TB (fun D K hD hK => ?_)
    simp only [AwS, TS, AwD, aval, aIndex, aSlice, aLen, BN, BW, BS, Int.cast_ofNat_Int, spl, splice, bind, ↓reduceIte, simprocAttr]
    refine hK _ _ ?_
    clear hD hK D K
    refine AL_callPW rfl (.inl rfl) rfl rfl en_28 ms [] ?_ (by simp) rfl rfl ?_
    · simp [evs, St.ev, cav, alook, lendA, lentBx, lendC, blook, AVs.map, AV.map, ioMap]
    refine AL_runR TB _ _ (fun D K hD hK => ?_)
    simp only [AwS, TS, AwD, aval, aIndex, aSlice, aLen, BN, BW, BS, Int.cast_ofNat_Int, spl, splice, bind, ↓reduceIte, simprocAttr, e1, i1]
    refine hD _ ?_
    clear hD hK D K
    refine AW_true rfl ?_
    refine AW_reg TB (fun D K hD hK => ?_)
    simp only [AwS, TS, AwD, aval, aIndex, aSlice, aLen, BN, BW, BS, Int.cast_ofNat_Int, spl, splice, bind, ↓reduceIte, simprocAttr]
    refine hD _ ?_
    clear hD hK D K
    refine AW_ret ?_
    simp only [Ret, seqQ, blockQ, kQ]
    refine retp (.tup [.agg [iv 0, .val (.slice none 0 0), .val (.slice none 0 0)], iv 1]) rfl ?_ rfl rfl
    simp [resOf, resAll, resAV, alook, blook, AV.known, loadC, AwS, TS, TD.isAgg]
  · rw [show manyZ h = 0 from if_neg hv] at ms
    refine AW_reg TB (fun D K hD hK => ?_)
    simp only [AwS, TS, AwD, aval, aIndex, aSlice, aLen, BN, BW, BS, Int.cast_ofNat_Int, spl, splice, bind, ↓reduceIte, simprocAttr]
    refine hK _ _ ?_
    clear hD hK D K
    refine AL_callPW rfl (.inl rfl) rfl rfl en_28 ms [] ?_ (by simp) rfl rfl ?_
    · simp [evs, St.ev, cav, alook, lendA, lentBx, lendC, blook, AVs.map, AV.map, ioMap]
    refine AL_runR TB _ _ (fun D K hD hK => ?_)
    simp only [AwS, TS, AwD, aval, aIndex, aSlice, aLen, BN, BW, BS, Int.cast_ofNat_Int, spl, splice, bind, ↓reduceIte, simprocAttr]
    refine hD _ ?_
    clear hD hK D K
    refine AW_true rfl ?_
    refine AW_reg TB (fun D K hD hK => ?_)
    simp only [AwS, TS, AwD, aval, aIndex, aSlice, aLen, BN, BW, BS, Int.cast_ofNat_Int, spl, splice, bind, ↓reduceIte, simprocAttr]
    refine hD _ ?_
    clear hD hK D K
    refine AW_ret ?_
    simp only [Ret, seqQ, blockQ, kQ]
    refine retp (.tup [.agg [iv 0, .val (.slice none 0 0), .val (.slice none 0 0)], iv 1]) rfl ?_ rfl rfl
    simp [resOf, resAll, resAV, alook, blook, AV.known, loadC, AwS, TS, TD.isAgg]

theorem rtsign_ex (seed : List UInt8) (h : Nat) (i : Int) (m : List UInt8) (hs : seed.length = 16) (hm : m.length = 16) (hh : h ≤ 4) (hi : ((2 ^ h : Nat) : Int) ≤ i) :
    Spec Tryd.prog [] 23 [.agg (seed.map bw), iv h, iv i, .agg (m.map bw)] [] (fun o => o = .ret (.tup [.agg [iv 0, .val (.slice none 0 0), .val (.slice none 0 0)], iv 17]) [] []) := by
  refine spec_of TB 40 [.cell 8 45, .tmp 9] Tryd.func23 rfl rfl rfl (Nat.le_of_ble_eq_true rfl) ?_
  intro X w0 E0 hE hX
  have s1 : (seed.map bw).length = 16 := by simp [hs]
  have m1 : (m.map bw).length = 16 := by simp [hm]
  have ms := many_spec (h : Int)
  rw [manyZ_nat h hh] at ms
  have hp1 : 1 ≤ 2 ^ h := Nat.one_le_two_pow
  generalize 2 ^ h = N at *
  have e1 : decide ((N : Int) = 0) = false := decide_eq_false (by omega)
  have i1 : decide (i < 0) = false := decide_eq_false (by omega)
  have i2 : decide ((N : Int) ≤ i) = true := decide_eq_true hi
  simp only [idx, List.map_nil, List.length_nil]
  refine AW_reg TB (fun D K hD hK => ?_)
  simp only [AwS, TS, AwD, aval, aIndex, aSlice, aLen, BN, BW, BS, Int.cast_ofNat_Int, spl, splice, bind, ↓reduceIte, simprocAttr, s1, m1]
  refine hD _ ?_
  clear hD hK D K
  refine AW_seq ?_
  refine AW_reg TB (fun D K hD hK => ?_)
  simp only [AwS, TS, AwD, aval, aIndex, aSlice, aLen, BN, BW, BS, Int.cast_ofNat_Int, spl, splice, bind, ↓reduceIte, simprocAttr]
  refine hK _ _ ?_
  clear hD hK D K
  refine AL_callPW rfl (.inl rfl) rfl rfl en_28 ms [] ?_ (by simp) rfl rfl ?_
  · simp [evs, St.ev, cav, alook, lendA, lentBx, lendC, blook, AVs.map, AV.map, ioMap]
  refine AL_runR TB _ _ (fun D K hD hK => ?_)
  simp only [AwS, TS, AwD, aval, aIndex, aSlice, aLen, BN, BW, BS, Int.cast_ofNat_Int, spl, splice, bind, ↓reduceIte, simprocAttr, e1, i1]
  refine hD _ ?_
  clear hD hK D K
  refine AW_false rfl (AW_skip ?_)
  simp only [seqQ]
  refine AW_seq ?_
  refine AW_reg TB (fun D K hD hK => ?_)
  simp only [AwS, TS, AwD, aval, aIndex, aSlice, aLen, BN, BW, BS, Int.cast_ofNat_Int, spl, splice, bind, ↓reduceIte, simprocAttr]
  refine hK _ _ ?_
  clear hD hK D K
  refine AL_callPW rfl (.inl rfl) rfl rfl en_28 ms [] ?_ (by simp) rfl rfl ?_
  · simp [evs, St.ev, cav, alook, lendA, lentBx, lendC, blook, AVs.map, AV.map, ioMap]
  refine AL_runR TB _ _ (fun D K hD hK => ?_)
  simp only [AwS, TS, AwD, aval, aIndex, aSlice, aLen, BN, BW, BS, Int.cast_ofNat_Int, spl, splice, bind, ↓reduceIte, simprocAttr, i2]
  refine hD _ ?_
  clear hD hK D K
  refine AW_true rfl ?_
  refine AW_reg TB (fun D K hD hK => ?_)
  simp only [AwS, TS, AwD, aval, aIndex, aSlice, aLen, BN, BW, BS, Int.cast_ofNat_Int, spl, splice, bind, ↓reduceIte, simprocAttr]
  refine hD _ ?_
  clear hD hK D K
  refine AW_ret ?_
  simp only [Ret, seqQ, blockQ, kQ]
  refine retp (.tup [.agg [iv 0, .val (.slice none 0 0), .val (.slice none 0 0)], iv 17]) rfl ?_ rfl rfl
  simp [resOf, resAll, resAV, alook, blook, AV.known, loadC, AwS, TS, TD.isAgg]

end Go.Proofs.YtgbpgplkhifgiaaDoor

/- The walks of bootchainref05's Digests, Same and Verify. No condition. -/
set_option linter.unusedVariables false
set_option linter.unusedSimpArgs false
set_option maxRecDepth 100000
namespace Go.Proofs.YtgbpgplkhifgiaaDoor
open Go Go.RowKit

def reqF (k k' : Bool) (a b : List (List UInt8)) (q : Nat) : St :=
  { nt := 26, nx := 0, tm := [(5, iv (q : Nat)), (0, .ds k a.length (fl a)), (1, .ds k' b.length (fl b))], bx := [], gl := [], df := [] }

theorem rdigests_eq (k k' : Bool) (a b : List (List UInt8)) (ha : All16 a) (hb : All16 b) (hN : a.length ≤ 1000000) :
    Spec Tryd.prog [] 63 [.ds k a.length (fl a), .ds k' b.length (fl b)] [] (fun o => o = .ret (bv (decide (a = b))) [] []) := by
  refine spec_of TB 26 [.tmp 4] Tryd.func63 rfl rfl rfl (Nat.le_of_ble_eq_true rfl) ?_
  intro X w0 E0 hE hX
  simp only [idx, List.map_nil, List.length_nil]
  refine AW_reg TB (fun D K hD hK => ?_)
  simp only [AwS, TS, AwD, aval, aIndex, aSlice, aLen, BN, BW, BS, Int.cast_ofNat_Int, spl, splice, bind, ↓reduceIte, simprocAttr]
  refine hD _ ?_
  clear hD hK D K
  refine AW_seq ?_
  refine AW_reg TB (fun D K hD hK => ?_)
  simp only [AwS, TS, AwD, aval, aIndex, aSlice, aLen, BN, BW, BS, Int.cast_ofNat_Int, spl, splice, bind, ↓reduceIte, simprocAttr]
  refine hD _ ?_
  clear hD hK D K
  refine AW_cond rfl (fun h => ?_) (fun h => AW_skip ?_)
  · have hne : ¬ a = b := by
      rintro rfl
      simp at h
    rw [decide_eq_false hne]
    refine AW_reg TB (fun D K hD hK => ?_)
    simp only [AwS, TS, AwD, aval, aIndex, aSlice, aLen, BN, BW, BS, Int.cast_ofNat_Int, spl, splice, bind, ↓reduceIte, simprocAttr]
    refine hD _ ?_
    clear hD hK D K
    refine AW_ret ?_
    simp only [Ret, seqQ]
    refine retp (bv false) rfl ?_ rfl rfl
    simp [resOf, resAll, resAV, alook, blook, AV.known, loadC, AwS, TS, TD.isAgg]
  · have heq : a.length = b.length := by
      have : (a.length : Int) = b.length := by simpa using h
      omega
    simp only [seqQ]
    refine AW_seqk (fun K0 hK0 => ?_)
    refine AW_reg TB (fun D K hD hK => ?_)
    simp only [AwS, TS, AwD, aval, aIndex, aSlice, aLen, BN, BW, BS, Int.cast_ofNat_Int, spl, splice, bind, ↓reduceIte, simprocAttr]
    refine hD _ ?_
    clear hD hK D K
    refine AW_block ?_
    refine AW_loop (reqF k k' a b) (fun q => q ≤ a.length ∧ a.take q = b.take q) (fun q => a.length - q) hE 0 [] (by simp) ?_ ?_
    · refine ⟨rfl, by simp [reqF, alook, AV.map, AVs.map, fl_map], ⟨rfl, rfl⟩, ?_, ?_, by simp [reqF], by simp [reqF, nmap], ?_⟩
      · simp [reqF, alook, AV.map, AVs.map, nmap, AVs_map_append, ivs_map, yvs_map, fl_map]
      · simp [reqF, blook, AV.map, AVs.map, nmap, AVs_map_append, ivs_map, yvs_map, fl_map]
      · intro k hk
        have hk2 : k < 0 := hk
        omega
    rintro q ⟨hq, ht⟩
    simp only [reqF]
    refine AW_seq ?_
    refine AW_reg TB (fun D K hD hK => ?_)
    simp only [AwS, TS, AwD, aval, aIndex, aSlice, aLen, BN, BW, BS, Int.cast_ofNat_Int, spl, splice, bind, ↓reduceIte, simprocAttr]
    refine hD _ ?_
    clear hD hK D K
    refine AW_cond rfl (fun h5 => AW_skip ?_) (fun h5 => AW_exit ?_)
    · have hlt : q < a.length := by simpa using h5
      have hlt' : q < b.length := by omega
      have x3 : (0 ≤ (q : Int) ∧ (q : Int) < (a.length : Int)) = True := eq_true (by omega)
      have x4 : (0 ≤ (q : Int) ∧ (q : Int) < (b.length : Int)) = True := eq_true (by omega)
      have g2 := fl_get ha q hlt
      have g2' := fl_get hb q hlt'
      have g3 : (16 ≤ (List.drop (q * 16) (fl a)).length) = True := by
        rw [List.length_drop, fl_len ha]; exact eq_true (by omega)
      have g3' : (16 ≤ (List.drop (q * 16) (fl b)).length) = True := by
        rw [List.length_drop, fl_len hb]; exact eq_true (by omega)
      have h1 := ha _ (List.getElem_mem hlt)
      have h2 := hb _ (List.getElem_mem hlt')
      have s1 := List.take_succ_eq_append_getElem hlt
      have s2 := List.take_succ_eq_append_getElem hlt'
      have hmem : a = b → a[q] = b[q] := by rintro rfl; rfl
      generalize a[q] = x at *
      generalize b[q] = y at *
      have l1 : (x.map bw).length = 16 := by simp [h1]
      have l2 : (y.map bw).length = 16 := by simp [h2]
      have e5 := eqL_bws x y (by omega)
      have e6 := fun ti hd => fits_bws ti .u8 hd x
      have w1 : IntKind.i64.wrap ((q : Int) + 1) = (q : Int) + 1 := wrap_i64 (by omega) (by omega)
      simp only [seqQ]
      refine AW_seqk (fun K3 hK3 => ?_)
      refine AW_block ?_
      refine AW_dreg TB mx ([[], [], [0, 1], [2, 0, 1], [], [], [4, 5], [6, 4, 5], [3, 2, 0, 1, 7, 6, 4, 5]]) (by kernel_rfl) (by kernel_rfl) (fun D K hD hK => ?_)
      simp only [AwS, TS, AwD, aval, aIndex, aSlice, aLen, BN, BW, BS, Int.cast_ofNat_Int, spl, splice, bind, ↓reduceIte, simprocAttr, Op.operands, Call.operands, List.toList_toArray, List.size_toArray, cmp, List.getD_cons_zero, List.getD_cons_succ, Array.toList_append, Option.toArray, List.append_toArray,  x3, x4, g2, g2', g3, g3', l1, l2, e5, e6, Int.toNat_natCast]
      refine hD _ ?_
      clear hD hK D K
      refine AW_cond rfl (fun h6 => ?_) (fun h6 => AW_skip ?_)
      · have hxy : ¬ x = y := by simpa using h6
        rw [decide_eq_false (fun h => hxy (hmem h))]
        refine AW_reg TB (fun D K hD hK => ?_)
        simp only [AwS, TS, AwD, aval, aIndex, aSlice, aLen, BN, BW, BS, Int.cast_ofNat_Int, spl, splice, bind, ↓reduceIte, simprocAttr]
        refine hD _ ?_
        clear hD hK D K
        refine AW_ret ?_
        simp only [seqQ, blockQ, loopQ, kQ, Ret]
        refine retp (bv false) rfl ?_ rfl rfl
        simp [resOf, resAll, resAV, alook, blook, AV.known, loadC, AwS, TS, TD.isAgg]
      · have hxy : x = y := by simpa using h6
        simp only [seqQ, blockQ]
        refine hK3 _ ?_
        refine AW_regl TB (fun D K hD hK => ?_)
        simp only [AwS, TS, AwD, aval, aIndex, aSlice, aLen, BN, BW, BS, Int.cast_ofNat_Int, spl, splice, bind, ↓reduceIte, simprocAttr, w1]
        refine hD _ ?_
        clear hD hK D K
        refine ⟨q + 1, [], ⟨by omega, by rw [s1, s2, ht, hxy]⟩, by dsimp only; omega, ?_⟩
        refine ⟨rfl, by simp [reqF, alook, AV.map, AVs.map, fl_map], ⟨rfl, rfl⟩, ?_, ?_, by simp [reqF], by simp [reqF, nmap], ?_⟩
        · simp [reqF, alook, AV.map, AVs.map, nmap, AVs_map_append, ivs_map, yvs_map, fl_map]
        · simp [reqF, blook, AV.map, AVs.map, nmap, AVs_map_append, ivs_map, yvs_map, fl_map]
        · intro k hk
          have hk2 : k < 0 := hk
          omega
    · have hge : q = a.length := by
        have : ¬ q < a.length := by simpa using h5
        omega
      subst hge
      have hab : a = b := by
        rw [List.take_length, heq, List.take_length] at ht
        exact ht
      refine hK0 _ ?_
      rw [decide_eq_true hab]
      refine AW_reg TB (fun D K hD hK => ?_)
      simp only [AwS, TS, AwD, aval, aIndex, aSlice, aLen, BN, BW, BS, Int.cast_ofNat_Int, spl, splice, bind, ↓reduceIte, simprocAttr]
      refine hD _ ?_
      clear hD hK D K
      refine AW_ret ?_
      simp only [Ret]
      refine retp (bv true) rfl ?_ rfl rfl
      simp [resOf, resAll, resAV, alook, blook, AV.known, loadC, AwS, TS, TD.isAgg]

theorem rsame_spec (i i' : Int) (kc kp kc' kp' : Bool) (c p c' p' : List (List UInt8)) (h1 : All16 c) (h2 : All16 p) (h3 : All16 c') (h4 : All16 p') (l1 : c.length ≤ 1000000) (l2 : p.length ≤ 1000000) :
    Spec Tryd.prog [] 24 [sigA i kc kp c p, sigA i' kc' kp' c' p'] [] (fun o => o = .ret (bv (decide (i = i') && decide (c = c') && decide (p = p'))) [] []) := by
  refine spec_of TB 24 [.tmp 4] Tryd.func24 rfl rfl rfl (Nat.le_of_ble_eq_true rfl) ?_
  intro X w0 E0 hE hX
  simp only [idx, List.map_nil, List.length_nil, sigA]
  refine AW_reg TB (fun D K hD hK => ?_)
  simp only [AwS, TS, AwD, aval, aIndex, aSlice, aLen, BN, BW, BS, Int.cast_ofNat_Int, spl, splice, bind, ↓reduceIte, simprocAttr]
  refine hD _ ?_
  clear hD hK D K
  have q1 := rdigests_eq kc kc' c c' h1 h3 l1
  have q2 := rdigests_eq kp kp' p p' h2 h4 l2
  rcases Decidable.em (i = i') with hi | hi
  · subst hi
    refine AW_reg TB (fun D K hD hK => ?_)
    simp only [AwS, TS, AwD, aval, aIndex, aSlice, aLen, BN, BW, BS, Int.cast_ofNat_Int, spl, splice, bind, ↓reduceIte, simprocAttr]
    refine hK _ _ ?_
    clear hD hK D K
    refine AL_callPW rfl (.inr ⟨5, _, true, rfl, rfl, rfl⟩) rfl rfl en_63 q1 [] ?_ (by simp) rfl rfl ?_
    · simp [evs, St.ev, cav, alook, lendA, lentBx, lendC, blook, AVs.map, AV.map, ioMap, fl_map]
    rcases Decidable.em (c = c') with hc | hc
    · rw [decide_eq_true hc]
      refine AL_runR TB _ _ (fun D K hD hK => ?_)
      simp only [AwS, TS, AwD, aval, aIndex, aSlice, aLen, BN, BW, BS, Int.cast_ofNat_Int, spl, splice, bind, ↓reduceIte, simprocAttr]
      refine hK _ _ ?_
      clear hD hK D K
      refine AL_callPW rfl (.inr ⟨12, _, true, rfl, rfl, rfl⟩) rfl rfl en_63 q2 [] ?_ (by simp) rfl rfl ?_
      · simp [evs, St.ev, cav, alook, lendA, lentBx, lendC, blook, AVs.map, AV.map, ioMap, fl_map]
      refine AL_runR TB _ _ (fun D K hD hK => ?_)
      simp only [AwS, TS, AwD, aval, aIndex, aSlice, aLen, BN, BW, BS, Int.cast_ofNat_Int, spl, splice, bind, ↓reduceIte, simprocAttr]
      refine hD _ ?_
      clear hD hK D K
      refine AW_ret ?_
      simp only [Ret]
      refine retp (bv (decide (p = p'))) rfl ?_ rfl (by simp [hc])
      simp [resOf, resAll, resAV, alook, blook, AV.known, loadC, AwS, TS, TD.isAgg]
    · rw [decide_eq_false hc]
      refine AL_runR TB _ _ (fun D K hD hK => ?_)
      simp only [AwS, TS, AwD, aval, aIndex, aSlice, aLen, BN, BW, BS, Int.cast_ofNat_Int, spl, splice, bind, ↓reduceIte, simprocAttr]
      refine hD _ ?_
      clear hD hK D K
      refine AW_ret ?_
      simp only [Ret]
      refine retp (bv false) rfl ?_ rfl (by simp [hc])
      simp [resOf, resAll, resAV, alook, blook, AV.known, loadC, AwS, TS, TD.isAgg]
  · have hi' : (i = i') = False := eq_false hi
    refine AW_reg TB (fun D K hD hK => ?_)
    simp only [AwS, TS, AwD, aval, aIndex, aSlice, aLen, BN, BW, BS, Int.cast_ofNat_Int, spl, splice, bind, ↓reduceIte, simprocAttr, hi']
    refine hD _ ?_
    clear hD hK D K
    refine AW_ret ?_
    simp only [Ret]
    refine retp (bv false) rfl ?_ rfl (by simp [hi])
    simp [resOf, resAll, resAV, alook, blook, AV.known, loadC, AwS, TS, TD.isAgg]


theorem rtverify_spec (root : List UInt8) (h : Int) (m : List UInt8) (i : Int) (kc kp : Bool) (ch ps : List (List UInt8)) (hr : root.length = 16) (hm : m.length = 16) (hc : All16 ch) (hp : All16 ps) (lc : ch.length ≤ 1000000) (lp' : ps.length ≤ 1000000) :
    Spec Tryd.prog [] 26 [.agg (root.map bw), iv h, .agg (m.map bw), sigA i kc kp ch ps] [] (fun o => o = .ret (bv (verT root h m i ch ps)) [] []) := by
  refine spec_of TB 39 [.tmp 8] Tryd.func26 rfl rfl rfl (Nat.le_of_ble_eq_true rfl) ?_
  intro X w0 E0 hE hX
  have m1 : (m.map bw).length = 16 := by simp [hm]
  have m2 : List.take 16 (m.map bw) = m.map bw := List.take_of_length_le (by simp [hm])
  have r1 : (root.map bw).length = 16 := by simp [hr]
  have r2 : List.take 16 (root.map bw) = root.map bw := List.take_of_length_le (by simp [hr])
  have ms := many_spec h
  simp only [idx, List.map_nil, List.length_nil, sigA]
  refine AW_reg TB (fun D K hD hK => ?_)
  simp only [AwS, TS, AwD, aval, aIndex, aSlice, aLen, BN, BW, BS, Int.cast_ofNat_Int, spl, splice, bind, ↓reduceIte, simprocAttr, m1, r1]
  refine hD _ ?_
  clear hD hK D K
  refine AW_seq ?_
  by_cases h0 : i < 0
  · have hv : verT root h m i ch ps = false := by
      unfold verT
      rw [decide_eq_false (show ¬ 0 ≤ i by omega), Bool.false_and, Bool.and_false]
    have e1 : (i < 0) = True := eq_true h0
    refine AW_dreg TB mx ([[], [0], [1, 0], [2, 1, 0], [3, 2, 1, 0], [4, 3, 2, 1, 0], [3, 2, 1, 0], [6, 3, 2, 1, 0], [5, 4, 3, 2, 1, 0, 7, 6], [3, 2, 1, 0, 8, 5, 4, 7, 6]]) (by kernel_rfl) (by kernel_rfl) (fun D K hD hK => ?_)
    simp only [AwS, TS, AwD, aval, aIndex, aSlice, aLen, BN, BW, BS, Int.cast_ofNat_Int, spl, splice, bind, ↓reduceIte, simprocAttr, Op.operands, Call.operands, List.toList_toArray, List.size_toArray, cmp, List.getD_cons_zero, List.getD_cons_succ, Array.toList_append, Option.toArray, List.append_toArray,  e1]
    refine hD _ ?_
    clear hD hK D K
    refine AW_true rfl ?_
    refine AW_reg TB (fun D K hD hK => ?_)
    simp only [AwS, TS, AwD, aval, aIndex, aSlice, aLen, BN, BW, BS, Int.cast_ofNat_Int, spl, splice, bind, ↓reduceIte, simprocAttr]
    refine hD _ ?_
    clear hD hK D K
    refine AW_ret ?_
    simp only [Ret, seqQ]
    refine retp (bv false) rfl ?_ rfl (by rw [hv])
    simp [resOf, resAll, resAV, alook, blook, AV.known, loadC, AwS, TS, TD.isAgg]
  · have e1 : (i < 0) = False := eq_false h0
    by_cases h1 : i < manyZ h
    · have hb : 0 ≤ h ∧ h ≤ 4 := by
        by_cases hb : 0 ≤ h ∧ h ≤ 4
        · exact hb
        · rw [show manyZ h = 0 from if_neg hb] at h1
          omega
      rw [show manyZ h = ((2 ^ h.toNat : Nat) : Int) from if_pos hb] at h1 ms
      have hp2 : 2 ^ h.toNat ≤ 2 ^ 4 := Nat.pow_le_pow_right (by omega) (by omega)
      obtain ⟨j, rfl⟩ : ∃ j : Nat, i = j := ⟨i.toNat, by omega⟩
      have hv0 : verT root h m j ch ps = (decide (ch.length = 68) && verM root (2 ^ h.toNat) j (recW m ch) ps) := by
        unfold verT
        rw [decide_eq_true hb.1, decide_eq_true hb.2, decide_eq_true (show (0 : Int) ≤ (j : Int) by omega), decide_eq_true h1, Bool.true_and, Bool.true_and, Bool.true_and, Bool.true_and, Int.toNat_natCast]
      generalize 2 ^ h.toNat = N at *
      have e2 : decide ((N : Int) ≤ (j : Int)) = false := decide_eq_false (by omega)
      have rs := rrecover_spec m ch kc hm hc lc
      refine AW_dreg TB mx ([[], [0], [1, 0], [2, 1, 0], [3, 2, 1, 0], [4, 3, 2, 1, 0], [3, 2, 1, 0], [6, 3, 2, 1, 0], [5, 4, 3, 2, 1, 0, 7, 6], [3, 2, 1, 0, 8, 5, 4, 7, 6]]) (by kernel_rfl) (by kernel_rfl) (fun D K hD hK => ?_)
      simp only [AwS, TS, AwD, aval, aIndex, aSlice, aLen, BN, BW, BS, Int.cast_ofNat_Int, spl, splice, bind, ↓reduceIte, simprocAttr, Op.operands, Call.operands, List.toList_toArray, List.size_toArray, cmp, List.getD_cons_zero, List.getD_cons_succ, Array.toList_append, Option.toArray, List.append_toArray,  e1]
      refine hK _ _ _ _ ?_
      clear hD hK D K
      refine DL_callPW rfl rfl (.inr ⟨3, _, false, rfl, rfl, rfl⟩) rfl rfl en_28 ms [] ?_ (by simp) (by simp) rfl rfl rfl ?_
      · simp [evs, St.ev, cav, alook, lendA, lentBx, lendC, blook, AVs.map, AV.map, ioMap]
      refine DL_rest TB rfl (fun D K hD hK => ?_)
      simp only [AwS, TS, AwD, aval, aIndex, aSlice, aLen, BN, BW, BS, Int.cast_ofNat_Int, spl, splice, bind, ↓reduceIte, simprocAttr, Op.operands, Call.operands, List.toList_toArray, List.size_toArray, cmp, List.getD_cons_zero, List.getD_cons_succ, Array.toList_append, Option.toArray, List.append_toArray, e2]
      refine hD _ ?_
      clear hD hK D K
      refine AW_false rfl (AW_skip ?_)
      simp only [seqQ]
      by_cases hl : ch.length = 68
      · have hrR : recR m ch = (recW m ch, 0) := if_pos hl
        rw [hrR] at rs
        have hdl : (recW m ch).length = 16 := keyOf_len _
        have mv := rverify_spec kp root N j (recW m ch) ps hr hdl hp lp' (by omega) (by omega)
        have hv : verT root h m j ch ps = verM root N j (recW m ch) ps := by rw [hv0, decide_eq_true hl, Bool.true_and]
        rw [hv]
        generalize recW m ch = D0 at *
        have z1 : spl (List.replicate 16 (.val (.int .u8 0))) 0 (D0.map bw) = D0.map bw := spl_all (by simp [hdl]) (by simp [hdl])
        simp only [List.replicate] at z1
        have z2 : List.take 16 (D0.map bw) = D0.map bw := List.take_of_length_le (by simp [hdl])
        have z3 : (D0.map bw).length = 16 := by simp [hdl]
        refine AW_reg TB (fun D K hD hK => ?_)
        simp only [AwS, TS, AwD, aval, aIndex, aSlice, aLen, BN, BW, BS, Int.cast_ofNat_Int, spl, splice, bind, ↓reduceIte, simprocAttr, m1, m2]
        refine hK _ _ ?_
        clear hD hK D K
        refine AL_callPW rfl (.inl rfl) rfl rfl en_64 rs [] ?_ (by simp) (by simp) (by simp only [AV.map, AVs.map, bws_map]) ?_
        · simp [evs, St.ev, cav, alook, lendA, lentBx, lendC, blook, AVs.map, AV.map, ioMap, bws_map, fl_map]
        refine AL_runR TB _ _ (fun D K hD hK => ?_)
        simp only [AwS, TS, AwD, aval, aIndex, aSlice, aLen, BN, BW, BS, Int.cast_ofNat_Int, spl, splice, bind, ↓reduceIte, simprocAttr, z1, z3, bws_cell, bws_map, fl_map, -spl]
        refine hD _ ?_
        clear hD hK D K
        refine AW_seq ?_
        refine AW_reg TB (fun D K hD hK => ?_)
        simp only [AwS, TS, AwD, aval, aIndex, aSlice, aLen, BN, BW, BS, Int.cast_ofNat_Int, spl, splice, bind, ↓reduceIte, simprocAttr]
        refine hD _ ?_
        clear hD hK D K
        refine AW_false rfl (AW_skip ?_)
        simp only [seqQ]
        refine AW_dreg TB mx ([[], [], [1], [], [3], [], [], [6], [0, 2, 1, 4, 3, 5, 7, 6], [8, 0, 2, 1, 4, 3, 5, 7, 6]]) (by kernel_rfl) (by kernel_rfl) (fun D K hD hK => ?_)
        simp only [AwS, TS, AwD, aval, aIndex, aSlice, aLen, BN, BW, BS, Int.cast_ofNat_Int, spl, splice, bind, ↓reduceIte, simprocAttr, Op.operands, Call.operands, List.toList_toArray, List.size_toArray, cmp, List.getD_cons_zero, List.getD_cons_succ, Array.toList_append, Option.toArray, List.append_toArray,  r1, r2, z2, z3]
        refine hK _ _ _ _ ?_
        clear hD hK D K
        refine DL_callPW rfl rfl (.inl rfl) rfl rfl en_28 ms [] ?_ (by simp) (by simp) rfl rfl rfl ?_
        · simp [evs, St.ev, cav, alook, lendA, lentBx, lendC, blook, AVs.map, AV.map, ioMap]
        refine DL_rest TB rfl (fun D K hD hK => ?_)
        simp only [AwS, TS, AwD, aval, aIndex, aSlice, aLen, BN, BW, BS, Int.cast_ofNat_Int, spl, splice, bind, ↓reduceIte, simprocAttr, Op.operands, Call.operands, List.toList_toArray, List.size_toArray, cmp, List.getD_cons_zero, List.getD_cons_succ, Array.toList_append, Option.toArray, List.append_toArray, z2, z3, r1, r2]
        refine hK _ _ _ _ ?_
        clear hD hK D K
        refine DL_callPW rfl rfl (.inl rfl) rfl rfl en_65 mv [] ?_ (by simp) (by simp) rfl rfl rfl ?_
        · simp [evs, St.ev, cav, alook, lendA, lentBx, lendC, blook, AVs.map, AV.map, ioMap, bws_map, fl_map]
        refine DL_rest TB rfl (fun D K hD hK => ?_)
        simp only [AwS, TS, AwD, aval, aIndex, aSlice, aLen, BN, BW, BS, Int.cast_ofNat_Int, spl, splice, bind, ↓reduceIte, simprocAttr, Op.operands, Call.operands, List.toList_toArray, List.size_toArray, cmp, List.getD_cons_zero, List.getD_cons_succ, Array.toList_append, Option.toArray, List.append_toArray]
        refine hD _ ?_
        clear hD hK D K
        refine AW_ret ?_
        simp only [Ret]
        refine retp (bv (verM root N j D0 ps)) rfl ?_ rfl rfl
        simp [resOf, resAll, resAV, alook, blook, AV.known, loadC, AwS, TS, TD.isAgg]
      · have hrR : recR m ch = (zD, 9) := if_neg hl
        rw [hrR] at rs
        have hv : verT root h m j ch ps = false := by rw [hv0, decide_eq_false hl, Bool.false_and]
        rw [hv]
        have hdl : zD.length = 16 := by simp [zD]
        generalize zD = D0 at *
        have z1 : spl (List.replicate 16 (.val (.int .u8 0))) 0 (D0.map bw) = D0.map bw := spl_all (by simp [hdl]) (by simp [hdl])
        simp only [List.replicate] at z1
        have z2 : List.take 16 (D0.map bw) = D0.map bw := List.take_of_length_le (by simp [hdl])
        have z3 : (D0.map bw).length = 16 := by simp [hdl]
        refine AW_reg TB (fun D K hD hK => ?_)
        simp only [AwS, TS, AwD, aval, aIndex, aSlice, aLen, BN, BW, BS, Int.cast_ofNat_Int, spl, splice, bind, ↓reduceIte, simprocAttr, m1, m2]
        refine hK _ _ ?_
        clear hD hK D K
        refine AL_callPW rfl (.inl rfl) rfl rfl en_64 rs [] ?_ (by simp) (by simp) (by simp only [AV.map, AVs.map, bws_map]) ?_
        · simp [evs, St.ev, cav, alook, lendA, lentBx, lendC, blook, AVs.map, AV.map, ioMap, bws_map, fl_map]
        refine AL_runR TB _ _ (fun D K hD hK => ?_)
        simp only [AwS, TS, AwD, aval, aIndex, aSlice, aLen, BN, BW, BS, Int.cast_ofNat_Int, spl, splice, bind, ↓reduceIte, simprocAttr, z1, z3, bws_cell, bws_map, fl_map, -spl]
        refine hD _ ?_
        clear hD hK D K
        refine AW_seq ?_
        refine AW_reg TB (fun D K hD hK => ?_)
        simp only [AwS, TS, AwD, aval, aIndex, aSlice, aLen, BN, BW, BS, Int.cast_ofNat_Int, spl, splice, bind, ↓reduceIte, simprocAttr]
        refine hD _ ?_
        clear hD hK D K
        refine AW_true rfl ?_
        refine AW_reg TB (fun D K hD hK => ?_)
        simp only [AwS, TS, AwD, aval, aIndex, aSlice, aLen, BN, BW, BS, Int.cast_ofNat_Int, spl, splice, bind, ↓reduceIte, simprocAttr]
        refine hD _ ?_
        clear hD hK D K
        refine AW_ret ?_
        simp only [Ret, seqQ]
        refine retp (bv false) rfl ?_ rfl rfl
        simp [resOf, resAll, resAV, alook, blook, AV.known, loadC, AwS, TS, TD.isAgg]
    · have hv : verT root h m i ch ps = false := by
        unfold verT
        by_cases hb : 0 ≤ h ∧ h ≤ 4
        · rw [show manyZ h = ((2 ^ h.toNat : Nat) : Int) from if_pos hb] at h1
          rw [decide_eq_false h1, Bool.false_and, Bool.and_false, Bool.and_false]
        · have h4 : (decide (0 ≤ h) && decide (h ≤ 4)) = false := by
            rcases Decidable.em (0 ≤ h) with a | a
            · have : ¬ h ≤ 4 := fun b => hb ⟨a, b⟩
              simp [this]
            · simp [a]
          rw [h4, Bool.false_and]
      have e2 : decide (manyZ h ≤ i) = true := decide_eq_true (by omega)
      generalize manyZ h = N at *
      refine AW_dreg TB mx ([[], [0], [1, 0], [2, 1, 0], [3, 2, 1, 0], [4, 3, 2, 1, 0], [3, 2, 1, 0], [6, 3, 2, 1, 0], [5, 4, 3, 2, 1, 0, 7, 6], [3, 2, 1, 0, 8, 5, 4, 7, 6]]) (by kernel_rfl) (by kernel_rfl) (fun D K hD hK => ?_)
      simp only [AwS, TS, AwD, aval, aIndex, aSlice, aLen, BN, BW, BS, Int.cast_ofNat_Int, spl, splice, bind, ↓reduceIte, simprocAttr, Op.operands, Call.operands, List.toList_toArray, List.size_toArray, cmp, List.getD_cons_zero, List.getD_cons_succ, Array.toList_append, Option.toArray, List.append_toArray,  e1]
      refine hK _ _ _ _ ?_
      clear hD hK D K
      refine DL_callPW rfl rfl (.inr ⟨3, _, false, rfl, rfl, rfl⟩) rfl rfl en_28 ms [] ?_ (by simp) (by simp) rfl rfl rfl ?_
      · simp [evs, St.ev, cav, alook, lendA, lentBx, lendC, blook, AVs.map, AV.map, ioMap]
      refine DL_rest TB rfl (fun D K hD hK => ?_)
      simp only [AwS, TS, AwD, aval, aIndex, aSlice, aLen, BN, BW, BS, Int.cast_ofNat_Int, spl, splice, bind, ↓reduceIte, simprocAttr, Op.operands, Call.operands, List.toList_toArray, List.size_toArray, cmp, List.getD_cons_zero, List.getD_cons_succ, Array.toList_append, Option.toArray, List.append_toArray, e2]
      refine hD _ ?_
      clear hD hK D K
      refine AW_true rfl ?_
      refine AW_reg TB (fun D K hD hK => ?_)
      simp only [AwS, TS, AwD, aval, aIndex, aSlice, aLen, BN, BW, BS, Int.cast_ofNat_Int, spl, splice, bind, ↓reduceIte, simprocAttr]
      refine hD _ ?_
      clear hD hK D K
      refine AW_ret ?_
      simp only [Ret, seqQ]
      refine retp (bv false) rfl ?_ rfl (by rw [hv])
      simp [resOf, resAll, resAV, alook, blook, AV.known, loadC, AwS, TS, TD.isAgg]

end Go.Proofs.YtgbpgplkhifgiaaDoor

/- The walks of the laws TreesigMatchesSpec and TreesigVerifyMatchesSpec. No condition. -/
set_option linter.unusedVariables false
set_option linter.unusedSimpArgs false
set_option maxRecDepth 100000
namespace Go.Proofs.YtgbpgplkhifgiaaDoor
open Go Go.RowKit

theorem roots_two (seed : List UInt8) (h : Int) (hs : seed.length = 16) : ∃ (R : List UInt8) (e : Int), R.length = 16 ∧
    Spec Tryd.prog glS 17 [.agg (seed.map bw), iv h] [] (fun o => o = .ret (.tup [.agg (R.map bw), .val (.int .i64 e)]) [] []) ∧
    Spec Tryd.prog [] 21 [.agg (seed.map bw), iv h] [] (fun o => o = .ret (.tup [.agg (R.map bw), .val (.int .i64 e)]) [] []) := by
  by_cases hb : 0 ≤ h ∧ h ≤ 4
  · obtain ⟨n, rfl⟩ : ∃ n : Nat, h = n := ⟨h.toNat, by omega⟩
    exact ⟨rootW seed n, 0, rootW_len seed n, rootT_spec seed n (by omega) hs, rrootT_spec seed n (by omega) hs⟩
  · exact ⟨zD, 1, by simp [zD], rootT_bad seed h hb, rrootT_bad seed h hs hb⟩

theorem signs_two (seed m : List UInt8) (h i : Int) (hs : seed.length = 16) (hm : m.length = 16) :
    (∃ (S P : List (List UInt8)), All16 S ∧ All16 P ∧ S.length ≤ 1000000 ∧ P.length ≤ 1000000 ∧
      Spec Tryd.prog glS 22 [.agg (seed.map bw), iv h, iv i, .agg (m.map bw)] [] (fun o => o = .ret (.tup [sigA i true true S P, iv 0]) [] []) ∧
      Spec Tryd.prog [] 23 [.agg (seed.map bw), iv h, iv i, .agg (m.map bw)] [] (fun o => o = .ret (.tup [sigA i true true S P, iv 0]) [] [])) ∨
    (∃ e : Int,
      Spec Tryd.prog glS 22 [.agg (seed.map bw), iv h, iv i, .agg (m.map bw)] [] (fun o => o = .ret (.tup [.agg [iv 0, .val (.slice none 0 0), .val (.slice none 0 0)], iv e]) [] []) ∧
      Spec Tryd.prog [] 23 [.agg (seed.map bw), iv h, iv i, .agg (m.map bw)] [] (fun o => o = .ret (.tup [.agg [iv 0, .val (.slice none 0 0), .val (.slice none 0 0)], iv e]) [] [])) := by
  by_cases hb : ¬ (0 ≤ h ∧ h ≤ 4) ∨ i < 0
  · exact .inr ⟨1, tsign_bad seed h i m hs hm hb, rtsign_bad seed h i m hs hm hb⟩
  · have hv : 0 ≤ h ∧ h ≤ 4 := Decidable.not_not.1 fun a => hb (.inl a)
    have hi : 0 ≤ i := by
      have : ¬ i < 0 := fun a => hb (.inr a)
      omega
    obtain ⟨n, rfl⟩ : ∃ n : Nat, h = n := ⟨h.toNat, by omega⟩
    have hn : n ≤ 4 := by omega
    obtain ⟨j, rfl⟩ : ∃ j : Nat, i = j := ⟨i.toNat, by omega⟩
    by_cases hj : j < 2 ^ n
    · refine .inl ⟨sigL seed j m 68, pathW seed n j, sigL_16 _ _ _ _, path_16 _ _ _, ?_, ?_, tsign_spec seed n j m hn hj hs hm, rtsign_spec seed n j m hn hj hs hm⟩
      · rw [sigL_len]; omega
      · rw [path_len]; omega
    · exact .inr ⟨17, tsign_ex seed n j m hs hm hn (by omega), rtsign_ex seed n j m hs hm hn (by omega)⟩


theorem match_spec (seed m : List UInt8) (h i : Int) (hs : seed.length = 16) (hm : m.length = 16) :
    Spec Tryd.prog glS 4 [.agg (seed.map bw ++ (iv h :: iv i :: m.map bw))] [] (fun o => o = .ret (bv true) [] []) := by
  refine spec_of TB 74 [.tmp 2] Tryd.func4 rfl rfl rfl (Nat.le_of_ble_eq_true rfl) ?_
  intro X w0 E0 hE hX
  have hsl : (seed.map bw).length = 16 := by simp [hs]
  have hml : (m.map bw).length = 16 := by simp [hm]
  have f0 : (seed.map bw ++ (iv h :: iv i :: m.map bw)).length = 34 := by simp [hs, hm]
  have f1 : List.take 16 (seed.map bw ++ (iv h :: iv i :: m.map bw)) = seed.map bw := List.take_left' hsl
  have f2 : (seed.map bw ++ (iv h :: iv i :: m.map bw))[16]? = some (iv h) := by rw [List.getElem?_append_right (by omega), hsl]; rfl
  have f3 : (seed.map bw ++ (iv h :: iv i :: m.map bw))[17]? = some (iv i) := by rw [List.getElem?_append_right (by omega), hsl]; rfl
  have f4 : List.take 16 (List.drop 18 (seed.map bw ++ (iv h :: iv i :: m.map bw))) = m.map bw := by
    rw [List.drop_append, List.drop_eq_nil_of_le (by omega), hsl]
    exact List.take_of_length_le (by simp [hm])
  generalize seed.map bw ++ (iv h :: iv i :: m.map bw) = cs at *
  have za : spl (List.replicate 16 (.val (.int .u8 0))) 0 (seed.map bw) = seed.map bw := spl_all (by simp [hs]) (by simp [hs])
  have zb : spl (List.replicate 16 (.val (.int .u8 0))) 0 (m.map bw) = m.map bw := spl_all (by simp [hm]) (by simp [hm])
  simp only [List.replicate] at za zb
  have zc : List.take 16 (seed.map bw) = seed.map bw := List.take_of_length_le (by simp [hs])
  have zd : List.take 16 (m.map bw) = m.map bw := List.take_of_length_le (by simp [hm])
  simp only [idx, List.map_nil, List.length_nil]
  refine AW_reg TB (fun D K hD hK => ?_)
  simp only [AwS, TS, AwD, aval, aIndex, aSlice, aLen, BN, BW, BS, Int.cast_ofNat_Int, spl, splice, bind, ↓reduceIte, simprocAttr]
  refine hD _ ?_
  clear hD hK D K
  refine AW_reg TB (fun D K hD hK => ?_)
  simp only [AwS, TS, AwD, aval, aIndex, aSlice, aLen, BN, BW, BS, Int.cast_ofNat_Int, spl, splice, bind, ↓reduceIte, simprocAttr, f0, f1, za, hsl, bws_cell, -spl]
  refine hD _ ?_
  clear hD hK D K
  refine AW_reg TB (fun D K hD hK => ?_)
  simp only [AwS, TS, AwD, aval, aIndex, aSlice, aLen, BN, BW, BS, Int.cast_ofNat_Int, spl, splice, bind, ↓reduceIte, simprocAttr, f0, f2]
  refine hD _ ?_
  clear hD hK D K
  refine AW_reg TB (fun D K hD hK => ?_)
  simp only [AwS, TS, AwD, aval, aIndex, aSlice, aLen, BN, BW, BS, Int.cast_ofNat_Int, spl, splice, bind, ↓reduceIte, simprocAttr, f0, f3]
  refine hD _ ?_
  clear hD hK D K
  refine AW_reg TB (fun D K hD hK => ?_)
  simp only [AwS, TS, AwD, aval, aIndex, aSlice, aLen, BN, BW, BS, Int.cast_ofNat_Int, spl, splice, bind, ↓reduceIte, simprocAttr, f0, f4, zb, hml, bws_cell, -spl]
  refine hD _ ?_
  clear hD hK D K
  refine AW_reg TB (fun D K hD hK => ?_)
  simp only [AwS, TS, AwD, aval, aIndex, aSlice, aLen, BN, BW, BS, Int.cast_ofNat_Int, spl, splice, bind, ↓reduceIte, simprocAttr]
  refine hK _ _ ?_
  clear hD hK D K
  refine AL_callG rfl rfl rfl rfl en_20 tsanity_spec [] ?_ (by simp) rfl rfl (by simp [alook, AV.map, cs_map, wws_map]) ?_
  · simp [evs, St.ev, cav, alook, lendA, lentBx, lendC, blook, AVs.map, AV.map, ioMap]
  refine AL_runR TB _ _ (fun D K hD hK => ?_)
  simp only [AwS, TS, AwD, aval, aIndex, aSlice, aLen, BN, BW, BS, Int.cast_ofNat_Int, spl, splice, bind, ↓reduceIte, simprocAttr]
  refine hD _ ?_
  clear hD hK D K
  obtain ⟨R, e, hR, rs, rrs⟩ := roots_two seed h hs
  have hdl0 := hR
  have za0 : spl (List.replicate 16 (.val (.int .u8 0))) 0 (R.map bw) = R.map bw := spl_all (by simp [hdl0]) (by simp [hdl0])
  simp only [List.replicate] at za0
  have zb0 : List.take 16 (R.map bw) = R.map bw := List.take_of_length_le (by simp [hdl0])
  have zc0 : (R.map bw).length = 16 := by simp [hdl0]
  have e5 := eqL_bws R R rfl
  have e6 := fun ti hd => fits_bws ti .u8 hd R
  refine AW_reg TB (fun D K hD hK => ?_)
  simp only [AwS, TS, AwD, aval, aIndex, aSlice, aLen, BN, BW, BS, Int.cast_ofNat_Int, spl, splice, bind, ↓reduceIte, simprocAttr, zc, hsl]
  refine hK _ _ ?_
  clear hD hK D K
  refine AL_callG rfl rfl rfl rfl en_17 rs [] ?_ (by simp) rfl (by simp only [AV.map, AVs.map, bws_map]) (by simp [alook, AV.map, cs_map, wws_map]) ?_
  · simp [evs, St.ev, cav, alook, lendA, lentBx, lendC, blook, AVs.map, AV.map, ioMap, bws_map]
  refine AL_runR TB _ _ (fun D K hD hK => ?_)
  simp only [AwS, TS, AwD, aval, aIndex, aSlice, aLen, BN, BW, BS, Int.cast_ofNat_Int, spl, splice, bind, ↓reduceIte, simprocAttr, za0, zc0, bws_cell, bws_map, -spl]
  refine hD _ ?_
  clear hD hK D K
  refine AW_reg TB (fun D K hD hK => ?_)
  simp only [AwS, TS, AwD, aval, aIndex, aSlice, aLen, BN, BW, BS, Int.cast_ofNat_Int, spl, splice, bind, ↓reduceIte, simprocAttr, zc, hsl]
  refine hK _ _ ?_
  clear hD hK D K
  refine AL_callPW rfl (.inl rfl) rfl rfl en_21 rrs [] ?_ (by simp) (by simp) (by simp only [AV.map, AVs.map, bws_map]) ?_
  · simp [evs, St.ev, cav, alook, lendA, lentBx, lendC, blook, AVs.map, AV.map, ioMap, bws_map]
  refine AL_runR TB _ _ (fun D K hD hK => ?_)
  simp only [AwS, TS, AwD, aval, aIndex, aSlice, aLen, BN, BW, BS, Int.cast_ofNat_Int, spl, splice, bind, ↓reduceIte, simprocAttr, za0, zc0, bws_cell, bws_map, -spl]
  refine hD _ ?_
  clear hD hK D K
  rcases signs_two seed m h i hs hm with ⟨S, P, s16, p16, sl, pl, ts, rts⟩ | ⟨e', ts, rts⟩
  · have sm := rsame_spec i i true true true true S P S P s16 p16 s16 p16 sl pl
    simp only [decide_true, Bool.and_self] at sm
    simp only [sigA] at ts rts sm
    refine AW_reg TB (fun D K hD hK => ?_)
    simp only [AwS, TS, AwD, aval, aIndex, aSlice, aLen, BN, BW, BS, Int.cast_ofNat_Int, spl, splice, bind, ↓reduceIte, simprocAttr, za, hsl, bws_cell, zc, zd, hml]
    refine hK _ _ ?_
    clear hD hK D K
    refine AL_callG rfl rfl rfl rfl en_22 ts [] ?_ (by simp) rfl (by simp only [AV.map, AVs.map, fl_map]) (by simp [alook, AV.map, cs_map, wws_map]) ?_
    · simp [evs, St.ev, cav, alook, lendA, lentBx, lendC, blook, AVs.map, AV.map, ioMap, bws_map]
    refine AL_runR TB _ _ (fun D K hD hK => ?_)
    simp only [AwS, TS, AwD, aval, aIndex, aSlice, aLen, BN, BW, BS, Int.cast_ofNat_Int, spl, splice, bind, ↓reduceIte, simprocAttr, fl_map]
    refine hD _ ?_
    clear hD hK D K
    refine AW_reg TB (fun D K hD hK => ?_)
    simp only [AwS, TS, AwD, aval, aIndex, aSlice, aLen, BN, BW, BS, Int.cast_ofNat_Int, spl, splice, bind, ↓reduceIte, simprocAttr, zc, zd, hsl, hml]
    refine hK _ _ ?_
    clear hD hK D K
    refine AL_callPW rfl (.inl rfl) rfl rfl en_23 rts [] ?_ (by simp) (by simp) (by simp only [AV.map, AVs.map, fl_map]) ?_
    · simp [evs, St.ev, cav, alook, lendA, lentBx, lendC, blook, AVs.map, AV.map, ioMap, bws_map]
    refine AL_runR TB _ _ (fun D K hD hK => ?_)
    simp only [AwS, TS, AwD, aval, aIndex, aSlice, aLen, BN, BW, BS, Int.cast_ofNat_Int, spl, splice, bind, ↓reduceIte, simprocAttr, fl_map]
    refine hD _ ?_
    clear hD hK D K
    refine AW_reg TB (fun D K hD hK => ?_)
    simp only [AwS, TS, AwD, aval, aIndex, aSlice, aLen, BN, BW, BS, Int.cast_ofNat_Int, spl, splice, bind, ↓reduceIte, simprocAttr, zb0, zc0, e5, e6, fl_map]
    refine hK _ _ ?_
    clear hD hK D K
    refine AL_callPW rfl (.inr ⟨11, _, true, rfl, rfl, rfl⟩) rfl rfl en_24 sm [] ?_ (by simp) rfl rfl ?_
    · simp [evs, St.ev, cav, alook, lendA, lentBx, lendC, blook, AVs.map, AV.map, ioMap, fl_map]
    refine AL_runR TB _ _ (fun D K hD hK => ?_)
    simp only [AwS, TS, AwD, aval, aIndex, aSlice, aLen, BN, BW, BS, Int.cast_ofNat_Int, spl, splice, bind, ↓reduceIte, simprocAttr]
    refine hD _ ?_
    clear hD hK D K
    refine AW_ret ?_
    simp only [Ret]
    refine retp (bv true) rfl ?_ rfl rfl
    simp [resOf, resAll, resAV, alook, blook, AV.known, loadC, AwS, TS, TD.isAgg]
  · have n16 : All16 [] := by intro d hd; simp at hd
    have sm := rsame_spec 0 0 true true true true [] [] [] [] n16 n16 n16 n16 (by simp) (by simp)
    simp only [decide_true, Bool.and_self] at sm
    simp only [sigA, show fl [] = [] from rfl, List.length_nil] at sm
    refine AW_reg TB (fun D K hD hK => ?_)
    simp only [AwS, TS, AwD, aval, aIndex, aSlice, aLen, BN, BW, BS, Int.cast_ofNat_Int, spl, splice, bind, ↓reduceIte, simprocAttr, za, hsl, bws_cell, zc, zd, hml]
    refine hK _ _ ?_
    clear hD hK D K
    refine AL_callG rfl rfl rfl rfl en_22 ts [] ?_ (by simp) rfl rfl (by simp [alook, AV.map, cs_map, wws_map]) ?_
    · simp [evs, St.ev, cav, alook, lendA, lentBx, lendC, blook, AVs.map, AV.map, ioMap, bws_map]
    refine AL_runR TB _ _ (fun D K hD hK => ?_)
    simp only [AwS, TS, AwD, aval, aIndex, aSlice, aLen, BN, BW, BS, Int.cast_ofNat_Int, spl, splice, bind, ↓reduceIte, simprocAttr, fl_map]
    refine hD _ ?_
    clear hD hK D K
    refine AW_reg TB (fun D K hD hK => ?_)
    simp only [AwS, TS, AwD, aval, aIndex, aSlice, aLen, BN, BW, BS, Int.cast_ofNat_Int, spl, splice, bind, ↓reduceIte, simprocAttr, zc, zd, hsl, hml]
    refine hK _ _ ?_
    clear hD hK D K
    refine AL_callPW rfl (.inl rfl) rfl rfl en_23 rts [] ?_ (by simp) (by simp) rfl ?_
    · simp [evs, St.ev, cav, alook, lendA, lentBx, lendC, blook, AVs.map, AV.map, ioMap, bws_map]
    refine AL_runR TB _ _ (fun D K hD hK => ?_)
    simp only [AwS, TS, AwD, aval, aIndex, aSlice, aLen, BN, BW, BS, Int.cast_ofNat_Int, spl, splice, bind, ↓reduceIte, simprocAttr, fl_map]
    refine hD _ ?_
    clear hD hK D K
    refine AW_reg TB (fun D K hD hK => ?_)
    simp only [AwS, TS, AwD, aval, aIndex, aSlice, aLen, BN, BW, BS, Int.cast_ofNat_Int, spl, splice, bind, ↓reduceIte, simprocAttr, zb0, zc0, e5, e6, fl_map]
    refine hK _ _ ?_
    clear hD hK D K
    refine AL_callPW rfl (.inr ⟨11, _, true, rfl, rfl, rfl⟩) rfl rfl en_24 sm [] ?_ (by simp) rfl rfl ?_
    · simp [evs, St.ev, cav, alook, lendA, lentBx, lendC, blook, AVs.map, AV.map, ioMap, fl_map]
    refine AL_runR TB _ _ (fun D K hD hK => ?_)
    simp only [AwS, TS, AwD, aval, aIndex, aSlice, aLen, BN, BW, BS, Int.cast_ofNat_Int, spl, splice, bind, ↓reduceIte, simprocAttr]
    refine hD _ ?_
    clear hD hK D K
    refine AW_ret ?_
    simp only [Ret]
    refine retp (bv true) rfl ?_ rfl rfl
    simp [resOf, resAll, resAV, alook, blook, AV.known, loadC, AwS, TS, TD.isAgg]

end Go.Proofs.YtgbpgplkhifgiaaDoor
