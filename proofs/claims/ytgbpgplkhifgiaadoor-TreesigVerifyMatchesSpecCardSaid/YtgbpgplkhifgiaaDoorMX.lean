/- A signature of one's own is valid; bootchainref05.Many; the sanity of the treesig laws. No condition. -/
import Derived.Test.YtgbpgplkhifgiaaDoorMW
set_option linter.unusedVariables false
set_option linter.unusedSimpArgs false
set_option maxRecDepth 100000
namespace Go.Proofs.YtgbpgplkhifgiaaDoor
open Go Go.RowKit

theorem advW_add (k : Int) (v : List UInt8) (a : Nat) : ∀ b : Nat, advW k (advW k v a) b = advW k v (a + b)
  | 0 => rfl
  | b + 1 => by
    have := advW_add k v a b
    show stepW k (advW k (advW k v a) b) = stepW k (advW k v (a + b))
    rw [this]
theorem catK_congr {g g' : Nat → List UInt8} : ∀ (n : Nat), (∀ k, k < n → g k = g' k) → catK g n = catK g' n
  | 0, _ => rfl
  | n + 1, h => by rw [catK_succ, catK_succ, catK_congr n (fun k hk => h k (by omega)), h n (by omega)]
theorem rec_own (seed : List UInt8) (x : Int) (m : List UInt8) : recW m (sigL seed x m 68) = pubW seed x := by
  unfold recW pubW keyOf
  rw [catK_congr 68 (g' := endW seed x)]
  intro k hk
  have hk2 : k < (sigL seed x m 68).length := by rw [sigL_len]; exact hk
  have h1 : (sigL seed x m 68).getD k (List.replicate 16 0) = sigE seed x m k := by
    rw [List.getD_eq_getElem?_getD, List.getElem?_eq_getElem hk2]
    simp [sigL]
  have hd := digs_lt m k
  unfold recE endW
  rw [h1]
  unfold sigE
  rw [advW_add, show (digs m).getD k 0 + (3 - (digs m).getD k 0) = 3 by omega]

theorem path_len (seed : List UInt8) (h i : Nat) : (pathW seed h i).length = h := by
  unfold pathW
  rw [prove_len _ _ _ (Nat.le_refl _), pubs_len, sides_pow]
theorem path_16 (seed : List UInt8) (h i : Nat) : All16 (pathW seed h i) := prove_16 _ _ _ (Nat.le_refl _)
theorem rootW_len (seed : List UInt8) (h : Nat) : (rootW seed h).length = 16 := mroot_len _

theorem verM_own (seed : List UInt8) (h i : Nat) (hi : i < 2 ^ h) : verM (rootW seed h) (2 ^ h) i (pubW seed i) (pathW seed h i) = true := by
  unfold verM
  have h1 : (sidesOf (2 ^ h) i).length = (pathW seed h i).length := by rw [path_len, sides_pow]
  have hi2 : i < (pubs seed (2 ^ h)).length := by rw [pubs_len]; exact hi
  have h2 := prove_up _ (pubs seed (2 ^ h)) i hi2 (Nat.le_refl _)
  have h3 : (pubs seed (2 ^ h))[i] = pubW seed i := by simp [pubs]
  rw [h3, pubs_len] at h2
  rw [decide_eq_true h1, Bool.true_and]
  exact decide_eq_true h2

theorem verT_own (seed : List UInt8) (h i : Nat) (m : List UInt8) (hh : h ≤ 4) (hi : i < 2 ^ h) : verT (rootW seed h) h m i (sigL seed i m 68) (pathW seed h i) = true := by
  unfold verT
  have h1 := verM_own seed h i hi
  rw [rec_own, Int.toNat_natCast, Int.toNat_natCast, h1, decide_eq_true (sigL_len _ _ _ _), decide_eq_true (show (0 : Int) ≤ (h : Int) by omega), decide_eq_true (show (h : Int) ≤ 4 by omega), decide_eq_true (show (0 : Int) ≤ (i : Int) by omega), decide_eq_true (show (i : Int) < ((2 ^ h : Nat) : Int) by omega)]
  rfl

/-- The number of a key pair's one-time keys. -/
def manyZ (h : Int) : Int := if 0 ≤ h ∧ h ≤ 4 then ((2 ^ h.toNat : Nat) : Int) else 0

def manyF (h i : Nat) : St := { nt := 19, nx := 0, tm := [(4, iv (i : Nat)), (3, iv ((2 ^ i : Nat) : Int)), (0, iv (h : Nat))], bx := [], gl := [], df := [] }

theorem many_spec (h : Int) : Spec Tryd.prog [] 28 [iv h] [] (fun o => o = .ret (iv (manyZ h)) [] []) := by
  refine spec_of TB 19 [.tmp 2] Tryd.func28 rfl rfl rfl (Nat.le_of_ble_eq_true rfl) ?_
  intro X w0 E0 hE hX
  simp only [idx, List.map_nil, List.length_nil]
  refine AW_reg TB (fun D K hD hK => ?_)
  simp only [AwS, TS, AwD, aval, aIndex, aSlice, aLen, BN, BW, BS, Int.cast_ofNat_Int, spl, splice, bind, ↓reduceIte, simprocAttr]
  refine hD _ ?_
  clear hD hK D K
  refine AW_seq ?_
  by_cases h0 : h < 0
  · have e1 : (h < 0) = True := eq_true h0
    have hz : manyZ h = 0 := if_neg (by omega)
    refine AW_reg TB (fun D K hD hK => ?_)
    simp only [AwS, TS, AwD, aval, aIndex, aSlice, aLen, BN, BW, BS, Int.cast_ofNat_Int, spl, splice, bind, ↓reduceIte, simprocAttr, e1]
    refine hD _ ?_
    clear hD hK D K
    refine AW_true rfl ?_
    refine AW_reg TB (fun D K hD hK => ?_)
    simp only [AwS, TS, AwD, aval, aIndex, aSlice, aLen, BN, BW, BS, Int.cast_ofNat_Int, spl, splice, bind, ↓reduceIte, simprocAttr]
    refine hD _ ?_
    clear hD hK D K
    refine AW_ret ?_
    simp only [Ret, seqQ]
    refine retp (iv 0) rfl ?_ rfl (by rw [hz])
    simp [resOf, resAll, resAV, alook, blook, AV.known, loadC, AwS, TS, TD.isAgg]
  · have e1 : (h < 0) = False := eq_false h0
    by_cases h4 : 4 < h
    · have e2 : (h > 4) = True := eq_true h4
      have hz : manyZ h = 0 := if_neg (by omega)
      refine AW_reg TB (fun D K hD hK => ?_)
      simp only [AwS, TS, AwD, aval, aIndex, aSlice, aLen, BN, BW, BS, Int.cast_ofNat_Int, spl, splice, bind, ↓reduceIte, simprocAttr, e1, e2]
      refine hD _ ?_
      clear hD hK D K
      refine AW_true rfl ?_
      refine AW_reg TB (fun D K hD hK => ?_)
      simp only [AwS, TS, AwD, aval, aIndex, aSlice, aLen, BN, BW, BS, Int.cast_ofNat_Int, spl, splice, bind, ↓reduceIte, simprocAttr]
      refine hD _ ?_
      clear hD hK D K
      refine AW_ret ?_
      simp only [Ret, seqQ]
      refine retp (iv 0) rfl ?_ rfl (by rw [hz])
      simp [resOf, resAll, resAV, alook, blook, AV.known, loadC, AwS, TS, TD.isAgg]
    · have e2 : (h > 4) = False := eq_false (by omega)
      obtain ⟨n, rfl⟩ : ∃ n : Nat, h = n := ⟨h.toNat, by omega⟩
      have hz : manyZ n = ((2 ^ n : Nat) : Int) := by
        unfold manyZ
        rw [if_pos (by omega), Int.toNat_natCast]
      refine AW_reg TB (fun D K hD hK => ?_)
      simp only [AwS, TS, AwD, aval, aIndex, aSlice, aLen, BN, BW, BS, Int.cast_ofNat_Int, spl, splice, bind, ↓reduceIte, simprocAttr, e1, e2]
      refine hD _ ?_
      clear hD hK D K
      refine AW_false rfl (AW_skip ?_)
      simp only [seqQ]
      refine AW_reg TB (fun D K hD hK => ?_)
      simp only [AwS, TS, AwD, aval, aIndex, aSlice, aLen, BN, BW, BS, Int.cast_ofNat_Int, spl, splice, bind, ↓reduceIte, simprocAttr]
      refine hD _ ?_
      clear hD hK D K
      refine AW_seqk (fun K0 hK0 => ?_)
      refine AW_reg TB (fun D K hD hK => ?_)
      simp only [AwS, TS, AwD, aval, aIndex, aSlice, aLen, BN, BW, BS, Int.cast_ofNat_Int, spl, splice, bind, ↓reduceIte, simprocAttr]
      refine hD _ ?_
      clear hD hK D K
      refine AW_block ?_
      refine AW_loop (manyF n) (fun i => i ≤ n) (fun i => n - i) hE 0 [] (by omega) ?_ ?_
      · refine ⟨rfl, by simp [manyF, alook, AV.map, AVs.map], ⟨rfl, rfl⟩, ?_, ?_, by simp [manyF], by simp [manyF, nmap], ?_⟩
        · simp [manyF, alook, AV.map, AVs.map, nmap, AVs_map_append, ivs_map, yvs_map]
        · simp [manyF, blook, AV.map, AVs.map, nmap, AVs_map_append, ivs_map, yvs_map]
        · intro k hk
          have hk2 : k < 0 := hk
          omega
      intro i hi
      simp only [manyF]
      have hp1 : 1 ≤ 2 ^ i := Nat.one_le_two_pow
      have hp2 : 2 ^ i ≤ 2 ^ 4 := Nat.pow_le_pow_right (by omega) (by omega)
      have hps : 2 ^ (i + 1) = 2 * 2 ^ i := by rw [Nat.pow_succ]; omega
      generalize hq : 2 ^ i = q at *
      refine AW_seq ?_
      refine AW_reg TB (fun D K hD hK => ?_)
      simp only [AwS, TS, AwD, aval, aIndex, aSlice, aLen, BN, BW, BS, Int.cast_ofNat_Int, spl, splice, bind, ↓reduceIte, simprocAttr]
      refine hD _ ?_
      clear hD hK D K
      refine AW_cond rfl (fun h5 => AW_skip ?_) (fun h5 => AW_exit ?_)
      · have hlt : i < n := by simpa using h5
        have w1 : IntKind.i64.wrap ((i : Int) + 1) = (i : Int) + 1 := wrap_i64 (by omega) (by omega)
        have w2 : IntKind.i64.wrap (2 * (q : Int)) = ((2 * q : Nat) : Int) := by rw [wrap_i64 (by omega) (by omega)]; omega
        simp only [seqQ]
        refine AW_seqk (fun K1 hK1 => ?_)
        refine AW_block ?_
        refine AW_regl TB (fun D K hD hK => ?_)
        simp only [AwS, TS, AwD, aval, aIndex, aSlice, aLen, BN, BW, BS, Int.cast_ofNat_Int, spl, splice, bind, ↓reduceIte, simprocAttr, w2]
        refine hD _ ?_
        clear hD hK D K
        simp only [blockQ]
        refine hK1 _ ?_
        refine AW_regl TB (fun D K hD hK => ?_)
        simp only [AwS, TS, AwD, aval, aIndex, aSlice, aLen, BN, BW, BS, Int.cast_ofNat_Int, spl, splice, bind, ↓reduceIte, simprocAttr, w1]
        refine hD _ ?_
        clear hD hK D K
        refine ⟨i + 1, [], by omega, by dsimp only; omega, ?_⟩
        refine ⟨rfl, by simp [manyF, alook, AV.map, AVs.map, hps], ⟨rfl, rfl⟩, ?_, ?_, by simp [manyF], by simp [manyF, nmap], ?_⟩
        · simp [manyF, alook, AV.map, AVs.map, nmap, AVs_map_append, ivs_map, yvs_map, hps]
        · simp [manyF, blook, AV.map, AVs.map, nmap, AVs_map_append, ivs_map, yvs_map, hps]
        · intro k hk
          have hk2 : k < 0 := hk
          omega
      · have hge : i = n := by
          have : ¬ i < n := by simpa using h5
          omega
        subst hge
        refine hK0 _ ?_
        refine AW_reg TB (fun D K hD hK => ?_)
        simp only [AwS, TS, AwD, aval, aIndex, aSlice, aLen, BN, BW, BS, Int.cast_ofNat_Int, spl, splice, bind, ↓reduceIte, simprocAttr]
        refine hD _ ?_
        clear hD hK D K
        refine AW_ret ?_
        simp only [Ret]
        refine retp (iv (q : Nat)) rfl ?_ rfl (by rw [hz, hq])
        simp [resOf, resAll, resAV, alook, blook, AV.known, loadC, AwS, TS, TD.isAgg]
end Go.Proofs.YtgbpgplkhifgiaaDoor

/- The walk of the treesig laws' sanity. No condition. -/
set_option linter.unusedVariables false
set_option linter.unusedSimpArgs false
set_option maxRecDepth 100000
namespace Go.Proofs.YtgbpgplkhifgiaaDoor
open Go Go.RowKit

def d1 : List UInt8 := [1, 0, 0, 0, 0, 0, 0, 0, 0, 0, 0, 0, 0, 0, 0, 0]
def d2 : List UInt8 := [2, 0, 0, 0, 0, 0, 0, 0, 0, 0, 0, 0, 0, 0, 0, 0]
def zV (n : Nat) : AV := .val (.int .u8 n)
theorem d1_eq : d1.map bw = [.val (.int .u8 1), .val (.int .u8 0), .val (.int .u8 0), .val (.int .u8 0), .val (.int .u8 0), .val (.int .u8 0), .val (.int .u8 0), .val (.int .u8 0), .val (.int .u8 0), .val (.int .u8 0), .val (.int .u8 0), .val (.int .u8 0), .val (.int .u8 0), .val (.int .u8 0), .val (.int .u8 0), .val (.int .u8 0)] := rfl
theorem d2_eq : d2.map bw = [.val (.int .u8 2), .val (.int .u8 0), .val (.int .u8 0), .val (.int .u8 0), .val (.int .u8 0), .val (.int .u8 0), .val (.int .u8 0), .val (.int .u8 0), .val (.int .u8 0), .val (.int .u8 0), .val (.int .u8 0), .val (.int .u8 0), .val (.int .u8 0), .val (.int .u8 0), .val (.int .u8 0), .val (.int .u8 0)] := rfl
theorem d1_len : d1.length = 16 := rfl
theorem d2_len : d2.length = 16 := rfl


theorem tsanity_spec : Spec Tryd.prog glS 20 [] [] (fun o => o = .ret (bv true) [] []) := by
  refine spec_of TB 78 [.tmp 0] Tryd.func20 rfl rfl rfl (Nat.le_of_ble_eq_true rfl) ?_
  intro X w0 E0 hE hX
  simp only [idx, List.map_nil, List.length_nil]
  refine AW_reg TB (fun D K hD hK => ?_)
  simp only [AwS, TS, AwD, aval, aIndex, aSlice, aLen, BN, BW, BS, Int.cast_ofNat_Int, spl, splice, bind, ↓reduceIte, simprocAttr]
  refine hD _ ?_
  clear hD hK D K
  refine AW_reg TB (fun D K hD hK => ?_)
  simp only [AwS, TS, AwD, aval, aIndex, aSlice, aLen, BN, BW, BS, Int.cast_ofNat_Int, spl, splice, bind, ↓reduceIte, simprocAttr]
  refine hD _ ?_
  clear hD hK D K
  refine AW_reg TB (fun D K hD hK => ?_)
  simp only [AwS, TS, AwD, aval, aIndex, aSlice, aLen, BN, BW, BS, Int.cast_ofNat_Int, spl, splice, bind, ↓reduceIte, simprocAttr]
  refine hK _ _ ?_
  clear hD hK D K
  have rs := rootT_spec d1 1 (by omega) d1_len
  have v1 := verT_own d1 1 1 d2 (by omega) (by omega)
  have pl := path_len d1 1 1
  have p16 := path_16 d1 1 1
  have s16 := sigL_16 d1 (1 : Nat) d2 68
  have sl := sigL_len d1 (1 : Nat) d2 68
  have ts := tsign_spec d1 1 1 d2 (by omega) (by omega) d1_len d2_len
  have te := tsign_ex d1 1 2 d2 d1_len d2_len (by omega) (by simp)
  have tb := tsign_bad d1 5 0 d2 d1_len d2_len (.inl (by omega))
  generalize pathW d1 1 1 = P at *
  generalize sigL d1 (1 : Nat) d2 68 = S at *
  have hdl0 := rootW_len d1 1
  generalize rootW d1 1 = D0 at *
  have za0 : spl (List.replicate 16 (.val (.int .u8 0))) 0 (D0.map bw) = D0.map bw := spl_all (by simp [hdl0]) (by simp [hdl0])
  simp only [List.replicate] at za0
  have zb0 : List.take 16 (D0.map bw) = D0.map bw := List.take_of_length_le (by simp [hdl0])
  have zc0 : (D0.map bw).length = 16 := by simp [hdl0]
  have q1 := tverify_spec D0 1 d2 1 true true S P hdl0 d2_len s16 p16 (by omega) (by omega)
  have q2 := tverify_spec D0 0 d2 1 true true S P hdl0 d2_len s16 p16 (by omega) (by omega)
  have q3 := same_spec 1 1 true true true true S P S P s16 p16 s16 p16 (by omega) (by omega)
  have q4 := same_spec 1 0 true true true true S P [] [] s16 p16 (by intro d hd; simp at hd) (by intro d hd; simp at hd) (by omega) (by omega)
  have e1 : verT D0 1 d2 1 S P = true := v1
  have e2 : verT D0 0 d2 1 S P = false := by
    unfold verT
    simp
  rw [e1] at q1
  rw [e2] at q2
  simp only [d1_eq, d2_eq, sigA] at rs ts te tb q1 q2 q3 q4
  simp only [decide_true, Bool.and_self] at q3
  simp only [show decide ((1 : Int) = 0) = false from rfl, Bool.false_and, show fl [] = [] from rfl, List.length_nil] at q4
  have l1 : ((P.length : Nat) : Int) = 1 := by omega
  refine AL_callG rfl rfl rfl rfl en_17 rs [] ?_ (by simp) rfl (by simp only [AV.map, AVs.map, bws_map]) (by simp [alook, AV.map, cs_map, wws_map]) ?_
  · simp [evs, St.ev, cav, alook, lendA, lentBx, lendC, blook, AVs.map, AV.map, ioMap]
  refine AL_runR TB _ _ (fun D K hD hK => ?_)
  simp only [AwS, TS, AwD, aval, aIndex, aSlice, aLen, BN, BW, BS, Int.cast_ofNat_Int, spl, splice, bind, ↓reduceIte, simprocAttr, za0, zc0, bws_cell, bws_map, -spl]
  refine hD _ ?_
  clear hD hK D K
  refine AW_reg TB (fun D K hD hK => ?_)
  simp only [AwS, TS, AwD, aval, aIndex, aSlice, aLen, BN, BW, BS, Int.cast_ofNat_Int, spl, splice, bind, ↓reduceIte, simprocAttr]
  refine hK _ _ ?_
  clear hD hK D K
  refine AL_callG rfl rfl rfl rfl en_22 ts [] ?_ (by simp) rfl (by simp only [AV.map, AVs.map, fl_map]) (by simp [alook, AV.map, cs_map, wws_map]) ?_
  · simp [evs, St.ev, cav, alook, lendA, lentBx, lendC, blook, AVs.map, AV.map, ioMap]
  refine AL_runR TB _ _ (fun D K hD hK => ?_)
  simp only [AwS, TS, AwD, aval, aIndex, aSlice, aLen, BN, BW, BS, Int.cast_ofNat_Int, spl, splice, bind, ↓reduceIte, simprocAttr, fl_map]
  refine hD _ ?_
  clear hD hK D K
  refine AW_reg TB (fun D K hD hK => ?_)
  simp only [AwS, TS, AwD, aval, aIndex, aSlice, aLen, BN, BW, BS, Int.cast_ofNat_Int, spl, splice, bind, ↓reduceIte, simprocAttr]
  refine hK _ _ ?_
  clear hD hK D K
  refine AL_callG rfl rfl rfl rfl en_22 te [] ?_ (by simp) rfl rfl (by simp [alook, AV.map, cs_map, wws_map]) ?_
  · simp [evs, St.ev, cav, alook, lendA, lentBx, lendC, blook, AVs.map, AV.map, ioMap]
  refine AL_runR TB _ _ (fun D K hD hK => ?_)
  simp only [AwS, TS, AwD, aval, aIndex, aSlice, aLen, BN, BW, BS, Int.cast_ofNat_Int, spl, splice, bind, ↓reduceIte, simprocAttr]
  refine hD _ ?_
  clear hD hK D K
  refine AW_reg TB (fun D K hD hK => ?_)
  simp only [AwS, TS, AwD, aval, aIndex, aSlice, aLen, BN, BW, BS, Int.cast_ofNat_Int, spl, splice, bind, ↓reduceIte, simprocAttr]
  refine hK _ _ ?_
  clear hD hK D K
  refine AL_callG rfl rfl rfl rfl en_22 tb [] ?_ (by simp) rfl rfl (by simp [alook, AV.map, cs_map, wws_map]) ?_
  · simp [evs, St.ev, cav, alook, lendA, lentBx, lendC, blook, AVs.map, AV.map, ioMap]
  refine AL_runR TB _ _ (fun D K hD hK => ?_)
  simp only [AwS, TS, AwD, aval, aIndex, aSlice, aLen, BN, BW, BS, Int.cast_ofNat_Int, spl, splice, bind, ↓reduceIte, simprocAttr]
  refine hD _ ?_
  clear hD hK D K
  refine AW_reg TB (fun D K hD hK => ?_)
  simp only [AwS, TS, AwD, aval, aIndex, aSlice, aLen, BN, BW, BS, Int.cast_ofNat_Int, spl, splice, bind, ↓reduceIte, simprocAttr, l1, zb0, zc0, fl_map]
  refine hK _ _ ?_
  clear hD hK D K
  refine AL_callGW rfl (.inr ⟨20, _, true, rfl, rfl, rfl⟩) rfl rfl en_19 q1 [] ?_ (by simp) rfl rfl (by simp [alook, AV.map, cs_map, wws_map]) ?_
  · simp [evs, St.ev, cav, alook, lendA, lentBx, lendC, blook, AVs.map, AV.map, ioMap, bws_map, fl_map]
  refine AL_runR TB _ _ (fun D K hD hK => ?_)
  simp only [AwS, TS, AwD, aval, aIndex, aSlice, aLen, BN, BW, BS, Int.cast_ofNat_Int, spl, splice, bind, ↓reduceIte, simprocAttr, zb0, zc0, fl_map]
  refine hK _ _ ?_
  clear hD hK D K
  refine AL_callGW rfl (.inr ⟨26, _, true, rfl, rfl, rfl⟩) rfl rfl en_19 q2 [] ?_ (by simp) rfl rfl (by simp [alook, AV.map, cs_map, wws_map]) ?_
  · simp [evs, St.ev, cav, alook, lendA, lentBx, lendC, blook, AVs.map, AV.map, ioMap, bws_map, fl_map]
  refine AL_runR TB _ _ (fun D K hD hK => ?_)
  simp only [AwS, TS, AwD, aval, aIndex, aSlice, aLen, BN, BW, BS, Int.cast_ofNat_Int, spl, splice, bind, ↓reduceIte, simprocAttr, zb0, zc0, fl_map]
  refine hK _ _ ?_
  clear hD hK D K
  refine AL_callPW rfl (.inr ⟨33, _, true, rfl, rfl, rfl⟩) rfl rfl en_27 q3 [] ?_ (by simp) rfl rfl ?_
  · simp [evs, St.ev, cav, alook, lendA, lentBx, lendC, blook, AVs.map, AV.map, ioMap, fl_map]
  refine AL_runR TB _ _ (fun D K hD hK => ?_)
  simp only [AwS, TS, AwD, aval, aIndex, aSlice, aLen, BN, BW, BS, Int.cast_ofNat_Int, spl, splice, bind, ↓reduceIte, simprocAttr, fl_map]
  refine hK _ _ ?_
  clear hD hK D K
  refine AL_callPW rfl (.inr ⟨38, _, true, rfl, rfl, rfl⟩) rfl rfl en_27 q4 [] ?_ (by simp) rfl rfl ?_
  · simp [evs, St.ev, cav, alook, lendA, lentBx, lendC, blook, AVs.map, AV.map, ioMap, fl_map]
  refine AL_runR TB _ _ (fun D K hD hK => ?_)
  simp only [AwS, TS, AwD, aval, aIndex, aSlice, aLen, BN, BW, BS, Int.cast_ofNat_Int, spl, splice, bind, ↓reduceIte, simprocAttr, fl_map]
  refine hD _ ?_
  clear hD hK D K
  refine AW_ret ?_
  simp only [Ret]
  refine retp (bv true) rfl ?_ rfl rfl
  simp [resOf, resAll, resAV, alook, blook, AV.known, loadC, AwS, TS, TD.isAgg]
end Go.Proofs.YtgbpgplkhifgiaaDoor
