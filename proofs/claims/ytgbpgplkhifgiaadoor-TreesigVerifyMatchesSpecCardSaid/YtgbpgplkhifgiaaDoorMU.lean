/- The walks of wots.advance and wots.start. No condition. -/
import Derived.Test.YtgbpgplkhifgiaaDoorMT
set_option linter.unusedVariables false
set_option linter.unusedSimpArgs false
set_option maxRecDepth 100000
namespace Go.Proofs.YtgbpgplkhifgiaaDoor
open Go Go.RowKit

/-- Parts that are all lent. -/
def lp (ps : List (List UInt8)) : List (Bool × List UInt8) := ps.map fun p => (false, p)

def stepW (k : Int) (v : List UInt8) : List UInt8 := dig 3 (lp [wInt k, v])
def advW (k : Int) (v : List UInt8) : Nat → List UInt8
  | 0 => v
  | n + 1 => stepW k (advW k v n)

theorem advW_len (k : Int) (v : List UInt8) (hv : v.length = 16) : ∀ n, (advW k v n).length = 16
  | 0 => hv
  | n + 1 => dig_len _ _

def advF (k : Int) (v : List UInt8) (n i : Nat) : St := { nt := 17, nx := 2, tm := [(8, iv i), (7, iv n), (6, .ptr 1 0), (4, .ptr 0 0), (0, iv k)], bx := [(0, some ((advW k v i).map bw)), (1, some (zB 16))], gl := glS, df := [] }

theorem advance_spec (k : Int) (v : List UInt8) (n : Nat) (hv : v.length = 16) (hk1 : -9223372036854775808 ≤ k) (hk2 : k < 9223372036854775808) (hn : n ≤ 1000) :
    Spec Tryd.prog glS 70 [iv k, .agg (v.map bw), iv n] [] (fun o => o = .ret (.agg ((advW k v n).map bw)) [] []) := by
  refine spec_of TB 17 [.cell 6 23] Tryd.func70 rfl rfl rfl (Nat.le_of_ble_eq_true rfl) ?_
  intro X w0 E0 hE hX
  have hKm : ∀ f : Nat → Nat, AVs.map f (KS.map ww) = KS.map ww := fun f => wws_map f _
  simp only [idx, List.map_nil, List.length_nil]
  refine AW_reg TB (fun D K hD hK => ?_)
  simp only [AwS, TS, AwD, aval, aIndex, aSlice, aLen, BN, BW, BS, Int.cast_ofNat_Int, spl, splice, bind, ↓reduceIte, simprocAttr]
  refine hD _ ?_
  clear hD hK D K
  refine AW_seqk (fun K0 hK0 => ?_)
  refine AW_reg TB (fun D K hD hK => ?_)
  simp only [AwS, TS, AwD, aval, aIndex, aSlice, aLen, BN, BW, BS, Int.cast_ofNat_Int, spl, splice, bind, ↓reduceIte, simprocAttr]
  refine hD _ ?_
  clear hD hK D K
  refine AW_block ?_
  refine AW_loop (advF k v n) (fun i => i ≤ n) (fun i => n - i) hE 0 [(0, 0), (1, 8)] (by omega) ?_ ?_
  · refine ⟨rfl, by simp [advF, alook, AV.map, AVs.map, hKm, cs_map, bws_map, zB, rep_map, advW], ⟨rfl, rfl⟩, ?_, ?_, by simp [advF], by simp [advF, nmap], ?_⟩
    · simp [advF, alook, AV.map, AVs.map, nmap, AVs_map_append, ivs_map, yvs_map, hKm, cs_map, bws_map, zB, rep_map, advW]
    · simp [advF, blook, AV.map, AVs.map, nmap, AVs_map_append, ivs_map, yvs_map, hKm, cs_map, bws_map, zB, rep_map, advW]
    · intro k hk
      have hk2 : k < 0 := hk
      omega
  intro i hi
  simp only [advF]
  have hal := advW_len k v hv i
  have hsu : advW k v (i + 1) = stepW k (advW k v i) := rfl
  generalize ha : advW k v i = a at hal hsu
  refine AW_reg TB (fun D K hD hK => ?_)
  simp only [AwS, TS, AwD, aval, aIndex, aSlice, aLen, BN, BW, BS, Int.cast_ofNat_Int, spl, splice, bind, ↓reduceIte, simprocAttr]
  refine hD _ ?_
  clear hD hK D K
  refine AW_seq (AW_cond rfl (fun h => AW_skip ?_) (fun h => AW_exit ?_))
  · have hlt : i < n := by simpa using h
    have w1 : IntKind.i64.wrap ((i : Int) + 1) = (i : Int) + 1 := wrap_i64 (by omega) (by omega)
    have n1 : ((1 : Nat) ≠ 0) = True := by simp
    have a1 : (a.map bw).length = 16 := by simp [hal]
    have a2 : List.take 16 (a.map bw) = a.map bw := List.take_of_length_le (by simp [hal])
    refine AW_seqk (fun K1 hK1 => ?_)
    refine AW_block ?_
    refine AW_dregl TB mx ([[], [0], [], [1, 0, 2], [3, 1, 0, 2], [4, 3, 1, 0, 2]]) (by kernel_rfl) (by kernel_rfl) (fun D K hD hK => ?_)
    simp only [AwS, TS, AwD, aval, aIndex, aSlice, aLen, BN, BW, BS, Int.cast_ofNat_Int, spl, splice, bind, ↓reduceIte, simprocAttr, Op.operands, Call.operands, List.toList_toArray, List.size_toArray, cmp, List.getD_cons_zero, List.getD_cons_succ, Array.toList_append, Option.toArray, List.append_toArray,  n1, a1]
    refine hK _ _ _ _ ?_
    clear hD hK D K
    refine DL_call rfl rfl rfl rfl rfl en_105 (wint_spec k hk1 hk2) (fun out h => h) [] [] rfl rfl (by simp) (by simp) ?_ (by simp) (by simp) (by simp) rfl (by simp) rfl ?_
    · simp [evs, St.ev, cav, alook, lendA, lentBx, lendC, blook, AVs.map, AV.map, ioMap]
    have hwl := wInt_len k
    refine DL_rest TB rfl (fun D K hD hK => ?_)
    simp only [AwS, TS, AwD, aval, aIndex, aSlice, aLen, BN, BW, BS, Int.cast_ofNat_Int, spl, splice, bind, ↓reduceIte, simprocAttr, Op.operands, Call.operands, List.toList_toArray, List.size_toArray, cmp, List.getD_cons_zero, List.getD_cons_succ, Array.toList_append, Option.toArray, List.append_toArray, n1, a1, bws_map]
    refine hK _ _ _ _ ?_
    clear hD hK D K
    have hps : (wAll (lp [wInt k, a])).length ≤ 10000000 := by
      have h1 := wBytes_len (wInt k)
      have h2 := wBytes_len a
      simp [wAll, lp]
      omega
    have ds := digest_spec 3 false (lp [wInt k, a]) (by simp [lp]) hps
    have hst : dig (byteOf 3) (lp [wInt k, a]) = stepW k a := rfl
    rw [hst] at ds
    refine DL_call rfl rfl rfl rfl rfl en_81 ds (fun out h => h) [] [34, 18, 0] rfl rfl (by simp) (by simp) ?_ (by simp) (by simp [blook]) (by simp [alook, AV.map, cs_map, wws_map]) (by simp [keptAll, AV.kept, bws_kept]) (by simp) rfl ?_
    · simp [evs, St.ev, cav, alook, lendA, lentBx, lendC, blook, AVs.map, AV.map, ioMap, bws_map, -List.map_map, lendC_bws, bws_take, a2, lp, pA, hal]
    have hsl : (stepW k a).length = 16 := dig_len _ _
    rw [← hsu]
    rw [← hsu] at hsl
    generalize hs2 : advW k v (i + 1) = s at hsl
    have z1 : spl (a.map bw) 0 (s.map bw) = s.map bw := spl_all (by simp [hsl, hal]) (by simp [hsl])
    have z3 : (s.map bw).length = 16 := by simp [hsl]
    refine DL_rest TB rfl (fun D K hD hK => ?_)
    simp only [AwS, TS, AwD, aval, aIndex, aSlice, aLen, BN, BW, BS, Int.cast_ofNat_Int, spl, splice, bind, ↓reduceIte, simprocAttr, Op.operands, Call.operands, List.toList_toArray, List.size_toArray, cmp, List.getD_cons_zero, List.getD_cons_succ, Array.toList_append, Option.toArray, List.append_toArray, z1, z3, a1, bws_cell, bws_map, -spl]
    refine hD _ ?_
    clear hD hK D K
    refine hK1 _ ?_
    refine AW_regl TB (fun D K hD hK => ?_)
    simp only [AwS, TS, AwD, aval, aIndex, aSlice, aLen, BN, BW, BS, Int.cast_ofNat_Int, spl, splice, bind, ↓reduceIte, simprocAttr, w1]
    refine hD _ ?_
    clear hD hK D K
    refine ⟨i + 1, [(0, 0), (1, 1)], by omega, by dsimp only; omega, ?_⟩
    refine ⟨rfl, by simp [advF, alook, AV.map, AVs.map, hKm, cs_map, bws_map, zB, rep_map, hs2], ⟨rfl, rfl⟩, ?_, ?_, by simp [advF], by simp [advF, nmap], ?_⟩
    · simp [advF, alook, AV.map, AVs.map, nmap, AVs_map_append, ivs_map, yvs_map, hKm, cs_map, bws_map, zB, rep_map, hs2]
    · simp [advF, blook, AV.map, AVs.map, nmap, AVs_map_append, ivs_map, yvs_map, hKm, cs_map, bws_map, zB, rep_map, hs2]
    · intro k hk
      have hk2 : k < 0 := hk
      omega
  · have hge : i = n := by
      have : ¬ i < n := by simpa using h
      omega
    subst hge
    refine hK0 _ ?_
    have a1 : (a.map bw).length = 16 := by simp [hal]
    have a2 : List.take 16 (a.map bw) = a.map bw := List.take_of_length_le (by simp [hal])
    have z1 : spl (zB 16) 0 (a.map bw) = a.map bw := spl_all (by simp [hal, zB]) (by simp [hal])
    have z2 : (zB 16).length = 16 := by simp [zB]
    refine AW_reg TB (fun D K hD hK => ?_)
    simp only [AwS, TS, AwD, aval, aIndex, aSlice, aLen, BN, BW, BS, Int.cast_ofNat_Int, spl, splice, bind, ↓reduceIte, simprocAttr, a1, a2, z1, z2, bws_cell, -spl]
    refine hD _ ?_
    clear hD hK D K
    refine AW_ret ?_
    simp only [Ret]
    refine retp (.agg (a.map bw)) rfl ?_ (by simp only [AV.map, bws_map]) (by rw [ha])
    simp only [resOf, resAll, resAV, AwS, TS, AwD, aval, aIndex, aSlice, aLen, BN, BW, BS, Int.cast_ofNat_Int, spl, splice, bind, ↓reduceIte, simprocAttr, a1, a2]

def wotsL : List UInt8 := [119, 111, 116, 115]
def startW (seed : List UInt8) (i k : Int) : List UInt8 := derive seed wotsL (lp [wInt i, wInt k])
theorem startW_len (seed : List UInt8) (i k : Int) : (startW seed i k).length = 16 := mac_len _ _

theorem start_spec (seed : List UInt8) (i k : Int) (hs : seed.length = 16) (hi1 : -9223372036854775808 ≤ i) (hi2 : i < 9223372036854775808) (hk1 : -9223372036854775808 ≤ k) (hk2 : k < 9223372036854775808) :
    Spec Tryd.prog glS 75 [.agg (seed.map bw), iv i, iv k] [] (fun o => o = .ret (.agg ((startW seed i k).map bw)) [] []) := by
  refine spec_of TB 14 [.cell 6 23] Tryd.func75 rfl rfl rfl (Nat.le_of_ble_eq_true rfl) ?_
  intro X w0 E0 hE hX
  have n1 : ((1 : Nat) ≠ 0) = True := by simp
  have a1 : (seed.map bw).length = 16 := by simp [hs]
  have a2 : List.take 16 (seed.map bw) = seed.map bw := List.take_of_length_le (by simp [hs])
  have hwi := wInt_len i
  have hwk := wInt_len k
  simp only [idx, List.map_nil, List.length_nil]
  refine AW_reg TB (fun D K hD hK => ?_)
  simp only [AwS, TS, AwD, aval, aIndex, aSlice, aLen, BN, BW, BS, Int.cast_ofNat_Int, spl, splice, bind, ↓reduceIte, simprocAttr]
  refine hD _ ?_
  clear hD hK D K
  refine AW_dreg TB mx ([[], [], [1], [], [3, 2, 1], [2, 1, 4, 3], [0, 5, 2, 1, 4, 3], [6, 0, 5, 2, 1, 4, 3]]) (by kernel_rfl) (by kernel_rfl) (fun D K hD hK => ?_)
  simp only [AwS, TS, AwD, aval, aIndex, aSlice, aLen, BN, BW, BS, Int.cast_ofNat_Int, spl, splice, bind, ↓reduceIte, simprocAttr, Op.operands, Call.operands, List.toList_toArray, List.size_toArray, cmp, List.getD_cons_zero, List.getD_cons_succ, Array.toList_append, Option.toArray, List.append_toArray,  n1, a1]
  refine hK _ _ _ _ ?_
  clear hD hK D K
  refine DL_call rfl rfl rfl rfl rfl en_105 (wint_spec i hi1 hi2) (fun out h => h) [] [] rfl rfl (by simp) (by simp) ?_ (by simp) (by simp) (by simp) rfl (by simp) rfl ?_
  · simp [evs, St.ev, cav, alook, lendA, lentBx, lendC, blook, AVs.map, AV.map, ioMap]
  refine DL_rest TB rfl (fun D K hD hK => ?_)
  simp only [AwS, TS, AwD, aval, aIndex, aSlice, aLen, BN, BW, BS, Int.cast_ofNat_Int, spl, splice, bind, ↓reduceIte, simprocAttr, Op.operands, Call.operands, List.toList_toArray, List.size_toArray, cmp, List.getD_cons_zero, List.getD_cons_succ, Array.toList_append, Option.toArray, List.append_toArray, bws_map]
  refine hK _ _ _ _ ?_
  clear hD hK D K
  refine DL_call rfl rfl rfl rfl rfl en_105 (wint_spec k hk1 hk2) (fun out h => h) [] [] rfl rfl (by simp) (by simp) ?_ (by simp) (by simp) (by simp) rfl (by simp) rfl ?_
  · simp [evs, St.ev, cav, alook, lendA, lentBx, lendC, blook, AVs.map, AV.map, ioMap]
  refine DL_rest TB rfl (fun D K hD hK => ?_)
  simp only [AwS, TS, AwD, aval, aIndex, aSlice, aLen, BN, BW, BS, Int.cast_ofNat_Int, spl, splice, bind, ↓reduceIte, simprocAttr, Op.operands, Call.operands, List.toList_toArray, List.size_toArray, cmp, List.getD_cons_zero, List.getD_cons_succ, Array.toList_append, Option.toArray, List.append_toArray, bws_map]
  refine hK _ _ _ _ ?_
  clear hD hK D K
  have hps : (wAll (lp [wInt i, wInt k])).length ≤ 1000000 := by
    have h1 := wBytes_len (wInt i)
    have h2 := wBytes_len (wInt k)
    simp [wAll, lp]
    omega
  have ds := derive_spec false false seed wotsL (lp [wInt i, wInt k]) (by omega) (by decide) (by simp [lp]) hps
  have hst : derive seed wotsL (lp [wInt i, wInt k]) = startW seed i k := rfl
  rw [hst] at ds
  trace_state
  refine DL_call rfl rfl rfl rfl rfl en_109 ds (fun out h => h) [] [0, 32, 48, 56] rfl rfl (by simp) (by simp) ?_ (by simp) (by simp [blook]) (by simp [alook, AV.map, cs_map, wws_map]) (by simp [keptAll, AV.kept, bws_kept]) (by simp) rfl ?_
  · simp [evs, St.ev, cav, alook, lendA, lentBx, lendC, blook, AVs.map, AV.map, ioMap, bws_map, -List.map_map, lendC_bws, bws_take, a2, lp, pA, hs, strOf, wotsL]
  have hdl := startW_len seed i k
  generalize startW seed i k = d at hdl
  have z1 : spl (List.replicate 16 (.val (.int .u8 0))) 0 (d.map bw) = d.map bw := spl_all (by simp [hdl]) (by simp [hdl])
  simp only [List.replicate] at z1
  have z2 : List.take 16 (d.map bw) = d.map bw := List.take_of_length_le (by simp [hdl])
  have z3 : (d.map bw).length = 16 := by simp [hdl]
  refine DL_rest TB rfl (fun D K hD hK => ?_)
  simp only [AwS, TS, AwD, aval, aIndex, aSlice, aLen, BN, BW, BS, Int.cast_ofNat_Int, spl, splice, bind, ↓reduceIte, simprocAttr, Op.operands, Call.operands, List.toList_toArray, List.size_toArray, cmp, List.getD_cons_zero, List.getD_cons_succ, Array.toList_append, Option.toArray, List.append_toArray, z1, z2, z3, bws_cell, bws_map, -spl]
  refine hD _ ?_
  clear hD hK D K
  refine AW_ret ?_
  simp only [Ret]
  refine retp (.agg (d.map bw)) rfl ?_ (by simp only [AV.map, bws_map]) rfl
  simp only [resOf, resAll, resAV, AwS, TS, AwD, aval, aIndex, aSlice, aLen, BN, BW, BS, Int.cast_ofNat_Int, spl, splice, bind, ↓reduceIte, simprocAttr, z2, z3]

end Go.Proofs.YtgbpgplkhifgiaaDoor

/- The walks of wots.key and wots.Public. No condition. -/
set_option linter.unusedVariables false
set_option linter.unusedSimpArgs false
set_option maxRecDepth 100000
namespace Go.Proofs.YtgbpgplkhifgiaaDoor
open Go Go.RowKit

def catK (g : Nat → List UInt8) (n : Nat) : List UInt8 := (List.range n).flatMap g
theorem catK_succ (g : Nat → List UInt8) (n : Nat) : catK g (n + 1) = catK g n ++ g n := by simp [catK, List.range_succ]
theorem catK_len (g : Nat → List UInt8) (hg : ∀ k, (g k).length = 16) (n : Nat) : (catK g n).length = 16 * n := by
  induction n with
  | zero => rfl
  | succ n ih => rw [catK_succ, List.length_append, ih, hg]; omega
def keyOf (g : Nat → List UInt8) : List UInt8 := dig 4 (lp [catK g 68])
theorem keyOf_len (g : Nat → List UInt8) : (keyOf g).length = 16 := dig_len _ _

def keyF (K' : FuncId) (io0 io1 : List AV) (g : Nat → List UInt8) (i : Nat) : St :=
  { nt := 19, nx := 4, tm := [(6, iv i), (3, .sl 2 0 (catK g i).length 1 (some 5)), (2, .ptr 3 0), (0, .clo K' [.ptr 0 0, .ptr 1 0])], bx := [(0, some io0), (1, some io1), (2, some ((catK g i).map bw)), (3, some (zB 16))], gl := glS, df := [] }

theorem key_spec (K' : FuncId) (hen : Enters Tryd.prog K') (io0 io1 : List AV) (hf0 : Flats io0) (hf1 : Flats io1) (hn0 : io0 ≠ []) (hn1 : io1 ≠ []) (g : Nat → List UInt8) (hg : ∀ k, (g k).length = 16)
    (hcl : ∀ k : Nat, k < 68 → Spec Tryd.prog glS K' [iv k, .ptr 0 0, .ptr 1 0] [io0, io1] (fun o => o = .ret (.agg ((g k).map bw)) [io0, io1] [])) :
    Spec Tryd.prog glS 68 [.clo K' [.ptr 0 0, .ptr 1 0]] [io0, io1] (fun o => o = .ret (.agg ((keyOf g).map bw)) [io0, io1] []) := by
  refine spec_of TB 19 [.cell 2 23] Tryd.func68 rfl rfl rfl (Nat.le_of_ble_eq_true rfl) ?_
  intro X w0 E0 hE hX
  have hKm : ∀ f : Nat → Nat, AVs.map f (KS.map ww) = KS.map ww := fun f => wws_map f _
  have hm0 : ∀ f : Nat → Nat, AVs.map f io0 = io0 := hf0
  have hm1 : ∀ f : Nat → Nat, AVs.map f io1 = io1 := hf1
  have n1 : ((1 : Nat) ≠ 0) = True := by simp
  simp only [idx, List.map_cons, List.map_nil, List.length_cons, List.length_nil]
  refine AW_reg TB (fun D K hD hK => ?_)
  simp only [AwS, TS, AwD, aval, aIndex, aSlice, aLen, BN, BW, BS, Int.cast_ofNat_Int, spl, splice, bind, ↓reduceIte, simprocAttr]
  refine hD _ ?_
  clear hD hK D K
  refine AW_reg TB (fun D K hD hK => ?_)
  simp only [AwS, TS, AwD, aval, aIndex, aSlice, aLen, BN, BW, BS, Int.cast_ofNat_Int, spl, splice, bind, ↓reduceIte, simprocAttr]
  refine hD _ ?_
  clear hD hK D K
  refine AW_seqk (fun K0 hK0 => ?_)
  refine AW_reg TB (fun D K hD hK => ?_)
  simp only [AwS, TS, AwD, aval, aIndex, aSlice, aLen, BN, BW, BS, Int.cast_ofNat_Int, spl, splice, bind, ↓reduceIte, simprocAttr]
  refine hD _ ?_
  clear hD hK D K
  refine AW_block ?_
  refine AW_loop (keyF K' io0 io1 g) (fun i => i ≤ 68) (fun i => 68 - i) hE 0 [(0, 0), (1, 1), (2, 10), (3, 2)] (by omega) ?_ ?_
  · refine ⟨rfl, by simp [keyF, alook, AV.map, AVs.map, hKm, hm0, hm1, cs_map, bws_map, zB, rep_map, catK], ⟨rfl, rfl⟩, ?_, ?_, by simp [keyF], by simp [keyF, nmap], ?_⟩
    · simp [keyF, alook, AV.map, AVs.map, nmap, AVs_map_append, ivs_map, yvs_map, hKm, hm0, hm1, cs_map, bws_map, zB, rep_map, catK]
    · simp [keyF, blook, AV.map, AVs.map, nmap, AVs_map_append, ivs_map, yvs_map, hKm, hm0, hm1, cs_map, bws_map, zB, rep_map, catK]
    · intro k hk
      have hk2 : k < 2 := hk
      rcases k with _ | _ | k <;> first | rfl | omega
  intro i hi
  simp only [keyF]
  have hcs := catK_succ g i
  have hcl2 := catK_len g hg i
  generalize hc : catK g i = c at hcs hcl2
  refine AW_reg TB (fun D K hD hK => ?_)
  simp only [AwS, TS, AwD, aval, aIndex, aSlice, aLen, BN, BW, BS, Int.cast_ofNat_Int, spl, splice, bind, ↓reduceIte, simprocAttr]
  refine hD _ ?_
  clear hD hK D K
  refine AW_seq (AW_cond rfl (fun h => AW_skip ?_) (fun h => AW_exit ?_))
  · have hlt : i < 68 := by
      have : (i : Int) < 68 := by simpa using h
      omega
    have w1 : IntKind.i64.wrap ((i : Int) + 1) = (i : Int) + 1 := wrap_i64 (by omega) (by omega)
    refine AW_seqk (fun K1 hK1 => ?_)
    refine AW_block ?_
    refine AW_reg TB (fun D K hD hK => ?_)
    simp only [AwS, TS, AwD, aval, aIndex, aSlice, aLen, BN, BW, BS, Int.cast_ofNat_Int, spl, splice, bind, ↓reduceIte, simprocAttr]
    refine hD _ ?_
    clear hD hK D K
    refine AW_reg TB (fun D K hD hK => ?_)
    simp only [AwS, TS, AwD, aval, aIndex, aSlice, aLen, BN, BW, BS, Int.cast_ofNat_Int, spl, splice, bind, ↓reduceIte, simprocAttr]
    refine hK _ _ ?_
    clear hD hK D K
    refine AL_call rfl rfl rfl rfl hen (hcl i hlt) [0, 1] [] rfl (by simp) (by simp [hn0, hn1]) ?_ (hio_of ?_) (by simp) (by simp [alook, AV.map, cs_map, wws_map]) (fun x io' nb hR _ => ?_) (fun v io2 hR _ => by simp at hR)
    · simp [evs, St.ev, cav, alook, lendA, lentBx, lendC, blook, AVs.map, AV.map, ioMap]
    · simp [blook, hm0, hm1]
    simp only [Out.ret.injEq] at hR
    obtain ⟨rfl, rfl, rfl⟩ := hR
    refine ⟨rfl, by simp, ?_⟩
    have hgi := hg i
    generalize hge : g i = d at hgi hcs
    have z1 : spl (List.replicate 16 (.val (.int .u8 0))) 0 (d.map bw) = d.map bw := spl_all (by simp [hgi]) (by simp [hgi])
    simp only [List.replicate] at z1
    have z2 : List.take 16 (d.map bw) = d.map bw := List.take_of_length_le (by simp [hgi])
    have z3 : (d.map bw).length = 16 := by simp [hgi]
    refine AL_runR TB _ _ (fun D K hD hK => ?_)
    simp only [AwS, TS, AwD, aval, aIndex, aSlice, aLen, BN, BW, BS, Int.cast_ofNat_Int, spl, splice, bind, ↓reduceIte, simprocAttr, bws_map, hm0, hm1, z1, z3, bws_cell, -spl]
    refine hD _ ?_
    clear hD hK D K
    have c1 : (c.length + 16 ≤ 4294967296) = True := by simp; omega
    refine AW_regl TB (fun D K hD hK => ?_)
    simp only [AwS, TS, AwD, aval, aIndex, aSlice, aLen, BN, BW, BS, Int.cast_ofNat_Int, spl, splice, bind, ↓reduceIte, simprocAttr, n1, z2, z3, c1, bws_cell]
    refine hD _ ?_
    clear hD hK D K
    refine hK1 _ ?_
    refine AW_regl TB (fun D K hD hK => ?_)
    simp only [AwS, TS, AwD, aval, aIndex, aSlice, aLen, BN, BW, BS, Int.cast_ofNat_Int, spl, splice, bind, ↓reduceIte, simprocAttr, w1]
    refine hD _ ?_
    clear hD hK D K
    refine ⟨i + 1, [(0, 0), (1, 1), (2, 84), (3, 3)], by omega, by dsimp only; omega, ?_⟩
    refine ⟨rfl, by simp [keyF, alook, AV.map, AVs.map, hKm, hm0, hm1, cs_map, bws_map, zB, rep_map, hcs, hgi], ⟨rfl, rfl⟩, ?_, ?_, by simp [keyF], by simp [keyF, nmap], ?_⟩
    · simp [keyF, alook, AV.map, AVs.map, nmap, AVs_map_append, ivs_map, yvs_map, hKm, hm0, hm1, cs_map, bws_map, zB, rep_map, hcs, hgi]
    · simp [keyF, blook, AV.map, AVs.map, nmap, AVs_map_append, ivs_map, yvs_map, hKm, hm0, hm1, cs_map, bws_map, zB, rep_map, hcs, hgi]
    · intro k hk
      have hk2 : k < 2 := hk
      rcases k with _ | _ | k <;> first | rfl | omega
  · have hge : i = 68 := by
      have : ¬ (i : Int) < 68 := by simpa using h
      omega
    subst hge
    refine hK0 _ ?_
    have hps : (wAll (lp [c])).length ≤ 10000000 := by
      have h1 := wBytes_len c
      simp [wAll, lp]
      omega
    have ds := digest_spec 4 false (lp [c]) (by simp [lp]) hps
    have hst : dig (byteOf 4) (lp [c]) = keyOf g := by rw [keyOf, hc]; rfl
    rw [hst] at ds
    have hdl := keyOf_len g
    generalize keyOf g = d at hdl ds
    refine AW_reg TB (fun D K hD hK => ?_)
    simp only [AwS, TS, AwD, aval, aIndex, aSlice, aLen, BN, BW, BS, Int.cast_ofNat_Int, spl, splice, bind, ↓reduceIte, simprocAttr]
    refine hK _ _ ?_
    clear hD hK D K
    refine AL_callG rfl rfl rfl rfl en_81 ds [20, 2] ?_ (by simp [blook]) (by simp [AV.kept, bws_kept]) (by simp only [AV.map, bws_map]) (by simp [alook, AV.map, cs_map, wws_map]) ?_
    · simp [evs, St.ev, cav, alook, lendA, lentBx, lendC, blook, AVs.map, AV.map, ioMap, bws_map, -List.map_map, lendC_bws, bws_take, lp, pA]
    have z1 : spl (zB 16) 0 (d.map bw) = d.map bw := spl_all (by simp [hdl, zB]) (by simp [hdl])
    have z4 : (zB 16).length = 16 := by simp [zB]
    have z2 : List.take 16 (d.map bw) = d.map bw := List.take_of_length_le (by simp [hdl])
    have z3 : (d.map bw).length = 16 := by simp [hdl]
    refine AL_runR TB _ _ (fun D K hD hK => ?_)
    simp only [AwS, TS, AwD, aval, aIndex, aSlice, aLen, BN, BW, BS, Int.cast_ofNat_Int, spl, splice, bind, ↓reduceIte, simprocAttr, z1, z2, z3, z4, bws_cell, bws_map, -spl]
    refine hD _ ?_
    clear hD hK D K
    refine AW_ret ?_
    simp only [Ret]
    refine retio (.agg (d.map bw)) [io0, io1] rfl rfl ?_ (fun f => by simp only [AV.map, bws_map]) rfl (by
      intro cs hcs
      simp only [List.mem_cons, List.not_mem_nil, or_false] at hcs
      rcases hcs with rfl | rfl
      · exact hf0
      · exact hf1) rfl
    simp only [resOf, resAll, resAV, AwS, TS, AwD, aval, aIndex, aSlice, aLen, BN, BW, BS, Int.cast_ofNat_Int, spl, splice, bind, ↓reduceIte, simprocAttr, z2, z3]

/-- A chain's end in a key pair. -/
def endW (seed : List UInt8) (i : Int) (k : Nat) : List UInt8 := advW k (startW seed i k) 3
theorem endW_len (seed : List UInt8) (i : Int) (k : Nat) : (endW seed i k).length = 16 := advW_len _ _ (startW_len _ _ _) 3
def pubW (seed : List UInt8) (i : Int) : List UInt8 := keyOf (endW seed i)

theorem pub1_spec (seed : List UInt8) (i : Int) (k : Nat) (hs : seed.length = 16) (hi1 : -9223372036854775808 ≤ i) (hi2 : i < 9223372036854775808) (hk : k < 68) :
    Spec Tryd.prog glS 74 [iv k, .ptr 0 0, .ptr 1 0] [seed.map bw, [iv i]] (fun o => o = .ret (.agg ((endW seed i k).map bw)) [seed.map bw, [iv i]] []) := by
  refine spec_of TB 11 [.cell 4 23] Tryd.func74 rfl rfl rfl (Nat.le_of_ble_eq_true rfl) ?_
  intro X w0 E0 hE hX
  have a1 : (seed.map bw).length = 16 := by simp [hs]
  have a2 : List.take 16 (seed.map bw) = seed.map bw := List.take_of_length_le (by simp [hs])
  simp only [idx, List.map_cons, List.map_nil, List.length_cons, List.length_nil]
  refine AW_reg TB (fun D K hD hK => ?_)
  simp only [AwS, TS, AwD, aval, aIndex, aSlice, aLen, BN, BW, BS, Int.cast_ofNat_Int, spl, splice, bind, ↓reduceIte, simprocAttr]
  refine hD _ ?_
  clear hD hK D K
  refine AW_reg TB (fun D K hD hK => ?_)
  simp only [AwS, TS, AwD, aval, aIndex, aSlice, aLen, BN, BW, BS, Int.cast_ofNat_Int, spl, splice, bind, ↓reduceIte, simprocAttr, a1, a2]
  refine hK _ _ ?_
  clear hD hK D K
  refine AL_callG rfl rfl rfl rfl en_75 (start_spec seed i k hs hi1 hi2 (by omega) (by omega)) [] ?_ (by simp) rfl (by simp only [AV.map, bws_map]) (by simp [alook, AV.map, cs_map, wws_map]) ?_
  · simp [evs, St.ev, cav, alook, lendA, lentBx, lendC, blook, AVs.map, AV.map, ioMap, bws_map]
  refine AL_runR TB _ _ (fun D K hD hK => ?_)
  simp only [AwS, TS, AwD, aval, aIndex, aSlice, aLen, BN, BW, BS, Int.cast_ofNat_Int, spl, splice, bind, ↓reduceIte, simprocAttr]
  refine hK _ _ ?_
  clear hD hK D K
  refine AL_callG rfl rfl rfl rfl en_70 (advance_spec k (startW seed i k) 3 (startW_len _ _ _) (by omega) (by omega) (by omega)) [] ?_ (by simp) rfl (by simp only [AV.map, bws_map]) (by simp [alook, AV.map, cs_map, wws_map]) ?_
  · simp [evs, St.ev, cav, alook, lendA, lentBx, lendC, blook, AVs.map, AV.map, ioMap, bws_map]
  have hst : advW k (startW seed i k) 3 = endW seed i k := rfl
  rw [hst]
  have hdl := endW_len seed i k
  generalize endW seed i k = d at hdl
  have z1 : spl (List.replicate 16 (.val (.int .u8 0))) 0 (d.map bw) = d.map bw := spl_all (by simp [hdl]) (by simp [hdl])
  simp only [List.replicate] at z1
  have z2 : List.take 16 (d.map bw) = d.map bw := List.take_of_length_le (by simp [hdl])
  have z3 : (d.map bw).length = 16 := by simp [hdl]
  refine AL_runR TB _ _ (fun D K hD hK => ?_)
  simp only [AwS, TS, AwD, aval, aIndex, aSlice, aLen, BN, BW, BS, Int.cast_ofNat_Int, spl, splice, bind, ↓reduceIte, simprocAttr, z1, z3, bws_cell, bws_map, -spl]
  refine hD _ ?_
  clear hD hK D K
  refine AW_ret ?_
  simp only [Ret]
  refine retio (.agg (d.map bw)) [seed.map bw, [iv i]] rfl rfl ?_ (fun f => by simp only [AV.map, bws_map]) rfl (by
    intro cs hcs
    simp only [List.mem_cons, List.not_mem_nil, or_false] at hcs
    rcases hcs with rfl | rfl
    · exact fun f => bws_map f _
    · exact fun f => rfl) rfl
  simp only [resOf, resAll, resAV, AwS, TS, AwD, aval, aIndex, aSlice, aLen, BN, BW, BS, Int.cast_ofNat_Int, spl, splice, bind, ↓reduceIte, simprocAttr, z2, z3]

theorem public_spec (seed : List UInt8) (i : Int) (hs : seed.length = 16) (hi1 : -9223372036854775808 ≤ i) (hi2 : i < 9223372036854775808) :
    Spec Tryd.prog glS 31 [.agg (seed.map bw), iv i] [] (fun o => o = .ret (.agg ((pubW seed i).map bw)) [] []) := by
  refine spec_of TB 7 [.cell 4 23] Tryd.func31 rfl rfl rfl (Nat.le_of_ble_eq_true rfl) ?_
  intro X w0 E0 hE hX
  have hne : seed.map bw ≠ [] := by
    intro h
    have := congrArg List.length h
    simp [hs] at this
  simp only [idx, List.map_nil, List.length_nil]
  refine AW_reg TB (fun D K hD hK => ?_)
  simp only [AwS, TS, AwD, aval, aIndex, aSlice, aLen, BN, BW, BS, Int.cast_ofNat_Int, spl, splice, bind, ↓reduceIte, simprocAttr]
  refine hD _ ?_
  clear hD hK D K
  refine AW_reg TB (fun D K hD hK => ?_)
  simp only [AwS, TS, AwD, aval, aIndex, aSlice, aLen, BN, BW, BS, Int.cast_ofNat_Int, spl, splice, bind, ↓reduceIte, simprocAttr]
  refine hK _ _ ?_
  clear hD hK D K
  have ks := key_spec 74 en_74 (seed.map bw) [iv i] (fun f => bws_map f _) (fun f => rfl) hne (by simp) (endW seed i) (endW_len seed i) (fun k hk => pub1_spec seed i k hs hi1 hi2 hk)
  refine AL_call rfl rfl rfl rfl en_68 ks [0, 8] [] rfl (by simp) (by simp [hne]) ?_ (hio_of ?_) (by simp) (by simp [alook, AV.map, cs_map, wws_map]) (fun x io' nb hR _ => ?_) (fun v io2 hR _ => by simp at hR)
  · simp [evs, St.ev, cav, alook, lendA, lentBx, lendC, blook, AVs.map, AV.map, ioMap]
  · simp [blook, bws_map, AVs.map, AV.map]
  simp only [Out.ret.injEq] at hR
  obtain ⟨rfl, rfl, rfl⟩ := hR
  refine ⟨rfl, by simp, ?_⟩
  have hst : keyOf (endW seed i) = pubW seed i := rfl
  rw [hst]
  have hdl : (pubW seed i).length = 16 := keyOf_len _
  generalize pubW seed i = d at hdl
  have z1 : spl (List.replicate 16 (.val (.int .u8 0))) 0 (d.map bw) = d.map bw := spl_all (by simp [hdl]) (by simp [hdl])
  simp only [List.replicate] at z1
  have z2 : List.take 16 (d.map bw) = d.map bw := List.take_of_length_le (by simp [hdl])
  have z3 : (d.map bw).length = 16 := by simp [hdl]
  refine AL_runR TB _ _ (fun D K hD hK => ?_)
  simp only [AwS, TS, AwD, aval, aIndex, aSlice, aLen, BN, BW, BS, Int.cast_ofNat_Int, spl, splice, bind, ↓reduceIte, simprocAttr, z1, z3, bws_cell, bws_map, -spl]
  refine hD _ ?_
  clear hD hK D K
  refine AW_ret ?_
  simp only [Ret]
  refine retp (.agg (d.map bw)) rfl ?_ (by simp only [AV.map, bws_map]) rfl
  simp only [resOf, resAll, resAV, AwS, TS, AwD, aval, aIndex, aSlice, aLen, BN, BW, BS, Int.cast_ofNat_Int, spl, splice, bind, ↓reduceIte, simprocAttr, z2, z3]

end Go.Proofs.YtgbpgplkhifgiaaDoor

/- The walk of wots.Digits. No condition. -/
set_option linter.unusedVariables false
set_option linter.unusedSimpArgs false
set_option maxRecDepth 100000
namespace Go.Proofs.YtgbpgplkhifgiaaDoor
open Go Go.RowKit

abbrev nv (n : Nat) : AV := .val (.int .i64 (n : Int))
theorem nvs_map (f : Nat → Nat) (xs : List Nat) : AVs.map f (xs.map nv) = xs.map nv := AVs_map_map (fun _ => rfl) xs
def zI (n : Nat) : List AV := List.replicate n (.val (.int .i64 0))
theorem nvs_cell (b : List Nat) : (b.map nv).all AV.cell = true := by simp [AV.cell]

theorem and3 (n : Nat) (h : n < 9223372036854775808) : binI .and .i64 (n : Int) 3 = some (.int .i64 ((n % 4 : Nat) : Int)) := by
  have h0 : binI .and .i64 (n : Int) 3 = some (.int .i64 (IntKind.i64.wrap ((BitVec.ofInt 64 (n : Int) &&& BitVec.ofInt 64 3).toNat : Int))) := rfl
  rw [h0, ofInt_nat, show BitVec.ofInt 64 3 = BitVec.ofNat 64 3 from rfl, BitVec.toNat_and, BitVec.toNat_ofNat, BitVec.toNat_ofNat]
  rw [show (3 : Nat) % 2 ^ 64 = 2 ^ 2 - 1 from rfl, Nat.and_two_pow_sub_one_eq_mod, Nat.mod_eq_of_lt (show n < 2 ^ 64 by omega), wrap_i64 (by omega) (by omega)]

theorem fdivN (n s : Nat) (hs : s ≤ 64) : (n : Int).fdiv (2 ^ (min s 64)) = ((n / 2 ^ s : Nat) : Int) := by
  rw [Nat.min_eq_left hs, Int.fdiv_eq_ediv_of_nonneg _ (by exact Int.le_of_lt (Int.pow_pos (by omega)))]
  simp

def dgt (m : List UInt8) (k : Nat) : Nat := (m.getD (k / 4) 0).toNat / 2 ^ (6 - 2 * (k % 4)) % 4
def digL (m : List UInt8) (i : Nat) : List Nat := (List.range i).map (dgt m)
def sumD (m : List UInt8) : Nat → Nat
  | 0 => 0
  | i + 1 => sumD m i + (3 - dgt m i)
theorem digL_succ (m : List UInt8) (i : Nat) : digL m (i + 1) = digL m i ++ [dgt m i] := by simp [digL, List.range_succ]
theorem digL_len (m : List UInt8) (i : Nat) : (digL m i).length = i := by simp [digL]
theorem dgt_lt (m : List UInt8) (k : Nat) : dgt m k < 4 := Nat.mod_lt _ (by omega)
theorem sumD_le (m : List UInt8) (i : Nat) : sumD m i ≤ 3 * i := by
  induction i with
  | zero => simp [sumD]
  | succ i ih => simp only [sumD]; omega

/-- The digits of a message and of its checksum. -/
def digs (m : List UInt8) : List Nat := digL m 64 ++ [sumD m 64 / 64 % 4, sumD m 64 / 16 % 4, sumD m 64 / 4 % 4, sumD m 64 % 4]
theorem digs_len (m : List UInt8) : (digs m).length = 68 := by simp [digs, digL_len]

def dg1F (m : List UInt8) (i : Nat) : St := { nt := 43, nx := 2, tm := [(7, iv i), (4, nv (sumD m i)), (3, .ptr 1 0), (1, .ptr 0 0)], bx := [(0, some (m.map bw)), (1, some ((digL m i).map nv ++ zI (68 - i)))], gl := [], df := [] }

theorem zI_set (w : List Nat) (i n : Nat) (hi : i < n) (hw : w.length = i) (x : Nat) : (w.map nv ++ zI (n - i)).set i (nv x) = (w ++ [x]).map nv ++ zI (n - (i + 1)) := by
  rw [List.set_append_right _ _ (by simp [hw]), List.length_map, hw, Nat.sub_self, show n - i = (n - (i + 1)) + 1 by omega]
  simp [zI, List.replicate_succ]

theorem digits_spec (m : List UInt8) (hm : m.length = 16) : Spec Tryd.prog [] 67 [.agg (m.map bw)] [] (fun o => o = .ret (.sl 0 0 68 1 none) [] [(digs m).map nv]) := by
  refine spec_of TB 43 [.tmp 2] Tryd.func67 rfl rfl rfl (Nat.le_of_ble_eq_true rfl) ?_
  intro X w0 E0 hE hX
  have n1 : ((1 : Nat) ≠ 0) = True := by simp
  have n4 : ((4 : Int) = 0) = False := by simp
  have a1 : (m.map bw).length = 16 := by simp [hm]
  simp only [idx, List.map_nil, List.length_nil]
  refine AW_reg TB (fun D K hD hK => ?_)
  simp only [AwS, TS, AwD, aval, aIndex, aSlice, aLen, BN, BW, BS, Int.cast_ofNat_Int, spl, splice, bind, ↓reduceIte, Nat.reduceAdd, Nat.reduceMul, Nat.reduceSub, Nat.reduceMod, Nat.reduceDiv, Nat.reduceEqDiff, Nat.reduceLT, Nat.reduceLeDiff, Nat.reduceBEq, Nat.reduceBNe, Int.reduceAdd, Int.reduceMul, Int.reduceSub, Int.reduceNeg, Int.reduceLT, Int.reduceLE, Int.reduceEq, Int.reduceToNat, reduceCtorEq]
  refine hD _ ?_
  clear hD hK D K
  refine AW_reg TB (fun D K hD hK => ?_)
  simp only [AwS, TS, AwD, aval, aIndex, aSlice, aLen, BN, BW, BS, Int.cast_ofNat_Int, spl, splice, bind, ↓reduceIte, Nat.reduceAdd, Nat.reduceMul, Nat.reduceSub, Nat.reduceMod, Nat.reduceDiv, Nat.reduceEqDiff, Nat.reduceLT, Nat.reduceLeDiff, Nat.reduceBEq, Nat.reduceBNe, Int.reduceAdd, Int.reduceMul, Int.reduceSub, Int.reduceNeg, Int.reduceLT, Int.reduceLE, Int.reduceEq, Int.reduceToNat, reduceCtorEq]
  refine hD _ ?_
  clear hD hK D K
  refine AW_reg TB (fun D K hD hK => ?_)
  simp only [AwS, TS, AwD, aval, aIndex, aSlice, aLen, BN, BW, BS, Int.cast_ofNat_Int, spl, splice, bind, ↓reduceIte, Nat.reduceAdd, Nat.reduceMul, Nat.reduceSub, Nat.reduceMod, Nat.reduceDiv, Nat.reduceEqDiff, Nat.reduceLT, Nat.reduceLeDiff, Nat.reduceBEq, Nat.reduceBNe, Int.reduceAdd, Int.reduceMul, Int.reduceSub, Int.reduceNeg, Int.reduceLT, Int.reduceLE, Int.reduceEq, Int.reduceToNat, reduceCtorEq]
  refine hD _ ?_
  clear hD hK D K
  refine AW_seqk (fun K0 hK0 => ?_)
  refine AW_reg TB (fun D K hD hK => ?_)
  simp only [AwS, TS, AwD, aval, aIndex, aSlice, aLen, BN, BW, BS, Int.cast_ofNat_Int, spl, splice, bind, ↓reduceIte, Nat.reduceAdd, Nat.reduceMul, Nat.reduceSub, Nat.reduceMod, Nat.reduceDiv, Nat.reduceEqDiff, Nat.reduceLT, Nat.reduceLeDiff, Nat.reduceBEq, Nat.reduceBNe, Int.reduceAdd, Int.reduceMul, Int.reduceSub, Int.reduceNeg, Int.reduceLT, Int.reduceLE, Int.reduceEq, Int.reduceToNat, reduceCtorEq]
  refine hD _ ?_
  clear hD hK D K
  refine AW_block ?_
  refine AW_loop (dg1F m) (fun i => i ≤ 64) (fun i => 64 - i) hE 0 [(0, 0), (1, 16)] (by omega) ?_ ?_
  · refine ⟨rfl, by simp [dg1F, alook, AV.map, AVs.map, bws_map, digL, zI, rep_map, sumD], ⟨rfl, rfl⟩, ?_, ?_, by simp [dg1F], by simp [dg1F, nmap], ?_⟩
    · simp [dg1F, alook, AV.map, AVs.map, nmap, AVs_map_append, ivs_map, yvs_map, bws_map, digL, zI, rep_map, sumD]
    · simp [dg1F, blook, AV.map, AVs.map, nmap, AVs_map_append, ivs_map, yvs_map, bws_map, digL, zI, rep_map, sumD]
    · intro k hk
      have hk2 : k < 0 := hk
      omega
  intro i hi
  simp only [dg1F]
  have hz : ((digL m i).map nv ++ zI (68 - i)).length = 68 := by simp [digL_len, zI]; omega
  refine AW_reg TB (fun D K hD hK => ?_)
  simp only [AwS, TS, AwD, aval, aIndex, aSlice, aLen, BN, BW, BS, Int.cast_ofNat_Int, spl, splice, bind, ↓reduceIte, Nat.reduceAdd, Nat.reduceMul, Nat.reduceSub, Nat.reduceMod, Nat.reduceDiv, Nat.reduceEqDiff, Nat.reduceLT, Nat.reduceLeDiff, Nat.reduceBEq, Nat.reduceBNe, Int.reduceAdd, Int.reduceMul, Int.reduceSub, Int.reduceNeg, Int.reduceLT, Int.reduceLE, Int.reduceEq, Int.reduceToNat, reduceCtorEq]
  refine hD _ ?_
  clear hD hK D K
  refine AW_seq (AW_cond rfl (fun h => AW_skip ?_) (fun h => AW_exit ?_))
  · have hlt : i < 64 := by
      have : (i : Int) < 64 := by simpa using h
      omega
    have w1 : IntKind.i64.wrap ((i : Int) + 1) = (i : Int) + 1 := wrap_i64 (by omega) (by omega)
    have t1 : IntKind.i64.wrap ((i : Int).tdiv 4) = ((i / 4 : Nat) : Int) := by
      rw [show (i : Int).tdiv 4 = ((i / 4 : Nat) : Int) from rfl, wrap_i64 (by omega) (by omega)]
    have t2 : (i : Int).tmod 4 = ((i % 4 : Nat) : Int) := rfl
    have t3 : IntKind.i64.wrap (2 * ((i % 4 : Nat) : Int)) = ((2 * (i % 4) : Nat) : Int) := by rw [wrap_i64 (by omega) (by omega)]; simp
    have t4 : IntKind.i64.wrap (6 - ((2 * (i % 4) : Nat) : Int)) = ((6 - 2 * (i % 4) : Nat) : Int) := by rw [wrap_i64 (by omega) (by omega)]; omega
    have x1 : (0 ≤ ((i / 4 : Nat) : Int) ∧ ((i / 4 : Nat) : Int) < 16) = True := by simp; omega
    have x2 : (((6 - 2 * (i % 4) : Nat) : Int) < 0) = False := by simp
    have x3 : (0 ≤ (i : Int) ∧ (i : Int) < 68) = True := by simp; omega
    have x4 : (i + 1 ≤ 68) = True := by simp; omega
    have g1 : (m.map bw)[i / 4]? = some (bw (m.getD (i / 4) 0)) := by
      have : i / 4 < m.length := by omega
      simp [List.getElem?_eq_getElem this]
    have hb := lt8 (m.getD (i / 4) 0)
    have f1 := fdivN (m.getD (i / 4) 0).toNat (6 - 2 * (i % 4)) (by omega)
    have f2 := and3 ((m.getD (i / 4) 0).toNat / 2 ^ (6 - 2 * (i % 4))) (Nat.lt_of_le_of_lt (Nat.div_le_self _ _) (by omega))
    have hd : (m.getD (i / 4) 0).toNat / 2 ^ (6 - 2 * (i % 4)) % 4 = dgt m i := rfl
    rw [hd] at f2
    have hs1 := zI_set (digL m i) i 68 (by omega) (digL_len m i) (dgt m i)
    rw [← digL_succ] at hs1
    refine AW_seqk (fun K1 hK1 => ?_)
    refine AW_block ?_
    refine AW_reg TB (fun D K hD hK => ?_)
    simp only [AwS, TS, AwD, aval, aIndex, aSlice, aLen, BN, BW, BS, Int.cast_ofNat_Int, spl, splice, bind, ↓reduceIte, Nat.reduceAdd, Nat.reduceMul, Nat.reduceSub, Nat.reduceMod, Nat.reduceDiv, Nat.reduceEqDiff, Nat.reduceLT, Nat.reduceLeDiff, Nat.reduceBEq, Nat.reduceBNe, Int.reduceAdd, Int.reduceMul, Int.reduceSub, Int.reduceNeg, Int.reduceLT, Int.reduceLE, Int.reduceEq, Int.reduceToNat, reduceCtorEq]
    refine hD _ ?_
    clear hD hK D K
    refine AW_reg TB (fun D K hD hK => ?_)
    simp only [AwS, TS, AwD, aval, aIndex, aSlice, aLen, BN, BW, BS, Int.cast_ofNat_Int, spl, splice, bind, ↓reduceIte, Nat.reduceAdd, Nat.reduceMul, Nat.reduceSub, Nat.reduceMod, Nat.reduceDiv, Nat.reduceEqDiff, Nat.reduceLT, Nat.reduceLeDiff, Nat.reduceBEq, Nat.reduceBNe, Int.reduceAdd, Int.reduceMul, Int.reduceSub, Int.reduceNeg, Int.reduceLT, Int.reduceLE, Int.reduceEq, Int.reduceToNat, reduceCtorEq, t1, t2, t3, t4, n4, x1, x2, x3, x4, g1, c_8_i, f1, f2, hs1, hz, Int.toNat_natCast]
    refine hD _ ?_
    clear hD hK D K
    have hg2 : ((digL m (i + 1)).map nv ++ zI (68 - (i + 1)))[i]? = some (nv (dgt m i)) := by
      rw [List.getElem?_append_left (by simp [digL_len])]
      simp [digL_succ, digL_len]
    have hsd : sumD m (i + 1) = sumD m i + (3 - dgt m i) := rfl
    have hle := sumD_le m i
    have hdl := dgt_lt m i
    have w2 : IntKind.i64.wrap (3 - (dgt m i : Int)) = ((3 - dgt m i : Nat) : Int) := by rw [wrap_i64 (by omega) (by omega)]; omega
    have w3 : IntKind.i64.wrap ((sumD m i : Int) + ((3 - dgt m i : Nat) : Int)) = ((sumD m (i + 1) : Nat) : Int) := by rw [wrap_i64 (by omega) (by omega), hsd]; omega
    refine AW_regl TB (fun D K hD hK => ?_)
    simp only [AwS, TS, AwD, aval, aIndex, aSlice, aLen, BN, BW, BS, Int.cast_ofNat_Int, spl, splice, bind, ↓reduceIte, Nat.reduceAdd, Nat.reduceMul, Nat.reduceSub, Nat.reduceMod, Nat.reduceDiv, Nat.reduceEqDiff, Nat.reduceLT, Nat.reduceLeDiff, Nat.reduceBEq, Nat.reduceBNe, Int.reduceAdd, Int.reduceMul, Int.reduceSub, Int.reduceNeg, Int.reduceLT, Int.reduceLE, Int.reduceEq, Int.reduceToNat, reduceCtorEq, x3, hg2, w2, w3, Int.toNat_natCast]
    refine hD _ ?_
    clear hD hK D K
    refine hK1 _ ?_
    refine AW_regl TB (fun D K hD hK => ?_)
    simp only [AwS, TS, AwD, aval, aIndex, aSlice, aLen, BN, BW, BS, Int.cast_ofNat_Int, spl, splice, bind, ↓reduceIte, Nat.reduceAdd, Nat.reduceMul, Nat.reduceSub, Nat.reduceMod, Nat.reduceDiv, Nat.reduceEqDiff, Nat.reduceLT, Nat.reduceLeDiff, Nat.reduceBEq, Nat.reduceBNe, Int.reduceAdd, Int.reduceMul, Int.reduceSub, Int.reduceNeg, Int.reduceLT, Int.reduceLE, Int.reduceEq, Int.reduceToNat, reduceCtorEq, w1]
    refine hD _ ?_
    clear hD hK D K
    refine ⟨i + 1, [(0, 0), (1, 1)], by omega, by dsimp only; omega, ?_⟩
    refine ⟨rfl, by simp [dg1F, alook, AV.map, AVs.map, bws_map, nvs_map, zI, rep_map], ⟨rfl, rfl⟩, ?_, ?_, by simp [dg1F], by simp [dg1F, nmap], ?_⟩
    · simp [dg1F, alook, AV.map, AVs.map, nmap, AVs_map_append, ivs_map, yvs_map, bws_map, nvs_map, zI, rep_map]
    · simp [dg1F, blook, AV.map, AVs.map, nmap, AVs_map_append, ivs_map, yvs_map, bws_map, nvs_map, zI, rep_map]
    · intro k hk
      have hk2 : k < 0 := hk
      omega
  · have hge : i = 64 := by
      have : ¬ (i : Int) < 64 := by simpa using h
      omega
    subst hge
    refine hK0 _ ?_
    have hsl := sumD_le m 64
    have hdm : digs m = digL m 64 ++ [sumD m 64 / 64 % 4, sumD m 64 / 16 % 4, sumD m 64 / 4 % 4, sumD m 64 % 4] := rfl
    generalize sumD m 64 = t at hsl hdm
    have hz4 : (digL m 64).map nv ++ zI (68 - 64) = (digL m 64).map nv ++ [.val (.int .i64 0), .val (.int .i64 0), .val (.int .i64 0), .val (.int .i64 0)] := rfl
    rw [hz4]
    have hdl := digL_len m 64
    generalize hD : (digL m 64).map nv = D
    have hDl : D.length = 64 := by rw [← hD]; simp [hdl]
    have s0 : ∀ a b c d x : AV, (D ++ [a, b, c, d]).set 67 x = D ++ [a, b, c, x] := fun a b c d x => by rw [List.set_append_right _ _ (by omega), hDl]; rfl
    have s1 : ∀ a b c d x : AV, (D ++ [a, b, c, d]).set 66 x = D ++ [a, b, x, d] := fun a b c d x => by rw [List.set_append_right _ _ (by omega), hDl]; rfl
    have s2 : ∀ a b c d x : AV, (D ++ [a, b, c, d]).set 65 x = D ++ [a, x, c, d] := fun a b c d x => by rw [List.set_append_right _ _ (by omega), hDl]; rfl
    have s3 : ∀ a b c d x : AV, (D ++ [a, b, c, d]).set 64 x = D ++ [x, b, c, d] := fun a b c d x => by rw [List.set_append_right _ _ (by omega), hDl]; rfl
    have f0 : (t : Int).fdiv (2 ^ (min (0 : Nat) 64)) = ((t / 2 ^ 0 : Nat) : Int) := fdivN t 0 (by omega)
    have f1 : (t : Int).fdiv (2 ^ (min (2 : Nat) 64)) = ((t / 2 ^ 2 : Nat) : Int) := fdivN t 2 (by omega)
    have f2 : (t : Int).fdiv (2 ^ (min (4 : Nat) 64)) = ((t / 2 ^ 4 : Nat) : Int) := fdivN t 4 (by omega)
    have f3 : (t : Int).fdiv (2 ^ (min (6 : Nat) 64)) = ((t / 2 ^ 6 : Nat) : Int) := fdivN t 6 (by omega)
    have e0 : (t / 2 ^ 0) % 4 = t % 4 := by simp
    have e1 : (t / 2 ^ 2) % 4 = t / 4 % 4 := rfl
    have e2 : (t / 2 ^ 4) % 4 = t / 16 % 4 := rfl
    have e3 : (t / 2 ^ 6) % 4 = t / 64 % 4 := rfl
    have b0 := and3 (t / 2 ^ 0) (by simp; omega)
    have b1 := and3 (t / 2 ^ 2) (Nat.lt_of_le_of_lt (Nat.div_le_self _ _) (by omega))
    have b2 := and3 (t / 2 ^ 4) (Nat.lt_of_le_of_lt (Nat.div_le_self _ _) (by omega))
    have b3 := and3 (t / 2 ^ 6) (Nat.lt_of_le_of_lt (Nat.div_le_self _ _) (by omega))
    rw [e0] at b0; rw [e1] at b1; rw [e2] at b2; rw [e3] at b3
    have v0 : IntKind.i64.wrap 0 = 0 := by decide
    have v1 : IntKind.i64.wrap 1 = 1 := by decide
    have v2 : IntKind.i64.wrap 2 = 2 := by decide
    have v3 : IntKind.i64.wrap 3 = 3 := by decide
    have v4 : IntKind.i64.wrap 4 = 4 := by decide
    have v6 : IntKind.i64.wrap 6 = 6 := by decide
    have v7 : IntKind.i64.wrap 67 = 67 := by decide
    have v8 : IntKind.i64.wrap 66 = 66 := by decide
    have v9 : IntKind.i64.wrap 65 = 65 := by decide
    have v10 : IntKind.i64.wrap 64 = 64 := by decide
    refine AW_seqk (fun K1 hK1 => ?_)
    refine AW_reg TB (fun D K hD hK => ?_)
    simp only [AwS, TS, AwD, aval, aIndex, aSlice, aLen, BN, BW, BS, Int.cast_ofNat_Int, spl, splice, bind, ↓reduceIte, Nat.reduceAdd, Nat.reduceMul, Nat.reduceSub, Nat.reduceMod, Nat.reduceDiv, Nat.reduceEqDiff, Nat.reduceLT, Nat.reduceLeDiff, Nat.reduceBEq, Nat.reduceBNe, Int.reduceAdd, Int.reduceMul, Int.reduceSub, Int.reduceNeg, Int.reduceLT, Int.reduceLE, Int.reduceEq, Int.reduceToNat, reduceCtorEq]
    refine hD _ ?_
    clear hD hK D K
    refine AW_block ?_
    refine AW_rounds 5 ?_
    refine AR_round (fun K1q hK1q => ?_)
    refine AW_reg TB (fun D K hD hK => ?_)
    simp only [AwS, TS, AwD, aval, aIndex, aSlice, aLen, BN, BW, BS, Int.cast_ofNat_Int, spl, splice, bind, ↓reduceIte, Nat.reduceAdd, Nat.reduceMul, Nat.reduceSub, Nat.reduceMod, Nat.reduceDiv, Nat.reduceEqDiff, Nat.reduceLT, Nat.reduceLeDiff, Nat.reduceBEq, Nat.reduceBNe, Int.reduceAdd, Int.reduceMul, Int.reduceSub, Int.reduceNeg, Int.reduceLT, Int.reduceLE, Int.reduceEq, Int.reduceToNat, reduceCtorEq]
    refine hD _ ?_
    clear hD hK D K
    refine AW_seq (AW_true rfl (AW_skip ?_))
    refine AW_seqk (fun J1q hJ1q => ?_)
    refine AW_block ?_
    refine AW_reg TB (fun D K hD hK => ?_)
    simp only [AwS, TS, AwD, aval, aIndex, aSlice, aLen, BN, BW, BS, Int.cast_ofNat_Int, spl, splice, bind, ↓reduceIte, Nat.reduceAdd, Nat.reduceMul, Nat.reduceSub, Nat.reduceMod, Nat.reduceDiv, Nat.reduceEqDiff, Nat.reduceLT, Nat.reduceLeDiff, Nat.reduceBEq, Nat.reduceBNe, Int.reduceAdd, Int.reduceMul, Int.reduceSub, Int.reduceNeg, Int.reduceLT, Int.reduceLE, Int.reduceEq, Int.reduceToNat, reduceCtorEq]
    refine hD _ ?_
    clear hD hK D K
    refine AW_regl TB (fun D K hD hK => ?_)
    simp only [AwS, TS, AwD, aval, aIndex, aSlice, aLen, BN, BW, BS, Int.cast_ofNat_Int, spl, splice, bind, ↓reduceIte, Nat.reduceAdd, Nat.reduceMul, Nat.reduceSub, Nat.reduceMod, Nat.reduceDiv, Nat.reduceEqDiff, Nat.reduceLT, Nat.reduceLeDiff, Nat.reduceBEq, Nat.reduceBNe, Int.reduceAdd, Int.reduceMul, Int.reduceSub, Int.reduceNeg, Int.reduceLT, Int.reduceLE, Int.reduceEq, Int.reduceToNat, reduceCtorEq, v0, v1, v2, v3, v4, v6, v7, v8, v9, v10, f0, f1, f2, f3, b0, b1, b2, b3, s0, s1, s2, s3, hDl]
    refine hD _ ?_
    clear hD hK D K
    refine hJ1q _ ?_
    refine AW_regl TB (fun D K hD hK => ?_)
    simp only [AwS, TS, AwD, aval, aIndex, aSlice, aLen, BN, BW, BS, Int.cast_ofNat_Int, spl, splice, bind, ↓reduceIte, Nat.reduceAdd, Nat.reduceMul, Nat.reduceSub, Nat.reduceMod, Nat.reduceDiv, Nat.reduceEqDiff, Nat.reduceLT, Nat.reduceLeDiff, Nat.reduceBEq, Nat.reduceBNe, Int.reduceAdd, Int.reduceMul, Int.reduceSub, Int.reduceNeg, Int.reduceLT, Int.reduceLE, Int.reduceEq, Int.reduceToNat, reduceCtorEq, v1, v2, v3, v4]
    refine hD _ ?_
    clear hD hK D K
    refine hK1q _ ?_
    refine AR_round (fun K2q hK2q => ?_)
    refine AW_reg TB (fun D K hD hK => ?_)
    simp only [AwS, TS, AwD, aval, aIndex, aSlice, aLen, BN, BW, BS, Int.cast_ofNat_Int, spl, splice, bind, ↓reduceIte, Nat.reduceAdd, Nat.reduceMul, Nat.reduceSub, Nat.reduceMod, Nat.reduceDiv, Nat.reduceEqDiff, Nat.reduceLT, Nat.reduceLeDiff, Nat.reduceBEq, Nat.reduceBNe, Int.reduceAdd, Int.reduceMul, Int.reduceSub, Int.reduceNeg, Int.reduceLT, Int.reduceLE, Int.reduceEq, Int.reduceToNat, reduceCtorEq]
    refine hD _ ?_
    clear hD hK D K
    refine AW_seq (AW_true rfl (AW_skip ?_))
    refine AW_seqk (fun J2q hJ2q => ?_)
    refine AW_block ?_
    refine AW_reg TB (fun D K hD hK => ?_)
    simp only [AwS, TS, AwD, aval, aIndex, aSlice, aLen, BN, BW, BS, Int.cast_ofNat_Int, spl, splice, bind, ↓reduceIte, Nat.reduceAdd, Nat.reduceMul, Nat.reduceSub, Nat.reduceMod, Nat.reduceDiv, Nat.reduceEqDiff, Nat.reduceLT, Nat.reduceLeDiff, Nat.reduceBEq, Nat.reduceBNe, Int.reduceAdd, Int.reduceMul, Int.reduceSub, Int.reduceNeg, Int.reduceLT, Int.reduceLE, Int.reduceEq, Int.reduceToNat, reduceCtorEq]
    refine hD _ ?_
    clear hD hK D K
    refine AW_regl TB (fun D K hD hK => ?_)
    simp only [AwS, TS, AwD, aval, aIndex, aSlice, aLen, BN, BW, BS, Int.cast_ofNat_Int, spl, splice, bind, ↓reduceIte, Nat.reduceAdd, Nat.reduceMul, Nat.reduceSub, Nat.reduceMod, Nat.reduceDiv, Nat.reduceEqDiff, Nat.reduceLT, Nat.reduceLeDiff, Nat.reduceBEq, Nat.reduceBNe, Int.reduceAdd, Int.reduceMul, Int.reduceSub, Int.reduceNeg, Int.reduceLT, Int.reduceLE, Int.reduceEq, Int.reduceToNat, reduceCtorEq, v0, v1, v2, v3, v4, v6, v7, v8, v9, v10, f0, f1, f2, f3, b0, b1, b2, b3, s0, s1, s2, s3, hDl]
    refine hD _ ?_
    clear hD hK D K
    refine hJ2q _ ?_
    refine AW_regl TB (fun D K hD hK => ?_)
    simp only [AwS, TS, AwD, aval, aIndex, aSlice, aLen, BN, BW, BS, Int.cast_ofNat_Int, spl, splice, bind, ↓reduceIte, Nat.reduceAdd, Nat.reduceMul, Nat.reduceSub, Nat.reduceMod, Nat.reduceDiv, Nat.reduceEqDiff, Nat.reduceLT, Nat.reduceLeDiff, Nat.reduceBEq, Nat.reduceBNe, Int.reduceAdd, Int.reduceMul, Int.reduceSub, Int.reduceNeg, Int.reduceLT, Int.reduceLE, Int.reduceEq, Int.reduceToNat, reduceCtorEq, v1, v2, v3, v4]
    refine hD _ ?_
    clear hD hK D K
    refine hK2q _ ?_
    refine AR_round (fun K3q hK3q => ?_)
    refine AW_reg TB (fun D K hD hK => ?_)
    simp only [AwS, TS, AwD, aval, aIndex, aSlice, aLen, BN, BW, BS, Int.cast_ofNat_Int, spl, splice, bind, ↓reduceIte, Nat.reduceAdd, Nat.reduceMul, Nat.reduceSub, Nat.reduceMod, Nat.reduceDiv, Nat.reduceEqDiff, Nat.reduceLT, Nat.reduceLeDiff, Nat.reduceBEq, Nat.reduceBNe, Int.reduceAdd, Int.reduceMul, Int.reduceSub, Int.reduceNeg, Int.reduceLT, Int.reduceLE, Int.reduceEq, Int.reduceToNat, reduceCtorEq]
    refine hD _ ?_
    clear hD hK D K
    refine AW_seq (AW_true rfl (AW_skip ?_))
    refine AW_seqk (fun J3q hJ3q => ?_)
    refine AW_block ?_
    refine AW_reg TB (fun D K hD hK => ?_)
    simp only [AwS, TS, AwD, aval, aIndex, aSlice, aLen, BN, BW, BS, Int.cast_ofNat_Int, spl, splice, bind, ↓reduceIte, Nat.reduceAdd, Nat.reduceMul, Nat.reduceSub, Nat.reduceMod, Nat.reduceDiv, Nat.reduceEqDiff, Nat.reduceLT, Nat.reduceLeDiff, Nat.reduceBEq, Nat.reduceBNe, Int.reduceAdd, Int.reduceMul, Int.reduceSub, Int.reduceNeg, Int.reduceLT, Int.reduceLE, Int.reduceEq, Int.reduceToNat, reduceCtorEq]
    refine hD _ ?_
    clear hD hK D K
    refine AW_regl TB (fun D K hD hK => ?_)
    simp only [AwS, TS, AwD, aval, aIndex, aSlice, aLen, BN, BW, BS, Int.cast_ofNat_Int, spl, splice, bind, ↓reduceIte, Nat.reduceAdd, Nat.reduceMul, Nat.reduceSub, Nat.reduceMod, Nat.reduceDiv, Nat.reduceEqDiff, Nat.reduceLT, Nat.reduceLeDiff, Nat.reduceBEq, Nat.reduceBNe, Int.reduceAdd, Int.reduceMul, Int.reduceSub, Int.reduceNeg, Int.reduceLT, Int.reduceLE, Int.reduceEq, Int.reduceToNat, reduceCtorEq, v0, v1, v2, v3, v4, v6, v7, v8, v9, v10, f0, f1, f2, f3, b0, b1, b2, b3, s0, s1, s2, s3, hDl]
    refine hD _ ?_
    clear hD hK D K
    refine hJ3q _ ?_
    refine AW_regl TB (fun D K hD hK => ?_)
    simp only [AwS, TS, AwD, aval, aIndex, aSlice, aLen, BN, BW, BS, Int.cast_ofNat_Int, spl, splice, bind, ↓reduceIte, Nat.reduceAdd, Nat.reduceMul, Nat.reduceSub, Nat.reduceMod, Nat.reduceDiv, Nat.reduceEqDiff, Nat.reduceLT, Nat.reduceLeDiff, Nat.reduceBEq, Nat.reduceBNe, Int.reduceAdd, Int.reduceMul, Int.reduceSub, Int.reduceNeg, Int.reduceLT, Int.reduceLE, Int.reduceEq, Int.reduceToNat, reduceCtorEq, v1, v2, v3, v4]
    refine hD _ ?_
    clear hD hK D K
    refine hK3q _ ?_
    refine AR_round (fun K4q hK4q => ?_)
    refine AW_reg TB (fun D K hD hK => ?_)
    simp only [AwS, TS, AwD, aval, aIndex, aSlice, aLen, BN, BW, BS, Int.cast_ofNat_Int, spl, splice, bind, ↓reduceIte, Nat.reduceAdd, Nat.reduceMul, Nat.reduceSub, Nat.reduceMod, Nat.reduceDiv, Nat.reduceEqDiff, Nat.reduceLT, Nat.reduceLeDiff, Nat.reduceBEq, Nat.reduceBNe, Int.reduceAdd, Int.reduceMul, Int.reduceSub, Int.reduceNeg, Int.reduceLT, Int.reduceLE, Int.reduceEq, Int.reduceToNat, reduceCtorEq]
    refine hD _ ?_
    clear hD hK D K
    refine AW_seq (AW_true rfl (AW_skip ?_))
    refine AW_seqk (fun J4q hJ4q => ?_)
    refine AW_block ?_
    refine AW_reg TB (fun D K hD hK => ?_)
    simp only [AwS, TS, AwD, aval, aIndex, aSlice, aLen, BN, BW, BS, Int.cast_ofNat_Int, spl, splice, bind, ↓reduceIte, Nat.reduceAdd, Nat.reduceMul, Nat.reduceSub, Nat.reduceMod, Nat.reduceDiv, Nat.reduceEqDiff, Nat.reduceLT, Nat.reduceLeDiff, Nat.reduceBEq, Nat.reduceBNe, Int.reduceAdd, Int.reduceMul, Int.reduceSub, Int.reduceNeg, Int.reduceLT, Int.reduceLE, Int.reduceEq, Int.reduceToNat, reduceCtorEq]
    refine hD _ ?_
    clear hD hK D K
    refine AW_regl TB (fun D K hD hK => ?_)
    simp only [AwS, TS, AwD, aval, aIndex, aSlice, aLen, BN, BW, BS, Int.cast_ofNat_Int, spl, splice, bind, ↓reduceIte, Nat.reduceAdd, Nat.reduceMul, Nat.reduceSub, Nat.reduceMod, Nat.reduceDiv, Nat.reduceEqDiff, Nat.reduceLT, Nat.reduceLeDiff, Nat.reduceBEq, Nat.reduceBNe, Int.reduceAdd, Int.reduceMul, Int.reduceSub, Int.reduceNeg, Int.reduceLT, Int.reduceLE, Int.reduceEq, Int.reduceToNat, reduceCtorEq, v0, v1, v2, v3, v4, v6, v7, v8, v9, v10, f0, f1, f2, f3, b0, b1, b2, b3, s0, s1, s2, s3, hDl]
    refine hD _ ?_
    clear hD hK D K
    refine hJ4q _ ?_
    refine AW_regl TB (fun D K hD hK => ?_)
    simp only [AwS, TS, AwD, aval, aIndex, aSlice, aLen, BN, BW, BS, Int.cast_ofNat_Int, spl, splice, bind, ↓reduceIte, Nat.reduceAdd, Nat.reduceMul, Nat.reduceSub, Nat.reduceMod, Nat.reduceDiv, Nat.reduceEqDiff, Nat.reduceLT, Nat.reduceLeDiff, Nat.reduceBEq, Nat.reduceBNe, Int.reduceAdd, Int.reduceMul, Int.reduceSub, Int.reduceNeg, Int.reduceLT, Int.reduceLE, Int.reduceEq, Int.reduceToNat, reduceCtorEq, v1, v2, v3, v4]
    refine hD _ ?_
    clear hD hK D K
    refine hK4q _ ?_
    refine AR_round (fun K5 hK5 => ?_)
    refine AW_reg TB (fun D K hD hK => ?_)
    simp only [AwS, TS, AwD, aval, aIndex, aSlice, aLen, BN, BW, BS, Int.cast_ofNat_Int, spl, splice, bind, ↓reduceIte, Nat.reduceAdd, Nat.reduceMul, Nat.reduceSub, Nat.reduceMod, Nat.reduceDiv, Nat.reduceEqDiff, Nat.reduceLT, Nat.reduceLeDiff, Nat.reduceBEq, Nat.reduceBNe, Int.reduceAdd, Int.reduceMul, Int.reduceSub, Int.reduceNeg, Int.reduceLT, Int.reduceLE, Int.reduceEq, Int.reduceToNat, reduceCtorEq]
    refine hD _ ?_
    clear hD hK D K
    refine AW_seq (AW_false rfl (AW_exit ?_))
    refine hK1 _ ?_
    refine AW_reg TB (fun D K hD hK => ?_)
    simp only [AwS, TS, AwD, aval, aIndex, aSlice, aLen, BN, BW, BS, Int.cast_ofNat_Int, spl, splice, bind, ↓reduceIte, Nat.reduceAdd, Nat.reduceMul, Nat.reduceSub, Nat.reduceMod, Nat.reduceDiv, Nat.reduceEqDiff, Nat.reduceLT, Nat.reduceLeDiff, Nat.reduceBEq, Nat.reduceBNe, Int.reduceAdd, Int.reduceMul, Int.reduceSub, Int.reduceNeg, Int.reduceLT, Int.reduceLE, Int.reduceEq, Int.reduceToNat, reduceCtorEq, hDl, n1]
    refine hD _ ?_
    clear hD hK D K
    refine AW_ret ?_
    simp only [Ret]
    have hfin : (digs m).map nv = D ++ [nv (t / 64 % 4), nv (t / 16 % 4), nv (t / 4 % 4), nv (t % 4)] := by rw [hdm, ← hD, List.map_append]; rfl
    have hDf : ∀ f : Nat → Nat, AVs.map f D = D := fun f => by rw [← hD]; exact nvs_map f _
    exact ret_sl _ _ _ _ _ rfl rfl rfl (fun f => by rw [AVs_map_append, hDf]; rfl) (by rw [hfin])

end Go.Proofs.YtgbpgplkhifgiaaDoor

/- The walks of wots.Sign and wots.Recover. No condition. -/
set_option linter.unusedVariables false
set_option linter.unusedSimpArgs false
set_option maxRecDepth 100000
namespace Go.Proofs.YtgbpgplkhifgiaaDoor
open Go Go.RowKit

/-- Digests one behind the other. -/
def fl (ds : List (List UInt8)) : List AV := ds.flatten.map bw
def All16 (ds : List (List UInt8)) : Prop := ∀ d ∈ ds, d.length = 16

theorem fl_map (f : Nat → Nat) (ds : List (List UInt8)) : AVs.map f (fl ds) = fl ds := bws_map f _
theorem fl_len {ds : List (List UInt8)} (h : All16 ds) : (fl ds).length = ds.length * 16 := by
  induction ds with
  | nil => rfl
  | cons d ds ih =>
    have h1 := h d (by simp)
    have h2 := ih (fun e he => h e (by simp [he]))
    simp [fl] at h2 ⊢
    omega
theorem fl_app (a b : List (List UInt8)) : fl (a ++ b) = fl a ++ fl b := by simp [fl]
theorem fl_one (d : List UInt8) : fl [d] = d.map bw := by simp [fl]
theorem fl_get {ds : List (List UInt8)} (h : All16 ds) (i : Nat) (hi : i < ds.length) : List.take 16 (List.drop (i * 16) (fl ds)) = ds[i].map bw := by
  induction ds generalizing i with
  | nil => simp at hi
  | cons d ds ih =>
    have h1 := h d (by simp)
    have e : fl (d :: ds) = d.map bw ++ fl ds := by rw [← fl_one, ← fl_app]; rfl
    rw [e]
    cases i with
    | zero =>
      simp only [Nat.zero_mul, List.drop_zero, List.getElem_cons_zero]
      rw [List.take_append_of_le_length (by simp [h1]), List.take_of_length_le (by simp [h1])]
    | succ i =>
      have := ih (fun e he => h e (by simp [he])) i (by simpa using hi)
      rw [show (i + 1) * 16 = (d.map bw).length + i * 16 by simp [h1]; omega, List.drop_append, List.drop_eq_nil_of_le (by omega), List.nil_append, Nat.add_sub_cancel_left, this]
      rfl
theorem fl_kept (ds : List (List UInt8)) : AVs.kept (fl ds) = true := bws_kept _
theorem fl_cell (ds : List (List UInt8)) : (fl ds).all AV.cell = true := bws_cell _

def sigE (seed : List UInt8) (x : Int) (m : List UInt8) (k : Nat) : List UInt8 := advW k (startW seed x k) ((digs m).getD k 0)
theorem sigE_len (seed : List UInt8) (x : Int) (m : List UInt8) (k : Nat) : (sigE seed x m k).length = 16 := advW_len _ _ (startW_len _ _ _) _
def sigL (seed : List UInt8) (x : Int) (m : List UInt8) (n : Nat) : List (List UInt8) := (List.range n).map (sigE seed x m)
theorem sigL_succ (seed : List UInt8) (x : Int) (m : List UInt8) (n : Nat) : sigL seed x m (n + 1) = sigL seed x m n ++ [sigE seed x m n] := by simp [sigL, List.range_succ]
theorem sigL_len (seed : List UInt8) (x : Int) (m : List UInt8) (n : Nat) : (sigL seed x m n).length = n := by simp [sigL]
theorem sigL_16 (seed : List UInt8) (x : Int) (m : List UInt8) (n : Nat) : All16 (sigL seed x m n) := by
  intro d hd
  obtain ⟨k, _, rfl⟩ := List.mem_map.1 hd
  exact sigE_len _ _ _ _

theorem digs_lt (m : List UInt8) (k : Nat) : (digs m).getD k 0 < 4 := by
  rcases Nat.lt_or_ge k (digs m).length with h | h
  · rw [List.getD_eq_getElem?_getD, List.getElem?_eq_getElem h, Option.getD_some]
    have hm : (digs m)[k] ∈ digs m := List.getElem_mem h
    have all : ∀ d ∈ digs m, d < 4 := by
      intro d hd
      simp only [digs, List.mem_append, digL, List.mem_map, List.mem_cons, List.not_mem_nil, or_false] at hd
      rcases hd with ⟨q, _, rfl⟩ | rfl | rfl | rfl | rfl
      · exact dgt_lt _ _
      all_goals exact Nat.mod_lt _ (by omega)
    exact all _ hm
  · rw [List.getD_eq_getElem?_getD, List.getElem?_eq_none h]; simp

def signF (seed : List UInt8) (x : Int) (m : List UInt8) (i : Nat) : St :=
  { nt := 30, nx := 3, tm := [(13, iv i), (12, iv 68), (11, .sl 1 0 68 1 none), (7, .sl 2 0 i 16 (some 23)), (3, .ptr 0 0), (1, iv x)], bx := [(0, some (seed.map bw)), (1, some ((digs m).map nv)), (2, some (fl (sigL seed x m i)))], gl := glS, df := [] }

theorem wsign_spec (seed : List UInt8) (x : Int) (m : List UInt8) (hs : seed.length = 16) (hm : m.length = 16) (hx1 : -9223372036854775808 ≤ x) (hx2 : x < 9223372036854775808) :
    Spec Tryd.prog glS 60 [.agg (seed.map bw), iv x, .agg (m.map bw)] [] (fun o => o = .ret (.sl 0 0 68 16 (some 23)) [] [fl (sigL seed x m 68)]) := by
  refine spec_of TB 30 [.tmp 6] Tryd.func60 rfl rfl rfl (Nat.le_of_ble_eq_true rfl) ?_
  intro X w0 E0 hE hX
  have hKm : ∀ f : Nat → Nat, AVs.map f (KS.map ww) = KS.map ww := fun f => wws_map f _
  have a1 : (seed.map bw).length = 16 := by simp [hs]
  have a2 : List.take 16 (seed.map bw) = seed.map bw := List.take_of_length_le (by simp [hs])
  have b1 : (m.map bw).length = 16 := by simp [hm]
  have b2 : List.take 16 (m.map bw) = m.map bw := List.take_of_length_le (by simp [hm])
  simp only [idx, List.map_nil, List.length_nil]
  refine AW_reg TB (fun D K hD hK => ?_)
  simp only [AwS, TS, AwD, aval, aIndex, aSlice, aLen, BN, BW, BS, Int.cast_ofNat_Int, spl, splice, bind, ↓reduceIte, simprocAttr]
  refine hD _ ?_
  clear hD hK D K
  refine AW_reg TB (fun D K hD hK => ?_)
  simp only [AwS, TS, AwD, aval, aIndex, aSlice, aLen, BN, BW, BS, Int.cast_ofNat_Int, spl, splice, bind, ↓reduceIte, simprocAttr]
  refine hD _ ?_
  clear hD hK D K
  refine AW_seqk (fun K0 hK0 => ?_)
  refine AW_reg TB (fun D K hD hK => ?_)
  simp only [AwS, TS, AwD, aval, aIndex, aSlice, aLen, BN, BW, BS, Int.cast_ofNat_Int, spl, splice, bind, ↓reduceIte, simprocAttr, b1, b2]
  refine hK _ _ ?_
  clear hD hK D K
  refine AL_callD rfl rfl rfl rfl en_67 (digits_spec m hm) [] [] rfl (by simp) (by simp) ?_ (by simp) (by simp) rfl (by simp) ?_
  · simp [evs, St.ev, cav, alook, lendA, lentBx, lendC, blook, AVs.map, AV.map, ioMap, bws_map]
  refine AL_runR TB _ _ (fun D K hD hK => ?_)
  simp only [AwS, TS, AwD, aval, aIndex, aSlice, aLen, BN, BW, BS, Int.cast_ofNat_Int, spl, splice, bind, ↓reduceIte, simprocAttr, nvs_map]
  refine hD _ ?_
  clear hD hK D K
  refine AW_block ?_
  refine AW_loop (signF seed x m) (fun i => i ≤ 68) (fun i => 68 - i) hE 0 [(0, 0), (1, 40), (2, 24)] (by omega) ?_ ?_
  · refine ⟨rfl, by simp [signF, alook, AV.map, AVs.map, bws_map, nvs_map, fl_map, hKm, cs_map, sigL, fl], ⟨rfl, rfl⟩, ?_, ?_, by simp [signF], by simp [signF, nmap], ?_⟩
    · simp [signF, alook, AV.map, AVs.map, nmap, AVs_map_append, ivs_map, yvs_map, bws_map, nvs_map, fl_map, hKm, cs_map, sigL, fl]
    · simp [signF, blook, AV.map, AVs.map, nmap, AVs_map_append, ivs_map, yvs_map, bws_map, nvs_map, fl_map, hKm, cs_map, sigL, fl]
    · intro k hk
      have hk2 : k < 0 := hk
      omega
  intro i hi
  simp only [signF]
  refine AW_reg TB (fun D K hD hK => ?_)
  simp only [AwS, TS, AwD, aval, aIndex, aSlice, aLen, BN, BW, BS, Int.cast_ofNat_Int, spl, splice, bind, ↓reduceIte, simprocAttr]
  refine hD _ ?_
  clear hD hK D K
  refine AW_seq (AW_cond rfl (fun h => AW_skip ?_) (fun h => AW_exit ?_))
  · have hlt : i < 68 := by
      have : (i : Int) < 68 := by simpa using h
      omega
    have w1 : IntKind.i64.wrap ((i : Int) + 1) = (i : Int) + 1 := wrap_i64 (by omega) (by omega)
    have x3 : (0 ≤ (i : Int) ∧ (i : Int) < 68) = True := by simp; omega
    have hd4 := digs_lt m i
    have g1 : ((digs m).map nv)[i]? = some (nv ((digs m).getD i 0)) := by
      have : i < (digs m).length := by rw [digs_len]; exact hlt
      simp [List.getElem?_eq_getElem this]
    have hsE : advW i (startW seed x i) ((digs m).getD i 0) = sigE seed x m i := rfl
    have asp := advance_spec i (startW seed x i) ((digs m).getD i 0) (startW_len _ _ _) (by omega) (by omega) (by omega)
    rw [hsE] at asp
    refine AW_seqk (fun K1 hK1 => ?_)
    refine AW_block ?_
    refine AW_reg TB (fun D K hD hK => ?_)
    simp only [AwS, TS, AwD, aval, aIndex, aSlice, aLen, BN, BW, BS, Int.cast_ofNat_Int, spl, splice, bind, ↓reduceIte, simprocAttr, x3, g1, Int.toNat_natCast]
    refine hD _ ?_
    clear hD hK D K
    refine AW_regl TB (fun D K hD hK => ?_)
    simp only [AwS, TS, AwD, aval, aIndex, aSlice, aLen, BN, BW, BS, Int.cast_ofNat_Int, spl, splice, bind, ↓reduceIte, simprocAttr, a1, a2]
    refine hK _ _ ?_
    clear hD hK D K
    refine AL_callG rfl rfl rfl rfl en_75 (start_spec seed x i hs hx1 hx2 (by omega) (by omega)) [] ?_ (by simp) rfl (by simp only [AV.map, bws_map]) (by simp [alook, AV.map, cs_map, wws_map]) ?_
    · simp [evs, St.ev, cav, alook, lendA, lentBx, lendC, blook, AVs.map, AV.map, ioMap, bws_map]
    refine AL_runR TB _ _ (fun D K hD hK => ?_)
    simp only [AwS, TS, AwD, aval, aIndex, aSlice, aLen, BN, BW, BS, Int.cast_ofNat_Int, spl, splice, bind, ↓reduceIte, simprocAttr]
    refine hK _ _ ?_
    clear hD hK D K
    refine AL_callG rfl rfl rfl rfl en_70 asp [] ?_ (by simp) rfl (by simp only [AV.map, bws_map]) (by simp [alook, AV.map, cs_map, wws_map]) ?_
    · simp [evs, St.ev, cav, alook, lendA, lentBx, lendC, blook, AVs.map, AV.map, ioMap, bws_map]
    have hss := sigL_succ seed x m i
    have hsl := fl_len (sigL_16 seed x m i)
    rw [sigL_len] at hsl
    have hel := sigE_len seed x m i
    generalize sigE seed x m i = e at hss hel
    have z1 : spl (List.replicate 16 (.val (.int .u8 0))) 0 (e.map bw) = e.map bw := spl_all (by simp [hel]) (by simp [hel])
    simp only [List.replicate] at z1
    have z2 : List.take 16 (e.map bw) = e.map bw := List.take_of_length_le (by simp [hel])
    have z3 : (e.map bw).length = 16 := by simp [hel]
    have y1 : splice (List.replicate 16 (.val (.int .u8 0))) 0 (e.map bw) = e.map bw := by simp [splice, hel]
    simp only [List.replicate] at y1
    have c1 : (i + 1 ≤ 4294967296) = True := by simp; omega
    generalize hfe : fl (sigL seed x m i) = F at hsl
    have hfs : fl (sigL seed x m (i + 1)) = F ++ e.map bw := by rw [hss, fl_app, fl_one, hfe]
    have hFm : ∀ f : Nat → Nat, AVs.map f F = F := fun f => by rw [← hfe]; exact fl_map f _
    refine AL_runR TB _ _ (fun D K hD hK => ?_)
    simp only [AwS, TS, AwD, aval, aIndex, aSlice, aLen, BN, BW, BS, Int.cast_ofNat_Int, spl, splice, bind, ↓reduceIte, simprocAttr, z1, y1, z2, z3, c1, hsl, bws_cell, -spl, -splice]
    refine hD _ ?_
    clear hD hK D K
    refine hK1 _ ?_
    refine AW_regl TB (fun D K hD hK => ?_)
    simp only [AwS, TS, AwD, aval, aIndex, aSlice, aLen, BN, BW, BS, Int.cast_ofNat_Int, spl, splice, bind, ↓reduceIte, simprocAttr, w1]
    refine hD _ ?_
    clear hD hK D K
    refine ⟨i + 1, [(0, 0), (1, 1), (2, 123)], by omega, by dsimp only; omega, ?_⟩
    refine ⟨rfl, by simp [signF, alook, AV.map, AVs.map, bws_map, nvs_map, hFm, hKm, cs_map, hfs], ⟨rfl, rfl⟩, ?_, ?_, by simp [signF], by simp [signF, nmap], ?_⟩
    · simp [signF, alook, AV.map, AVs.map, nmap, AVs_map_append, ivs_map, yvs_map, bws_map, nvs_map, hFm, hKm, cs_map, hfs]
    · simp [signF, blook, AV.map, AVs.map, nmap, AVs_map_append, ivs_map, yvs_map, bws_map, nvs_map, hFm, hKm, cs_map, hfs]
    · intro k hk
      have hk2 : k < 0 := hk
      omega
  · have hge : i = 68 := by
      have : ¬ (i : Int) < 68 := by simpa using h
      omega
    subst hge
    refine hK0 _ ?_
    refine AW_reg TB (fun D K hD hK => ?_)
    simp only [AwS, TS, AwD, aval, aIndex, aSlice, aLen, BN, BW, BS, Int.cast_ofNat_Int, spl, splice, bind, ↓reduceIte, simprocAttr]
    refine hD _ ?_
    clear hD hK D K
    refine AW_ret ?_
    simp only [Ret]
    exact ret_sl _ _ _ _ _ rfl rfl rfl (fun f => fl_map f _) rfl

/-- A chain's end as a signature says it. -/
def recE (m : List UInt8) (ch : List (List UInt8)) (k : Nat) : List UInt8 := advW k (ch.getD k (List.replicate 16 0)) (3 - (digs m).getD k 0)
theorem recE_len (m : List UInt8) (ch : List (List UInt8)) (h : All16 ch) (k : Nat) : (recE m ch k).length = 16 := by
  refine advW_len _ _ ?_ _
  rcases Nat.lt_or_ge k ch.length with h1 | h1
  · rw [List.getD_eq_getElem?_getD, List.getElem?_eq_getElem h1]
    exact h _ (List.getElem_mem h1)
  · rw [List.getD_eq_getElem?_getD, List.getElem?_eq_none h1]
    simp
def recW (m : List UInt8) (ch : List (List UInt8)) : List UInt8 := keyOf (recE m ch)

theorem rec1_spec (m : List UInt8) (ch : List (List UInt8)) (kb : Bool) (hc : All16 ch) (hl : ch.length = 68) (k : Nat) (hk : k < 68) :
    Spec Tryd.prog glS 69 [iv k, .ptr 0 0, .ptr 1 0] [[.ds kb 68 (fl ch)], [.ds true 68 ((digs m).map nv)]] (fun o => o = .ret (.agg ((recE m ch k).map bw)) [[.ds kb 68 (fl ch)], [.ds true 68 ((digs m).map nv)]] []) := by
  refine spec_of TB 16 [.cell 4 23] Tryd.func69 rfl rfl rfl (Nat.le_of_ble_eq_true rfl) ?_
  intro X w0 E0 hE hX
  have hd4 := digs_lt m k
  have x3 : (0 ≤ (k : Int) ∧ (k : Int) < 68) = True := by simp; omega
  have g1 : (List.drop k ((digs m).map nv))[0]? = some (nv ((digs m).getD k 0)) := by
    have : k < (digs m).length := by rw [digs_len]; exact hk
    simp [List.getElem?_eq_getElem this]
  have hk2 : k < ch.length := by omega
  have g2 := fl_get hc k hk2
  have hce : ch.getD k (List.replicate 16 0) = ch[k] := by rw [List.getD_eq_getElem?_getD, List.getElem?_eq_getElem hk2]; rfl
  have g3 : (16 ≤ (List.drop (k * 16) (fl ch)).length) = True := by
    rw [List.length_drop, fl_len hc, hl]; simp; omega
  have w2 : IntKind.i64.wrap (3 - ((digs m).getD k 0 : Int)) = ((3 - (digs m).getD k 0 : Nat) : Int) := by rw [wrap_i64 (by omega) (by omega)]; omega
  have asp := advance_spec k ch[k] (3 - (digs m).getD k 0) (hc _ (List.getElem_mem hk2)) (by omega) (by omega) (by omega)
  have hrE : advW k ch[k] (3 - (digs m).getD k 0) = recE m ch k := by rw [recE, hce]
  rw [hrE] at asp
  simp only [idx, List.map_cons, List.map_nil, List.length_cons, List.length_nil]
  refine AW_reg TB (fun D K hD hK => ?_)
  simp only [AwS, TS, AwD, aval, aIndex, aSlice, aLen, BN, BW, BS, Int.cast_ofNat_Int, spl, splice, bind, ↓reduceIte, simprocAttr]
  refine hD _ ?_
  clear hD hK D K
  refine AW_dreg TB mx ([[], [], [], [1, 2], [3, 1, 2], [], [], [5, 6], [7, 5, 6], [8, 7, 5, 6], [0, 4, 3, 1, 2, 9, 8, 7, 5, 6], [10, 0, 4, 3, 1, 2, 9, 8, 7, 5, 6]]) (by kernel_rfl) (by kernel_rfl) (fun D K hD hK => ?_)
  simp only [AwS, TS, AwD, aval, aIndex, aSlice, aLen, BN, BW, BS, Int.cast_ofNat_Int, spl, splice, bind, ↓reduceIte, simprocAttr, Op.operands, Call.operands, List.toList_toArray, List.size_toArray, cmp, List.getD_cons_zero, List.getD_cons_succ, Array.toList_append, Option.toArray, List.append_toArray,  x3, g1, g2, g3, w2, Int.toNat_natCast, Nat.mul_one]
  refine hK _ _ _ _ ?_
  clear hD hK D K
  refine DL_call rfl rfl rfl rfl rfl en_70 asp (fun out h => h) [] [] rfl rfl (by simp) (by simp) ?_ (by simp) (by simp) (by simp [alook, AV.map, cs_map, wws_map]) rfl (by simp) rfl ?_
  · simp [evs, St.ev, cav, alook, lendA, lentBx, lendC, blook, AVs.map, AV.map, ioMap, bws_map]
  have hdl := recE_len m ch hc k
  generalize recE m ch k = d at hdl
  have z1 : spl (List.replicate 16 (.val (.int .u8 0))) 0 (d.map bw) = d.map bw := spl_all (by simp [hdl]) (by simp [hdl])
  simp only [List.replicate] at z1
  have z2 : List.take 16 (d.map bw) = d.map bw := List.take_of_length_le (by simp [hdl])
  have z3 : (d.map bw).length = 16 := by simp [hdl]
  refine DL_rest TB rfl (fun D K hD hK => ?_)
  simp only [AwS, TS, AwD, aval, aIndex, aSlice, aLen, BN, BW, BS, Int.cast_ofNat_Int, spl, splice, bind, ↓reduceIte, simprocAttr, Op.operands, Call.operands, List.toList_toArray, List.size_toArray, cmp, List.getD_cons_zero, List.getD_cons_succ, Array.toList_append, Option.toArray, List.append_toArray, z1, z2, z3, bws_cell, bws_map, -spl]
  refine hD _ ?_
  clear hD hK D K
  refine AW_ret ?_
  simp only [Ret]
  refine retio (.agg (d.map bw)) [[.ds kb 68 (fl ch)], [.ds true 68 ((digs m).map nv)]] rfl rfl ?_ (fun f => by simp only [AV.map, bws_map]) rfl (by
    intro cs hcs
    simp only [List.mem_cons, List.not_mem_nil, or_false] at hcs
    rcases hcs with rfl | rfl <;> intro f <;> simp only [AVs.map, AV.map, fl_map, nvs_map]) rfl
  simp only [resOf, resAll, resAV, AwS, TS, AwD, aval, aIndex, aSlice, aLen, BN, BW, BS, Int.cast_ofNat_Int, spl, splice, bind, ↓reduceIte, simprocAttr, z2, z3]

end Go.Proofs.YtgbpgplkhifgiaaDoor

/- The walk of wots.Recover. No condition. -/
set_option linter.unusedVariables false
set_option linter.unusedSimpArgs false
set_option maxRecDepth 100000
namespace Go.Proofs.YtgbpgplkhifgiaaDoor
open Go Go.RowKit

theorem frzs_bws (k : Nat) (cs : List AV) (l : List UInt8) : frzs k cs (l.map bw) = l.map bw := by
  induction l with
  | nil => rfl
  | cons x l ih => simp only [List.map_cons, frzs, frz, ih]
theorem frzs_fl (k : Nat) (cs : List AV) (l : List (List UInt8)) : frzs k cs (fl l) = fl l := frzs_bws k cs _

def zD : List UInt8 := List.replicate 16 0
def recR (m : List UInt8) (ch : List (List UInt8)) : List UInt8 × Int := if ch.length = 68 then (recW m ch, 0) else (zD, 9)

theorem recover_spec (m : List UInt8) (ch : List (List UInt8)) (kb : Bool) (hm : m.length = 16) (hc : All16 ch) (hl : ch.length ≤ 1000000) :
    Spec Tryd.prog glS 29 [.agg (m.map bw), .ds kb ch.length (fl ch)] [] (fun o => o = .ret (.tup [.agg ((recR m ch).1.map bw), iv (recR m ch).2]) [] []) := by
  refine spec_of TB 15 [.cell 4 23, .tmp 5] Tryd.func29 rfl rfl rfl (Nat.le_of_ble_eq_true rfl) ?_
  intro X w0 E0 hE hX
  have hX0 : ∀ g, ¬ X g := fun g hg => by obtain ⟨q, hq, _⟩ := hX g hg; simp at hq
  have b1 : (m.map bw).length = 16 := by simp [hm]
  have b2 : List.take 16 (m.map bw) = m.map bw := List.take_of_length_le (by simp [hm])
  simp only [idx, List.map_nil, List.length_nil]
  refine AW_reg TB (fun D K hD hK => ?_)
  simp only [AwS, TS, AwD, aval, aIndex, aSlice, aLen, BN, BW, BS, Int.cast_ofNat_Int, spl, splice, bind, ↓reduceIte, simprocAttr]
  refine hD _ ?_
  clear hD hK D K
  refine AW_seq ?_
  refine AW_reg TB (fun D K hD hK => ?_)
  simp only [AwS, TS, AwD, aval, aIndex, aSlice, aLen, BN, BW, BS, Int.cast_ofNat_Int, spl, splice, bind, ↓reduceIte, simprocAttr]
  refine hD _ ?_
  clear hD hK D K
  refine AW_cond rfl (fun h => ?_) (fun h => AW_skip ?_)
  · have hne : ch.length ≠ 68 := by
      intro h68
      rw [h68] at h
      simp at h
    have hr : recR m ch = (zD, 9) := if_neg hne
    rw [hr]
    refine AW_reg TB (fun D K hD hK => ?_)
    simp only [AwS, TS, AwD, aval, aIndex, aSlice, aLen, BN, BW, BS, Int.cast_ofNat_Int, spl, splice, bind, ↓reduceIte, simprocAttr]
    refine hD _ ?_
    clear hD hK D K
    refine AW_ret ?_
    simp only [Ret, seqQ]
    refine retp (.tup [.agg (zD.map bw), iv 9]) rfl ?_ (by simp only [AV.map, AVs.map, bws_map]) rfl
    simp [resOf, resAll, resAV, alook, blook, AV.known, loadC, AwS, TS, TD.isAgg, zD]
  · have h68 : ch.length = 68 := by
      have : ¬ (¬ (ch.length : Int) = 68) := by simpa using h
      omega
    have hr : recR m ch = (recW m ch, 0) := if_pos h68
    rw [hr, h68]
    simp only [seqQ]
    refine AW_reg TB (fun D K hD hK => ?_)
    simp only [AwS, TS, AwD, aval, aIndex, aSlice, aLen, BN, BW, BS, Int.cast_ofNat_Int, spl, splice, bind, ↓reduceIte, simprocAttr, b1, b2]
    refine hK _ _ ?_
    clear hD hK D K
    refine AL_callD rfl rfl rfl rfl en_67 (digits_spec m hm) [] [] rfl (by simp) (by simp) ?_ (by simp) (by simp) rfl (by simp) ?_
    · simp [evs, St.ev, cav, alook, lendA, lentBx, lendC, blook, AVs.map, AV.map, ioMap, bws_map]
    refine AL_runR TB _ _ (fun D K hD hK => ?_)
    simp only [AwS, TS, AwD, aval, aIndex, aSlice, aLen, BN, BW, BS, Int.cast_ofNat_Int, spl, splice, bind, ↓reduceIte, simprocAttr, nvs_map]
    refine hD _ ?_
    clear hD hK D K
    simp only [seqQ]
    have t1 : List.take 68 ((digs m).map nv) = (digs m).map nv := List.take_of_length_le (by simp [digs_len])
    refine AW_keep [3, 4, 5, 6] ?_
    refine AW_freeze 64 hX0 rfl ?_
    simp only [St.freeze, frz, frzs, frzs_bws, frzs_fl, List.filter_cons, List.filter_nil, AwS, TS, AwD, aval, aIndex, aSlice, aLen, BN, BW, BS, Int.cast_ofNat_Int, spl, splice, bind, ↓reduceIte, simprocAttr, t1]
    refine AW_reg TB (fun D K hD hK => ?_)
    simp only [AwS, TS, AwD, aval, aIndex, aSlice, aLen, BN, BW, BS, Int.cast_ofNat_Int, spl, splice, bind, ↓reduceIte, simprocAttr]
    refine hK _ _ ?_
    clear hD hK D K
    have ks := key_spec 69 en_69 [.ds kb 68 (fl ch)] [.ds true 68 ((digs m).map nv)] (fun f => by simp only [AVs.map, AV.map, fl_map]) (fun f => by simp only [AVs.map, AV.map, nvs_map]) (by simp) (by simp) (recE m ch) (recE_len m ch hc) (fun k hk => rec1_spec m ch kb hc h68 k hk)
    refine AL_call rfl rfl rfl rfl en_68 ks [8, 72] [] rfl (by simp) (by simp) ?_ (hio_of ?_) (by simp) (by simp [alook, AV.map, cs_map, wws_map]) (fun x io' nb hR _ => ?_) (fun v io2 hR _ => by simp at hR)
    · simp [evs, St.ev, cav, alook, lendA, lentBx, lendC, blook, AVs.map, AV.map, ioMap]
    · simp [blook, fl_map, nvs_map, AVs.map, AV.map]
    simp only [Out.ret.injEq] at hR
    obtain ⟨rfl, rfl, rfl⟩ := hR
    refine ⟨rfl, by simp, ?_⟩
    have hst : keyOf (recE m ch) = recW m ch := rfl
    rw [hst]
    have hdl : (recW m ch).length = 16 := keyOf_len _
    generalize recW m ch = d at hdl
    have z1 : spl (List.replicate 16 (.val (.int .u8 0))) 0 (d.map bw) = d.map bw := spl_all (by simp [hdl]) (by simp [hdl])
    simp only [List.replicate] at z1
    have z2 : List.take 16 (d.map bw) = d.map bw := List.take_of_length_le (by simp [hdl])
    have z3 : (d.map bw).length = 16 := by simp [hdl]
    refine AL_runR TB _ _ (fun D K hD hK => ?_)
    simp only [AwS, TS, AwD, aval, aIndex, aSlice, aLen, BN, BW, BS, Int.cast_ofNat_Int, spl, splice, bind, ↓reduceIte, simprocAttr, z1, z3, bws_cell, bws_map, fl_map, nvs_map, -spl]
    refine hD _ ?_
    clear hD hK D K
    refine AW_ret ?_
    simp only [Ret]
    refine retp (.tup [.agg (d.map bw), iv 0]) rfl ?_ (by simp only [AV.map, AVs.map, bws_map]) rfl
    simp only [resOf, resAll, resAV, AwS, TS, AwD, aval, aIndex, aSlice, aLen, BN, BW, BS, Int.cast_ofNat_Int, spl, splice, bind, ↓reduceIte, simprocAttr, z2, z3]

end Go.Proofs.YtgbpgplkhifgiaaDoor

/- The walks of merkle's split, leafDigest and join. No condition. -/
set_option linter.unusedVariables false
set_option linter.unusedSimpArgs false
set_option maxRecDepth 100000
namespace Go.Proofs.YtgbpgplkhifgiaaDoor
open Go Go.RowKit

def splitG (n k : Nat) : Nat := if h : 0 < k ∧ k < n - k then splitG n (2 * k) else k
termination_by n - k
decreasing_by omega
/-- The number of leaves of the left subtree. -/
def splitM (n : Nat) : Nat := splitG n 1
theorem splitG_lt {n k : Nat} (h : 0 < k ∧ k < n - k) : splitG n k = splitG n (2 * k) := by rw [splitG, dif_pos h]
theorem splitG_ge {n k : Nat} (h : ¬ (0 < k ∧ k < n - k)) : splitG n k = k := by rw [splitG, dif_neg h]
theorem splitG_bd : ∀ (m n k : Nat), n - k ≤ m → 0 < k → k < n → 0 < splitG n k ∧ splitG n k < n
  | 0, n, k, h1, h2, h3 => by omega
  | m + 1, n, k, h1, h2, h3 => by
    by_cases h : 0 < k ∧ k < n - k
    · rw [splitG_lt h]
      exact splitG_bd m n (2 * k) (by omega) (by omega) (by omega)
    · rw [splitG_ge h]; exact ⟨h2, h3⟩
theorem splitM_bd {n : Nat} (h : 1 < n) : 0 < splitM n ∧ splitM n < n := splitG_bd (n - 1) n 1 (by omega) (by omega) (by omega)

def splitF (n : Nat) (k : Nat) : St := { nt := 12, nx := 0, tm := [(3, nv k), (0, nv n)], bx := [], gl := [], df := [] }

theorem split_spec (n : Nat) (hn : n ≤ 1000000000) (h1 : 1 ≤ n) : Spec Tryd.prog [] 87 [nv n] [] (fun o => o = .ret (nv (splitM n)) [] []) := by
  refine spec_of TB 12 [.tmp 2] Tryd.func87 rfl rfl rfl (Nat.le_of_ble_eq_true rfl) ?_
  intro X w0 E0 hE hX
  simp only [idx, List.map_nil, List.length_nil]
  refine AW_reg TB (fun D K hD hK => ?_)
  simp only [AwS, TS, AwD, aval, aIndex, aSlice, aLen, BN, BW, BS, Int.cast_ofNat_Int, spl, splice, bind, ↓reduceIte, simprocAttr]
  refine hD _ ?_
  clear hD hK D K
  refine AW_reg TB (fun D K hD hK => ?_)
  simp only [AwS, TS, AwD, aval, aIndex, aSlice, aLen, BN, BW, BS, Int.cast_ofNat_Int, spl, splice, bind, ↓reduceIte, simprocAttr]
  refine hD _ ?_
  clear hD hK D K
  refine AW_seqk (fun K0 hK0 => ?_)
  refine AW_block ?_
  refine AW_loop (splitF n) (fun k => 0 < k ∧ k ≤ n ∧ splitG n k = splitM n) (fun k => n - k) hE 1 [] ⟨by omega, by omega, rfl⟩ ?_ ?_
  · refine ⟨rfl, by simp [splitF, alook, AV.map, AVs.map], ⟨rfl, rfl⟩, ?_, ?_, by simp [splitF], by simp [splitF, nmap], ?_⟩
    · simp [splitF, alook, AV.map, AVs.map, nmap, AVs_map_append, ivs_map, yvs_map]
    · simp [splitF, blook, AV.map, AVs.map, nmap, AVs_map_append, ivs_map, yvs_map]
    · intro k hk
      have hk2 : k < 0 := hk
      omega
  rintro k ⟨hk0, hkn, hks⟩
  simp only [splitF]
  have w1 : IntKind.i64.wrap ((n : Int) - (k : Int)) = ((n - k : Nat) : Int) := by rw [wrap_i64 (by omega) (by omega)]; omega
  refine AW_seq ?_
  refine AW_reg TB (fun D K hD hK => ?_)
  simp only [AwS, TS, AwD, aval, aIndex, aSlice, aLen, BN, BW, BS, Int.cast_ofNat_Int, spl, splice, bind, ↓reduceIte, simprocAttr, w1]
  refine hD _ ?_
  clear hD hK D K
  refine AW_cond rfl (fun h => AW_skip ?_) (fun h => AW_exit ?_)
  · have hlt : k < n - k := by
      have : (k : Int) < ((n - k : Nat) : Int) := by simpa using h
      omega
    have w2 : IntKind.i64.wrap ((k : Int) * 2) = ((2 * k : Nat) : Int) := by rw [wrap_i64 (by omega) (by omega)]; omega
    simp only [seqQ]
    refine AW_block ?_
    refine AW_regl TB (fun D K hD hK => ?_)
    simp only [AwS, TS, AwD, aval, aIndex, aSlice, aLen, BN, BW, BS, Int.cast_ofNat_Int, spl, splice, bind, ↓reduceIte, simprocAttr, w2]
    refine hD _ ?_
    clear hD hK D K
    refine ⟨2 * k, [], ⟨by omega, by omega, by rw [← hks, splitG_lt ⟨hk0, hlt⟩]⟩, by dsimp only; omega, ?_⟩
    refine ⟨rfl, by simp [splitF, alook, AV.map, AVs.map], ⟨rfl, rfl⟩, ?_, ?_, by simp [splitF], by simp [splitF, nmap], ?_⟩
    · simp [splitF, alook, AV.map, AVs.map, nmap, AVs_map_append, ivs_map, yvs_map]
    · simp [splitF, blook, AV.map, AVs.map, nmap, AVs_map_append, ivs_map, yvs_map]
    · intro k hk
      have hk2 : k < 0 := hk
      omega
  · have hge : ¬ k < n - k := by
      intro h2
      have : ¬ (k : Int) < ((n - k : Nat) : Int) := by simpa using h
      omega
    rw [splitG_ge (fun h2 => hge h2.2)] at hks
    refine hK0 _ ?_
    refine AW_reg TB (fun D K hD hK => ?_)
    simp only [AwS, TS, AwD, aval, aIndex, aSlice, aLen, BN, BW, BS, Int.cast_ofNat_Int, spl, splice, bind, ↓reduceIte, simprocAttr]
    refine hD _ ?_
    clear hD hK D K
    rw [← hks]
    refine AW_ret ?_
    simp only [Ret, blockQ, kQ, loopQ, seqQ, scopeQ, ↓reduceIte]
    exact retp (nv k) rfl rfl rfl rfl

def leafD (d : List UInt8) : List UInt8 := dig 1 (lp [d])
def nodeD (a b : List UInt8) : List UInt8 := dig 2 (lp [a, b])


theorem leaf_spec (a : List UInt8) (ha : a.length = 16) : Spec Tryd.prog glS 86 [.agg (a.map bw)] [] (fun o => o = .ret (.agg ((leafD a).map bw)) [] []) := by
  refine spec_of TB 6 [.cell 2 23] Tryd.func86 rfl rfl rfl (Nat.le_of_ble_eq_true rfl) ?_
  intro X w0 E0 hE hX
  have n1 : ((1 : Nat) ≠ 0) = True := by simp
  have a1 : (a.map bw).length = 16 := by simp [ha]
  have a2 : List.take 16 (a.map bw) = a.map bw := List.take_of_length_le (by simp [ha])
  have hps : (wAll (lp [a])).length ≤ 10000000 := by
    have h1 := wBytes_len a
    simp [wAll, lp]; omega
  have ds := digest_spec 1 false (lp [a]) (by simp [lp]) hps
  have hst : dig (byteOf 1) (lp [a]) = leafD a := rfl
  rw [hst] at ds
  simp only [idx, List.map_nil, List.length_nil]
  refine AW_reg TB (fun D K hD hK => ?_)
  simp only [AwS, TS, AwD, aval, aIndex, aSlice, aLen, BN, BW, BS, Int.cast_ofNat_Int, spl, splice, bind, ↓reduceIte, simprocAttr]
  refine hD _ ?_
  clear hD hK D K
  refine AW_reg TB (fun D K hD hK => ?_)
  simp only [AwS, TS, AwD, aval, aIndex, aSlice, aLen, BN, BW, BS, Int.cast_ofNat_Int, spl, splice, bind, ↓reduceIte, simprocAttr, n1, a1]
  refine hK _ _ ?_
  clear hD hK D K
  refine AL_callG rfl rfl rfl rfl en_81 ds [24, 0] ?_ (by simp [blook]) (by simp [AV.kept, bws_kept]) (by simp only [AV.map, bws_map]) (by simp [alook, AV.map, cs_map, wws_map]) ?_
  · simp [evs, St.ev, cav, alook, lendA, lentBx, lendC, blook, AVs.map, AV.map, ioMap, bws_map, -List.map_map, lendC_bws, bws_take, a2, lp, pA, ha]
  have hdl : (leafD a).length = 16 := dig_len _ _
  generalize leafD a = d at hdl
  have z1 : spl (List.replicate 16 (.val (.int .u8 0))) 0 (d.map bw) = d.map bw := spl_all (by simp [hdl]) (by simp [hdl])
  simp only [List.replicate] at z1
  have z2 : List.take 16 (d.map bw) = d.map bw := List.take_of_length_le (by simp [hdl])
  have z3 : (d.map bw).length = 16 := by simp [hdl]
  refine AL_runR TB _ _ (fun D K hD hK => ?_)
  simp only [AwS, TS, AwD, aval, aIndex, aSlice, aLen, BN, BW, BS, Int.cast_ofNat_Int, spl, splice, bind, ↓reduceIte, simprocAttr, z1, z3, bws_cell, bws_map, -spl]
  refine hD _ ?_
  clear hD hK D K
  refine AW_ret ?_
  simp only [Ret]
  refine retp (.agg (d.map bw)) rfl ?_ (by simp only [AV.map, bws_map]) rfl
  simp only [resOf, resAll, resAV, AwS, TS, AwD, aval, aIndex, aSlice, aLen, BN, BW, BS, Int.cast_ofNat_Int, spl, splice, bind, ↓reduceIte, simprocAttr, z2, z3]

theorem node_spec (a b : List UInt8) (ha : a.length = 16) (hb : b.length = 16) : Spec Tryd.prog glS 88 [.agg (a.map bw), .agg (b.map bw)] [] (fun o => o = .ret (.agg ((nodeD a b).map bw)) [] []) := by
  refine spec_of TB 9 [.cell 4 23] Tryd.func88 rfl rfl rfl (Nat.le_of_ble_eq_true rfl) ?_
  intro X w0 E0 hE hX
  have n1 : ((1 : Nat) ≠ 0) = True := by simp
  have a1 : (a.map bw).length = 16 := by simp [ha]
  have a2 : List.take 16 (a.map bw) = a.map bw := List.take_of_length_le (by simp [ha])
  have b1 : (b.map bw).length = 16 := by simp [hb]
  have b2 : List.take 16 (b.map bw) = b.map bw := List.take_of_length_le (by simp [hb])
  have hps : (wAll (lp [a, b])).length ≤ 10000000 := by
    have h1 := wBytes_len a
    have h2 := wBytes_len b
    simp [wAll, lp]; omega
  have ds := digest_spec 2 false (lp [a, b]) (by simp [lp]) hps
  have hst : dig (byteOf 2) (lp [a, b]) = nodeD a b := rfl
  rw [hst] at ds
  simp only [idx, List.map_nil, List.length_nil]
  refine AW_reg TB (fun D K hD hK => ?_)
  simp only [AwS, TS, AwD, aval, aIndex, aSlice, aLen, BN, BW, BS, Int.cast_ofNat_Int, spl, splice, bind, ↓reduceIte, simprocAttr]
  refine hD _ ?_
  clear hD hK D K
  refine AW_dreg TB mx ([[], [], [0, 1], [2, 0, 1], [3, 2, 0, 1]]) (by kernel_rfl) (by kernel_rfl) (fun D K hD hK => ?_)
  simp only [AwS, TS, AwD, aval, aIndex, aSlice, aLen, BN, BW, BS, Int.cast_ofNat_Int, spl, splice, bind, ↓reduceIte, simprocAttr, Op.operands, Call.operands, List.toList_toArray, List.size_toArray, cmp, List.getD_cons_zero, List.getD_cons_succ, Array.toList_append, Option.toArray, List.append_toArray,  n1, a1, b1]
  refine hK _ _ _ _ ?_
  clear hD hK D K
  refine DL_call rfl rfl rfl rfl rfl en_81 ds (fun out h => h) [] [40, 0, 8] rfl rfl (by simp) (by simp) ?_ (by simp) (by simp [blook]) (by simp [alook, AV.map, cs_map, wws_map]) (by simp [keptAll, AV.kept, bws_kept]) (by simp) rfl ?_
  · simp [evs, St.ev, cav, alook, lendA, lentBx, lendC, blook, AVs.map, AV.map, ioMap, bws_map, -List.map_map, lendC_bws, bws_take, a2, b2, lp, pA, ha, hb]
  have hdl : (nodeD a b).length = 16 := dig_len _ _
  generalize nodeD a b = d at hdl
  have z1 : spl (List.replicate 16 (.val (.int .u8 0))) 0 (d.map bw) = d.map bw := spl_all (by simp [hdl]) (by simp [hdl])
  simp only [List.replicate] at z1
  have z2 : List.take 16 (d.map bw) = d.map bw := List.take_of_length_le (by simp [hdl])
  have z3 : (d.map bw).length = 16 := by simp [hdl]
  refine DL_rest TB rfl (fun D K hD hK => ?_)
  simp only [AwS, TS, AwD, aval, aIndex, aSlice, aLen, BN, BW, BS, Int.cast_ofNat_Int, spl, splice, bind, ↓reduceIte, simprocAttr, Op.operands, Call.operands, List.toList_toArray, List.size_toArray, cmp, List.getD_cons_zero, List.getD_cons_succ, Array.toList_append, Option.toArray, List.append_toArray, z1, z3, bws_cell, bws_map, -spl]
  refine hD _ ?_
  clear hD hK D K
  refine AW_ret ?_
  simp only [Ret]
  refine retp (.agg (d.map bw)) rfl ?_ (by simp only [AV.map, bws_map]) rfl
  simp only [resOf, resAll, resAV, AwS, TS, AwD, aval, aIndex, aSlice, aLen, BN, BW, BS, Int.cast_ofNat_Int, spl, splice, bind, ↓reduceIte, simprocAttr, z2, z3]

end Go.Proofs.YtgbpgplkhifgiaaDoor

/- The walk of merkle.Root. No condition. -/
set_option linter.unusedVariables false
set_option linter.unusedSimpArgs false
set_option maxRecDepth 100000
namespace Go.Proofs.YtgbpgplkhifgiaaDoor
open Go Go.RowKit

theorem fl_take {ds : List (List UInt8)} (h : All16 ds) (k : Nat) (hk : k ≤ ds.length) : List.take (k * 16) (fl ds) = fl (ds.take k) := by
  have h1 : fl ds = fl (ds.take k) ++ fl (ds.drop k) := by rw [← fl_app, List.take_append_drop]
  have h2 : (fl (ds.take k)).length = k * 16 := by
    rw [fl_len (fun d hd => h d (List.mem_of_mem_take hd)), List.length_take, Nat.min_eq_left hk]
  rw [h1, ← h2, List.take_left]
theorem fl_drop {ds : List (List UInt8)} (h : All16 ds) (k : Nat) (hk : k ≤ ds.length) : List.drop (k * 16) (fl ds) = fl (ds.drop k) := by
  have h1 : fl ds = fl (ds.take k) ++ fl (ds.drop k) := by rw [← fl_app, List.take_append_drop]
  have h2 : (fl (ds.take k)).length = k * 16 := by
    rw [fl_len (fun d hd => h d (List.mem_of_mem_take hd)), List.length_take, Nat.min_eq_left hk]
  rw [h1, ← h2, List.drop_left]
theorem All16.take {ds : List (List UInt8)} (h : All16 ds) (k : Nat) : All16 (ds.take k) := fun d hd => h d (List.mem_of_mem_take hd)
theorem All16.drop {ds : List (List UInt8)} (h : All16 ds) (k : Nat) : All16 (ds.drop k) := fun d hd => h d (List.mem_of_mem_drop hd)

def mroot (ds : List (List UInt8)) : List UInt8 :=
  if h : 1 < ds.length then nodeD (mroot (ds.take (splitM ds.length))) (mroot (ds.drop (splitM ds.length)))
  else match ds with
    | [] => dig 1 (lp [])
    | d :: _ => leafD d
termination_by ds.length
decreasing_by
  · have := splitM_bd h
    simp; omega
  · have := splitM_bd h
    simp; omega

theorem mroot_big {ds : List (List UInt8)} (h : 1 < ds.length) : mroot ds = nodeD (mroot (ds.take (splitM ds.length))) (mroot (ds.drop (splitM ds.length))) := by rw [mroot, dif_pos h]
theorem mroot_nil : mroot [] = dig 1 (lp []) := by rw [mroot]; rfl
theorem mroot_one (d : List UInt8) : mroot [d] = leafD d := by rw [mroot]; rfl
theorem mroot_len (ds : List (List UInt8)) : (mroot ds).length = 16 := by
  by_cases h : 1 < ds.length
  · rw [mroot_big h]; exact dig_len _ _
  · match ds, h with
    | [], _ => rw [mroot_nil]; exact dig_len _ _
    | [d], _ => rw [mroot_one]; exact dig_len _ _
    | a :: b :: l, h => simp at h


theorem root_spec : ∀ (n : Nat) (k : Bool) (ds : List (List UInt8)), ds.length ≤ n → n ≤ 1000000 → All16 ds → Spec Tryd.prog glS 52 [.ds k ds.length (fl ds)] [] (fun o => o = .ret (.agg ((mroot ds).map bw)) [] []) := by
  intro n
  induction n using Nat.strongRecOn with
  | _ n ih =>
  intro k ds hn hN h16
  refine spec_of TB 31 [.cell 2 23] Tryd.func52 rfl rfl rfl (Nat.le_of_ble_eq_true rfl) ?_
  intro X w0 E0 hE hX
  simp only [idx, List.map_nil, List.length_nil]
  refine AW_reg TB (fun D K hD hK => ?_)
  simp only [AwS, TS, AwD, aval, aIndex, aSlice, aLen, BN, BW, BS, Int.cast_ofNat_Int, spl, splice, bind, ↓reduceIte, simprocAttr]
  refine hD _ ?_
  clear hD hK D K
  refine AW_reg TB (fun D K hD hK => ?_)
  simp only [AwS, TS, AwD, aval, aIndex, aSlice, aLen, BN, BW, BS, Int.cast_ofNat_Int, spl, splice, bind, ↓reduceIte, simprocAttr]
  refine hD _ ?_
  clear hD hK D K
  refine AW_reg TB (fun D K hD hK => ?_)
  simp only [AwS, TS, AwD, aval, aIndex, aSlice, aLen, BN, BW, BS, Int.cast_ofNat_Int, spl, splice, bind, ↓reduceIte, simprocAttr]
  refine hD _ ?_
  clear hD hK D K
  refine AW_block ?_
  refine AW_reg TB (fun D K hD hK => ?_)
  simp only [AwS, TS, AwD, aval, aIndex, aSlice, aLen, BN, BW, BS, Int.cast_ofNat_Int, spl, splice, bind, ↓reduceIte, simprocAttr]
  refine hD _ ?_
  clear hD hK D K
  refine AW_cond rfl (fun h0 => ?_) (fun h0 => ?_)
  · have hl0 : ds = [] := by
      have : (ds.length : Int) = 0 := by simpa using h0
      exact List.eq_nil_of_length_eq_zero (by omega)
    subst hl0
    have dsp := digest_spec 1 true (lp []) (by simp [lp]) (by simp [wAll, lp])
    have hst : dig (byteOf 1) (lp []) = mroot [] := by rw [mroot_nil]; rfl
    rw [hst] at dsp
    refine AW_reg TB (fun D K hD hK => ?_)
    simp only [AwS, TS, AwD, aval, aIndex, aSlice, aLen, BN, BW, BS, Int.cast_ofNat_Int, spl, splice, bind, ↓reduceIte, simprocAttr]
    refine hK _ _ ?_
    clear hD hK D K
    refine AL_callG rfl rfl rfl rfl en_81 dsp [] ?_ (by simp) (by simp) (by simp only [AV.map, bws_map]) (by simp [alook, AV.map, cs_map, wws_map]) ?_
    · simp [evs, St.ev, cav, alook, lendA, lentBx, lendC, blook, AVs.map, AV.map, ioMap, lp]
    generalize hds : ([] : List (List UInt8)) = ds
    have hdl := mroot_len ds
    generalize mroot ds = d at hdl
    have z1 : spl (List.replicate 16 (.val (.int .u8 0))) 0 (d.map bw) = d.map bw := spl_all (by simp [hdl]) (by simp [hdl])
    simp only [List.replicate] at z1
    have z2 : List.take 16 (d.map bw) = d.map bw := List.take_of_length_le (by simp [hdl])
    have z3 : (d.map bw).length = 16 := by simp [hdl]
    refine AL_runR TB _ _ (fun D K hD hK => ?_)
    simp only [AwS, TS, AwD, aval, aIndex, aSlice, aLen, BN, BW, BS, Int.cast_ofNat_Int, spl, splice, bind, ↓reduceIte, simprocAttr, z1, z3, bws_cell, bws_map, -spl]
    refine hD _ ?_
    clear hD hK D K
    refine AW_ret ?_
    simp only [Ret, blockQ]
    refine retp (.agg (d.map bw)) rfl ?_ (by simp only [AV.map, bws_map]) rfl
    simp only [resOf, resAll, resAV, AwS, TS, AwD, aval, aIndex, aSlice, aLen, BN, BW, BS, Int.cast_ofNat_Int, spl, splice, bind, ↓reduceIte, simprocAttr, z2, z3]
  · have hne0 : ds.length ≠ 0 := by
      intro h2
      rw [h2] at h0
      simp at h0
    refine AW_reg TB (fun D K hD hK => ?_)
    simp only [AwS, TS, AwD, aval, aIndex, aSlice, aLen, BN, BW, BS, Int.cast_ofNat_Int, spl, splice, bind, ↓reduceIte, simprocAttr]
    refine hD _ ?_
    clear hD hK D K
    refine AW_cond rfl (fun h1 => ?_) (fun h1 => ?_)
    · have hl1 : ds.length = 1 := by
        have : (ds.length : Int) = 1 := by simpa using h1
        omega
      obtain ⟨d0, rfl⟩ : ∃ d0, ds = [d0] := by
        match ds, hl1 with
        | [d0], _ => exact ⟨d0, rfl⟩
      have hd0 : d0.length = 16 := h16 d0 (by simp)
      have hfl : fl [d0] = d0.map bw := fl_one d0
      have a1 : (d0.map bw).length = 16 := by simp [hd0]
      have a2 : List.take 16 (d0.map bw) = d0.map bw := List.take_of_length_le (by simp [hd0])
      have x1 : ((0 : Int) < 1) = True := by simp
      refine AW_reg TB (fun D K hD hK => ?_)
      simp only [AwS, TS, AwD, aval, aIndex, aSlice, aLen, BN, BW, BS, Int.cast_ofNat_Int, spl, splice, bind, ↓reduceIte, simprocAttr, hfl, a1, a2, x1]
      refine hK _ _ ?_
      clear hD hK D K
      have ls := leaf_spec d0 hd0
      rw [← mroot_one] at ls
      refine AL_callG rfl rfl rfl rfl en_86 ls [] ?_ (by simp) (by simp) (by simp only [AV.map, bws_map]) (by simp [alook, AV.map, cs_map, wws_map]) ?_
      · simp [evs, St.ev, cav, alook, lendA, lentBx, lendC, blook, AVs.map, AV.map, ioMap, bws_map]
      generalize hds : ([d0] : List (List UInt8)) = ds
      have hdl := mroot_len ds
      generalize mroot ds = d at hdl
      have z1 : spl (List.replicate 16 (.val (.int .u8 0))) 0 (d.map bw) = d.map bw := spl_all (by simp [hdl]) (by simp [hdl])
      simp only [List.replicate] at z1
      have z2 : List.take 16 (d.map bw) = d.map bw := List.take_of_length_le (by simp [hdl])
      have z3 : (d.map bw).length = 16 := by simp [hdl]
      refine AL_runR TB _ _ (fun D K hD hK => ?_)
      simp only [AwS, TS, AwD, aval, aIndex, aSlice, aLen, BN, BW, BS, Int.cast_ofNat_Int, spl, splice, bind, ↓reduceIte, simprocAttr, z1, z3, bws_cell, bws_map, -spl]
      refine hD _ ?_
      clear hD hK D K
      refine AW_ret ?_
      simp only [Ret, blockQ]
      refine retp (.agg (d.map bw)) rfl ?_ (by simp only [AV.map, bws_map]) rfl
      simp only [resOf, resAll, resAV, AwS, TS, AwD, aval, aIndex, aSlice, aLen, BN, BW, BS, Int.cast_ofNat_Int, spl, splice, bind, ↓reduceIte, simprocAttr, z2, z3]
    · have hbig : 1 < ds.length := by
        have : ¬ (ds.length : Int) = 1 := by simpa using h1
        omega
      obtain ⟨hs0, hs1⟩ := splitM_bd hbig
      have hmb := mroot_big hbig
      have hL := fl_take h16 (splitM ds.length) (by omega)
      have hR := fl_drop h16 (splitM ds.length) (by omega)
      have i1 := ih (splitM ds.length) (by omega) k (ds.take (splitM ds.length)) (by simp; omega) (by omega) (h16.take _)
      have i2 := ih (ds.length - splitM ds.length) (by omega) k (ds.drop (splitM ds.length)) (by simp) (by omega) (h16.drop _)
      have ll1 : (ds.take (splitM ds.length)).length = splitM ds.length := by simp; omega
      have ll2 : (ds.drop (splitM ds.length)).length = ds.length - splitM ds.length := by simp
      rw [ll1] at i1
      rw [ll2] at i2
      have hRl : (fl (ds.drop (splitM ds.length))).length = (ds.length - splitM ds.length) * 16 := by rw [fl_len (h16.drop _), ll2]
      have ss := split_spec ds.length (by omega) (by omega)
      generalize splitM ds.length = q at *
      generalize ds.take q = A at *
      generalize ds.drop q = B at *
      refine AW_reg TB (fun D K hD hK => ?_)
      simp only [AwS, TS, AwD, aval, aIndex, aSlice, aLen, BN, BW, BS, Int.cast_ofNat_Int, spl, splice, bind, ↓reduceIte, simprocAttr]
      refine hK _ _ ?_
      clear hD hK D K
      refine AL_callP rfl rfl rfl rfl en_87 ss [] ?_ (by simp) rfl rfl ?_
      · simp [evs, St.ev, cav, alook, lendA, lentBx, lendC, blook, AVs.map, AV.map, ioMap]
      refine AL_runR TB _ _ (fun D K hD hK => ?_)
      simp only [AwS, TS, AwD, aval, aIndex, aSlice, aLen, BN, BW, BS, Int.cast_ofNat_Int, spl, splice, bind, ↓reduceIte, simprocAttr]
      refine hD _ ?_
      clear hD hK D K
      have y1 : (0 ≤ (q : Int)) = True := by simp
      have y2 : (q ≤ ds.length) = True := by simp; omega
      have y3 : (0 ≤ (ds.length : Int)) = True := by simp
      have y4 : List.take ((ds.length - q) * 16) (fl B) = fl B := List.take_of_length_le (by omega)
      refine AW_dreg TB mx ([[], [], [], [0, 1, 2], [3, 0, 1, 2], [], [], [], [], [5, 6, 7, 8], [9, 5, 6, 7, 8, 4, 3, 0, 1, 2], [4, 3, 0, 1, 2, 10, 9, 5, 6, 7, 8], [11, 4, 3, 0, 1, 2, 10, 9, 5, 6, 7, 8]]) (by kernel_rfl) (by kernel_rfl) (fun D K hD hK => ?_)
      simp only [AwS, TS, AwD, aval, aIndex, aSlice, aLen, BN, BW, BS, Int.cast_ofNat_Int, spl, splice, bind, ↓reduceIte, simprocAttr, Op.operands, Call.operands, List.toList_toArray, List.size_toArray, cmp, List.getD_cons_zero, List.getD_cons_succ, Array.toList_append, Option.toArray, List.append_toArray,  y1, y2, y3, y4, hL, hR, Int.toNat_natCast, implies_true, Nat.sub_zero]
      refine hK _ _ _ _ ?_
      clear hD hK D K
      refine DL_call rfl rfl rfl rfl rfl en_52 i1 (fun out h => h) [] [] rfl rfl (by simp) (by simp) ?_ (by simp) (by simp) (by simp [alook, AV.map, cs_map, wws_map]) rfl (by simp) rfl ?_
      · simp [evs, St.ev, cav, alook, lendA, lentBx, lendC, blook, AVs.map, AV.map, ioMap, fl_map]
      refine DL_rest TB rfl (fun D K hD hK => ?_)
      simp only [AwS, TS, AwD, aval, aIndex, aSlice, aLen, BN, BW, BS, Int.cast_ofNat_Int, spl, splice, bind, ↓reduceIte, simprocAttr, Op.operands, Call.operands, List.toList_toArray, List.size_toArray, cmp, List.getD_cons_zero, List.getD_cons_succ, Array.toList_append, Option.toArray, List.append_toArray, y1, y2, y3, y4, hL, hR, Int.toNat_natCast, implies_true, Nat.sub_zero, bws_map]
      refine hK _ _ _ _ ?_
      clear hD hK D K
      refine DL_call rfl rfl rfl rfl rfl en_52 i2 (fun out h => h) [] [] rfl rfl (by simp) (by simp) ?_ (by simp) (by simp) (by simp [alook, AV.map, cs_map, wws_map]) rfl (by simp) rfl ?_
      · simp [evs, St.ev, cav, alook, lendA, lentBx, lendC, blook, AVs.map, AV.map, ioMap, fl_map]
      refine DL_rest TB rfl (fun D K hD hK => ?_)
      simp only [AwS, TS, AwD, aval, aIndex, aSlice, aLen, BN, BW, BS, Int.cast_ofNat_Int, spl, splice, bind, ↓reduceIte, simprocAttr, Op.operands, Call.operands, List.toList_toArray, List.size_toArray, cmp, List.getD_cons_zero, List.getD_cons_succ, Array.toList_append, Option.toArray, List.append_toArray, bws_map]
      refine hK _ _ _ _ ?_
      clear hD hK D K
      have ns := node_spec (mroot A) (mroot B) (mroot_len _) (mroot_len _)
      rw [← hmb] at ns
      refine DL_call rfl rfl rfl rfl rfl en_88 ns (fun out h => h) [] [] rfl rfl (by simp) (by simp) ?_ (by simp) (by simp) (by simp [alook, AV.map, cs_map, wws_map]) rfl (by simp) rfl ?_
      · simp [evs, St.ev, cav, alook, lendA, lentBx, lendC, blook, AVs.map, AV.map, ioMap, bws_map]
      have hdl := mroot_len ds
      generalize mroot ds = d at hdl
      have z1 : spl (List.replicate 16 (.val (.int .u8 0))) 0 (d.map bw) = d.map bw := spl_all (by simp [hdl]) (by simp [hdl])
      simp only [List.replicate] at z1
      have z2 : List.take 16 (d.map bw) = d.map bw := List.take_of_length_le (by simp [hdl])
      have z3 : (d.map bw).length = 16 := by simp [hdl]
      refine DL_rest TB rfl (fun D K hD hK => ?_)
      simp only [AwS, TS, AwD, aval, aIndex, aSlice, aLen, BN, BW, BS, Int.cast_ofNat_Int, spl, splice, bind, ↓reduceIte, simprocAttr, Op.operands, Call.operands, List.toList_toArray, List.size_toArray, cmp, List.getD_cons_zero, List.getD_cons_succ, Array.toList_append, Option.toArray, List.append_toArray, z1, z3, bws_cell, bws_map, -spl]
      refine hD _ ?_
      clear hD hK D K
      refine AW_ret ?_
      simp only [Ret, blockQ]
      refine retp (.agg (d.map bw)) rfl ?_ (by simp only [AV.map, bws_map]) rfl
      simp only [resOf, resAll, resAV, AwS, TS, AwD, aval, aIndex, aSlice, aLen, BN, BW, BS, Int.cast_ofNat_Int, spl, splice, bind, ↓reduceIte, simprocAttr, z2, z3]

end Go.Proofs.YtgbpgplkhifgiaaDoor
