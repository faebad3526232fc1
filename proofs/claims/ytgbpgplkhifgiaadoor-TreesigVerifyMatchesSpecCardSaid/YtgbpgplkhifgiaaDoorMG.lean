/- The walks of bootchainref02's HMAC (keys of at most 64 bytes), MAC and Derive. No condition. -/
import Derived.Test.YtgbpgplkhifgiaaDoorMF
set_option linter.unusedVariables false
set_option linter.unusedSimpArgs false
set_option maxRecDepth 100000
namespace Go.Proofs.YtgbpgplkhifgiaaDoor
open Go Go.RowKit

theorem b_xor_54 (x : UInt8) : binI .xor .u8 (x.toNat : Int) 54 = some (.int .u8 ((x ^^^ 54).toNat : Int)) := b_xor x 54
theorem b_xor_92 (x : UInt8) : binI .xor .u8 (x.toNat : Int) 92 = some (.int .u8 ((x ^^^ 92).toNat : Int)) := b_xor x 92
def kpad (key : List UInt8) (x : UInt8) (i : Nat) : List UInt8 := (List.range i).map fun j => key.getD j 0 ^^^ x
theorem kpad_succ (key : List UInt8) (x : UInt8) (i : Nat) : kpad key x (i + 1) = kpad key x i ++ [key.getD i 0 ^^^ x] := by simp [kpad, List.range_succ]
theorem kpad_len (key : List UInt8) (x : UInt8) (i : Nat) : (kpad key x i).length = i := by simp [kpad]
theorem kpad_64 (key : List UInt8) (x : UInt8) (hk : key.length ≤ 64) : kpad key x 64 = padK key x := by
  apply List.ext_getElem
  · rw [kpad_len, padK_len key x hk]
  · intro j h1 h2
    have hj : j < 64 := by rw [kpad_len] at h1; exact h1
    simp only [kpad, padK, padX, List.getElem_map, List.getElem_range, List.take_length]
    by_cases hl : j < key.length
    · rw [List.getElem_append_left (by simpa using hl)]
      simp [List.getElem?_eq_getElem hl, UInt8.xor_comm]
    · rw [List.getElem_append_right (by simp; omega)]
      simp [List.getElem?_eq_none (show key.length ≤ j by omega)]

def rhmF (k kb : Bool) (key b : List UInt8) (i : Nat) : St :=
  { nt := 47, nx := 3, tm := [(7, iv (i : Nat)), (5, .sl 1 0 i 1 (some 5)), (6, .sl 2 0 i 1 (some 5)), (4, .ptr 0 0), (0, .ds k key.length (key.map bw)), (1, .ds kb b.length (b.map bw))], bx := [(0, some (zB 32)), (1, some ((kpad key 54 i).map bw)), (2, some ((kpad key 92 i).map bw))], gl := [], df := [] }


theorem rhmac_spec (k kb : Bool) (key b : List UInt8) (hk : key.length ≤ 64) (hb : b.length ≤ 10000000) : Spec Tryd.prog [] 158 [.ds k key.length (key.map bw), .ds kb b.length (b.map bw)] [] (fun o => o = .ret (.agg ((hmac key b).map bw)) [] []) := by
  refine spec_of TB 47 [.cell 4 128] Tryd.func158 rfl rfl rfl (Nat.le_of_ble_eq_true rfl) ?_
  intro X w0 E0 hE hX
  simp only [idx, List.map_nil, List.length_nil]
  have c0 : ((key.length : Int) > 64) = False := eq_false (by omega)
  refine AW_reg TB (fun D K hD hK => ?_)
  simp only [AwS, TS, AwD, aval, aIndex, aSlice, aLen, BN, BW, BS, Int.cast_ofNat_Int, spl, splice, bind, ↓reduceIte, simprocAttr, zB_eq]
  refine hD _ ?_
  clear hD hK D K
  refine AW_seq ?_
  refine AW_reg TB (fun D K hD hK => ?_)
  simp only [AwS, TS, AwD, aval, aIndex, aSlice, aLen, BN, BW, BS, Int.cast_ofNat_Int, spl, splice, bind, ↓reduceIte, simprocAttr]
  refine hD _ ?_
  clear hD hK D K
  refine AW_cond rfl (fun h => ?_) (fun h => AW_skip ?_)
  · exact absurd (by simpa using h) (show ¬ (64 : Int) < key.length by omega)
  simp only [seqQ]
  refine AW_reg TB (fun D K hD hK => ?_)
  simp only [AwS, TS, AwD, aval, aIndex, aSlice, aLen, BN, BW, BS, Int.cast_ofNat_Int, spl, splice, bind, ↓reduceIte, simprocAttr]
  refine hD _ ?_
  clear hD hK D K
  refine AW_reg TB (fun D K hD hK => ?_)
  simp only [AwS, TS, AwD, aval, aIndex, aSlice, aLen, BN, BW, BS, Int.cast_ofNat_Int, spl, splice, bind, ↓reduceIte, simprocAttr]
  refine hD _ ?_
  clear hD hK D K
  refine AW_seqk (fun K0 hK0 => ?_)
  refine AW_reg TB (fun D K hD hK => ?_)
  simp only [AwS, TS, AwD, aval, aIndex, aSlice, aLen, BN, BW, BS, Int.cast_ofNat_Int, spl, splice, bind, ↓reduceIte, simprocAttr]
  refine hD _ ?_
  clear hD hK D K
  refine AW_block ?_
  refine AW_loop (rhmF k kb key b) (fun i => i ≤ 64) (fun i => 64 - i) hE 0 [(0, 0), (1, 32), (2, 40)] (by omega) ?_ ?_
  · refine ⟨rfl, by simp [rhmF, kpad, alook, AV.map, AVs.map, bws_map, zB, rep_map], ⟨rfl, rfl⟩, ?_, ?_, by simp [rhmF, kpad], by simp [rhmF, kpad, nmap], ?_⟩
    · simp [rhmF, kpad, alook, AV.map, AVs.map, nmap, AVs_map_append, ivs_map, yvs_map, bws_map, zB, rep_map]
    · simp [rhmF, kpad, blook, AV.map, AVs.map, nmap, AVs_map_append, ivs_map, yvs_map, bws_map, zB, rep_map]
    · intro k hk
      have hk2 : k < 0 := hk
      omega
  intro i hi
  simp only [rhmF]
  refine AW_seq ?_
  refine AW_reg TB (fun D K hD hK => ?_)
  simp only [AwS, TS, AwD, aval, aIndex, aSlice, aLen, BN, BW, BS, Int.cast_ofNat_Int, spl, splice, bind, ↓reduceIte, simprocAttr]
  refine hD _ ?_
  clear hD hK D K
  refine AW_cond rfl (fun hi1 => AW_skip ?_) (fun hi1 => AW_exit ?_)
  · have hlt : i < 64 := by
      have : (i : Int) < 64 := by simpa using hi1
      omega
    have w1 : IntKind.i64.wrap ((i : Int) + 1) = (i : Int) + 1 := wrap_i64 (by omega) (by omega)
    have c1 : (i ≤ 4294967295) = True := eq_true (by omega)
    have s1 := kpad_succ key 54 i
    have s2 := kpad_succ key 92 i
    have l1 := kpad_len key 54 i
    have l2 := kpad_len key 92 i
    generalize kpad key 54 i = A at *
    generalize kpad key 92 i = B at *
    simp only [seqQ]
    refine AW_seqk (fun K1 hK1 => ?_)
    refine AW_block ?_
    refine AW_reg TB (fun D K hD hK => ?_)
    simp only [AwS, TS, AwD, aval, aIndex, aSlice, aLen, BN, BW, BS, Int.cast_ofNat_Int, spl, splice, bind, ↓reduceIte, simprocAttr]
    refine hD _ ?_
    clear hD hK D K
    refine AW_seqk (fun K2 hK2 => ?_)
    refine AW_reg TB (fun D K hD hK => ?_)
    simp only [AwS, TS, AwD, aval, aIndex, aSlice, aLen, BN, BW, BS, Int.cast_ofNat_Int, spl, splice, bind, ↓reduceIte, simprocAttr]
    refine hD _ ?_
    clear hD hK D K
    refine AW_cond rfl (fun h6 => ?_) (fun h6 => AW_skip ?_)
    · have hl : i < key.length := by simpa using h6
      have y1 : (0 ≤ (i : Int) ∧ (i : Int) < (key.length : Int)) = True := eq_true (by omega)
      have g1 := dget key i hl
      generalize key.getD i 0 = x at *
      refine AW_regl TB (fun D K hD hK => ?_)
      simp only [AwS, TS, AwD, aval, aIndex, aSlice, aLen, BN, BW, BS, Int.cast_ofNat_Int, spl, splice, bind, ↓reduceIte, simprocAttr, y1, g1, Int.toNat_natCast, Nat.mul_one]
      refine hD _ ?_
      clear hD hK D K
      refine hK2 _ ?_
      refine AW_reg TB (fun D K hD hK => ?_)
      simp only [AwS, TS, AwD, aval, aIndex, aSlice, aLen, BN, BW, BS, Int.cast_ofNat_Int, spl, splice, bind, ↓reduceIte, simprocAttr, b_xor_54, l1, c1]
      refine hD _ ?_
      clear hD hK D K
      refine AW_regl TB (fun D K hD hK => ?_)
      simp only [AwS, TS, AwD, aval, aIndex, aSlice, aLen, BN, BW, BS, Int.cast_ofNat_Int, spl, splice, bind, ↓reduceIte, simprocAttr, b_xor_92, l2, c1]
      refine hD _ ?_
      clear hD hK D K
      simp only [blockQ]
      refine hK1 _ ?_
      refine AW_regl TB (fun D K hD hK => ?_)
      simp only [AwS, TS, AwD, aval, aIndex, aSlice, aLen, BN, BW, BS, Int.cast_ofNat_Int, spl, splice, bind, ↓reduceIte, simprocAttr, w1]
      refine hD _ ?_
      clear hD hK D K
      refine ⟨i + 1, [(0, 0), (1, 131), (2, 179)], by omega, by dsimp only; omega, ?_⟩
      refine ⟨rfl, by simp [rhmF, alook, AV.map, AVs.map, bws_map, s1, s2, zB, rep_map], ⟨rfl, rfl⟩, ?_, ?_, by simp [rhmF], by simp [rhmF, nmap], ?_⟩
      · simp [rhmF, alook, AV.map, AVs.map, nmap, AVs_map_append, ivs_map, yvs_map, bws_map, s1, s2, zB, rep_map]
      · simp [rhmF, blook, AV.map, AVs.map, nmap, AVs_map_append, ivs_map, yvs_map, bws_map, s1, s2, zB, rep_map]
      · intro k hk
        have hk2 : k < 0 := hk
        omega
    · have hl : key.getD i 0 = 0 := by
        have : ¬ i < key.length := by simpa using h6
        rw [List.getD_eq_getElem?_getD, List.getElem?_eq_none (by omega)]
        rfl
      rw [hl] at s1 s2
      have x54 : binI .xor .u8 0 54 = some (.int .u8 (((0 : UInt8) ^^^ 54).toNat : Int)) := b_xor_54 0
      have x92 : binI .xor .u8 0 92 = some (.int .u8 (((0 : UInt8) ^^^ 92).toNat : Int)) := b_xor_92 0
      refine hK2 _ ?_
      refine AW_reg TB (fun D K hD hK => ?_)
      simp only [AwS, TS, AwD, aval, aIndex, aSlice, aLen, BN, BW, BS, Int.cast_ofNat_Int, spl, splice, bind, ↓reduceIte, simprocAttr, x54, l1, c1]
      refine hD _ ?_
      clear hD hK D K
      refine AW_regl TB (fun D K hD hK => ?_)
      simp only [AwS, TS, AwD, aval, aIndex, aSlice, aLen, BN, BW, BS, Int.cast_ofNat_Int, spl, splice, bind, ↓reduceIte, simprocAttr, x92, l2, c1]
      refine hD _ ?_
      clear hD hK D K
      simp only [blockQ]
      refine hK1 _ ?_
      refine AW_regl TB (fun D K hD hK => ?_)
      simp only [AwS, TS, AwD, aval, aIndex, aSlice, aLen, BN, BW, BS, Int.cast_ofNat_Int, spl, splice, bind, ↓reduceIte, simprocAttr, w1]
      refine hD _ ?_
      clear hD hK D K
      refine ⟨i + 1, [(0, 0), (1, 91), (2, 139)], by omega, by dsimp only; omega, ?_⟩
      refine ⟨rfl, by simp [rhmF, alook, AV.map, AVs.map, bws_map, s1, s2, zB, rep_map], ⟨rfl, rfl⟩, ?_, ?_, by simp [rhmF], by simp [rhmF, nmap], ?_⟩
      · simp [rhmF, alook, AV.map, AVs.map, nmap, AVs_map_append, ivs_map, yvs_map, bws_map, s1, s2, zB, rep_map]
      · simp [rhmF, blook, AV.map, AVs.map, nmap, AVs_map_append, ivs_map, yvs_map, bws_map, s1, s2, zB, rep_map]
      · intro k hk
        have hk2 : k < 0 := hk
        omega
  · have hge : i = 64 := by
      have : ¬ (i : Int) < 64 := by simpa using hi1
      omega
    subst hge
    refine hK0 _ ?_
    rw [kpad_64 key 54 hk, kpad_64 key 92 hk]
    have p1 := padK_len key 54 hk
    have p2 := padK_len key 92 hk
    have hres : hmac key b = sum (padK key 92 ++ sum (padK key 54 ++ b)) := rfl
    generalize padK key 54 = pa at *
    generalize padK key 92 = pb at *
    have c1 : (64 + b.length ≤ 4294967296) = True := eq_true (by omega)
    have tb : List.take b.length (b.map bw) = b.map bw := List.take_of_length_le (by simp)
    refine AW_reg TB (fun D K hD hK => ?_)
    simp only [AwS, TS, AwD, aval, aIndex, aSlice, aLen, BN, BW, BS, Int.cast_ofNat_Int, spl, splice, bind, ↓reduceIte, simprocAttr, c1, tb, p1, bws_cell]
    refine hD _ ?_
    clear hD hK D K
    have hq : 64 + b.length = (pa ++ b).length := by simp [p1]
    rw [hq, ← List.map_append]
    generalize hqe : pa ++ b = q at *
    have rs := rsum_spec q false (by omega)
    have hsl := sum_len q
    generalize sum q = h1 at *
    have ra := rall_spec h1 hsl
    refine AW_reg TB (fun D K hD hK => ?_)
    simp only [AwS, TS, AwD, aval, aIndex, aSlice, aLen, BN, BW, BS, Int.cast_ofNat_Int, spl, splice, bind, ↓reduceIte, simprocAttr]
    refine hK _ _ ?_
    clear hD hK D K
    refine AL_callPW rfl (.inl rfl) rfl rfl en_73 rs [35] ?_ (by simp [blook]) (by simp [AV.kept, bws_kept]) (by simp only [AV.map, bws_map]) ?_
    · simp [evs, St.ev, cav, alook, lendA, lentBx, lendC, blook, AVs.map, AV.map, ioMap, bws_map, -List.map_map, lendC_bws, bws_take]
    refine AL_runR TB _ _ (fun D K hD hK => ?_)
    simp only [AwS, TS, AwD, aval, aIndex, aSlice, aLen, BN, BW, BS, Int.cast_ofNat_Int, spl, splice, bind, ↓reduceIte, simprocAttr]
    refine hK _ _ ?_
    clear hD hK D K
    refine AL_callD rfl rfl rfl rfl en_162 ra [] [] rfl (by simp) (by simp) ?_ (by simp) (by simp) rfl (by simp) ?_
    · simp [evs, St.ev, cav, alook, lendA, lentBx, lendC, blook, AVs.map, AV.map, ioMap, bws_map]
    have t32 : List.take 32 (h1.map bw) = h1.map bw := List.take_of_length_le (by simp [hsl])
    have q3 : (h1.map bw).length = 32 := by simp [hsl]
    refine AL_runR TB _ _ (fun D K hD hK => ?_)
    simp only [AwS, TS, AwD, aval, aIndex, aSlice, aLen, BN, BW, BS, Int.cast_ofNat_Int, spl, splice, bind, ↓reduceIte, simprocAttr, bws_map, t32, q3, p2, bws_cell]
    refine hD _ ?_
    clear hD hK D K
    have hlen : (pb ++ h1).length = 96 := by simp [p2, hsl]
    have ss := rsum_spec (pb ++ h1) false (by omega)
    rw [hlen, ← hres] at ss
    have q5 : List.take 96 (pb.map bw ++ h1.map bw) = pb.map bw ++ h1.map bw := List.take_of_length_le (by simp [p2, hsl])
    have hml := hmac_len key b
    generalize hmac key b = m at *
    have z1 : spl (zB 32) 0 (m.map bw) = m.map bw := spl_all (by simp [zB, hml]) (by simp [hml])
    have z4 : (zB 32).length = 32 := by simp [zB]
    have z2 : List.take 32 (m.map bw) = m.map bw := List.take_of_length_le (by simp [hml])
    have z3 : (m.map bw).length = 32 := by simp [hml]
    refine AW_reg TB (fun D K hD hK => ?_)
    simp only [AwS, TS, AwD, aval, aIndex, aSlice, aLen, BN, BW, BS, Int.cast_ofNat_Int, spl, splice, bind, ↓reduceIte, simprocAttr]
    refine hK _ _ ?_
    clear hD hK D K
    refine AL_callPW rfl (.inl rfl) rfl rfl en_73 ss [83] ?_ (by simp [blook]) (by simp [AV.kept, bws_kept]) (by simp only [AV.map, bws_map]) ?_
    · simp [evs, St.ev, cav, alook, lendA, lentBx, lendC, blook, AVs.map, AV.map, ioMap, bws_map, -List.map_map, lendC_bws, bws_take, q5, AVs_map_append]
    refine AL_runR TB _ _ (fun D K hD hK => ?_)
    simp only [AwS, TS, AwD, aval, aIndex, aSlice, aLen, BN, BW, BS, Int.cast_ofNat_Int, spl, splice, bind, ↓reduceIte, simprocAttr, z1, z2, z3, z4, bws_cell, bws_map, -spl]
    refine hD _ ?_
    clear hD hK D K
    refine AW_ret ?_
    simp only [Ret]
    refine retp (.agg (m.map bw)) rfl ?_ (by simp only [AV.map, bws_map]) rfl
    simp only [resOf, resAll, resAV, AwS, TS, AwD, aval, aIndex, aSlice, aLen, BN, BW, BS, Int.cast_ofNat_Int, spl, splice, bind, ↓reduceIte, simprocAttr, z2, z3]
end Go.Proofs.YtgbpgplkhifgiaaDoor

/- The walks of bootchainref02's MAC and Derive, and of bootchainref04's raw. No condition. -/
set_option linter.unusedVariables false
set_option linter.unusedSimpArgs false
set_option maxRecDepth 100000
namespace Go.Proofs.YtgbpgplkhifgiaaDoor
open Go Go.RowKit

theorem rmac_spec (k kb : Bool) (key b : List UInt8) (hk : key.length ≤ 64) (hb : b.length ≤ 10000000) : Spec Tryd.prog [] 145 [.ds k key.length (key.map bw), .ds kb b.length (b.map bw)] [] (fun o => o = .ret (.agg ((mac key b).map bw)) [] []) := by
  refine spec_of TB 9 [.cell 4 23] Tryd.func145 rfl rfl rfl (Nat.le_of_ble_eq_true rfl) ?_
  intro X w0 E0 hE hX
  simp only [idx, List.map_nil, List.length_nil]
  refine AW_reg TB (fun D K hD hK => ?_)
  simp only [AwS, TS, AwD, aval, aIndex, aSlice, aLen, BN, BW, BS, Int.cast_ofNat_Int, spl, splice, bind, ↓reduceIte, simprocAttr]
  refine hD _ ?_
  clear hD hK D K
  refine AW_reg TB (fun D K hD hK => ?_)
  simp only [AwS, TS, AwD, aval, aIndex, aSlice, aLen, BN, BW, BS, Int.cast_ofNat_Int, spl, splice, bind, ↓reduceIte, simprocAttr]
  refine hK _ _ ?_
  clear hD hK D K
  refine AL_callPW rfl (.inl rfl) rfl rfl en_158 (rhmac_spec k kb key b hk hb) [] ?_ (by simp) rfl (by simp only [AV.map, bws_map]) ?_
  · simp [evs, St.ev, cav, alook, lendA, lentBx, lendC, blook, AVs.map, AV.map, ioMap, bws_map]
  have hml := hmac_len key b
  have hmd : mac key b = (hmac key b).take 16 := rfl
  generalize hmac key b = h at hml hmd
  refine AL_runR TB _ _ (fun D K hD hK => ?_)
  simp only [AwS, TS, AwD, aval, aIndex, aSlice, aLen, BN, BW, BS, Int.cast_ofNat_Int, spl, splice, bind, ↓reduceIte, simprocAttr]
  refine hK _ _ ?_
  clear hD hK D K
  refine AL_callPW rfl (.inl rfl) rfl rfl en_72 (rshort_spec h hml) [] ?_ (by simp) rfl (by simp only [AV.map, bws_map]) ?_
  · simp [evs, St.ev, cav, alook, lendA, lentBx, lendC, blook, AVs.map, AV.map, ioMap, bws_map]
  rw [← hmd]
  have hdl : (mac key b).length = 16 := mac_len key b
  generalize mac key b = d at hdl
  have z1 : spl (zB 16) 0 (d.map bw) = d.map bw := spl_all (by simp [zB, hdl]) (by simp [hdl])
  have z0 : spl (List.replicate 16 (.val (.int .u8 0))) 0 (d.map bw) = d.map bw := spl_all (by simp [hdl]) (by simp [hdl])
  simp only [List.replicate] at z0
  have z2 : List.take 16 (d.map bw) = d.map bw := List.take_of_length_le (by simp [hdl])
  have z3 : (d.map bw).length = 16 := by simp [hdl]
  have z4 : (zB 16).length = 16 := by simp [zB]
  refine AL_runR TB _ _ (fun D K hD hK => ?_)
  simp only [AwS, TS, AwD, aval, aIndex, aSlice, aLen, BN, BW, BS, Int.cast_ofNat_Int, spl, splice, bind, ↓reduceIte, simprocAttr, z0, z1, z2, z3, z4, bws_cell, bws_map, -spl]
  refine hD _ ?_
  clear hD hK D K
  refine AW_ret ?_
  simp only [Ret, seqQ]
  refine retp (.agg (d.map bw)) rfl ?_ (by simp only [AV.map, bws_map]) rfl
  simp only [resOf, resAll, resAV, AwS, TS, AwD, aval, aIndex, aSlice, aLen, BN, BW, BS, Int.cast_ofNat_Int, spl, splice, bind, ↓reduceIte, simprocAttr, z2, z3]

def rdvF (k kp : Bool) (key : List UInt8) (ps : List (Bool × List UInt8)) (b : List UInt8) (i : Nat) : St :=
  { nt := 30, nx := 2, tm := [(8, iv (i : Nat)), (0, .ds k key.length (key.map bw)), (2, .ds kp ps.length (ps.map pA)), (7, .sl 0 0 (b ++ wAll (ps.take i)).length 1 (some 5)), (6, .ptr 1 0)], bx := [(0, some ((b ++ wAll (ps.take i)).map bw)), (1, some (zB 16))], gl := [], df := [] }

theorem rderive_spec (k kp : Bool) (key label : List UInt8) (ps : List (Bool × List UInt8)) (hk : key.length ≤ 64) (hll : label.length ≤ 1000) (hn : ps.length ≤ 1000) (hl : (wAll ps).length ≤ 1000000) :
    Spec Tryd.prog [] 122 [.ds k key.length (key.map bw), sv (strOf label), .ds kp ps.length (ps.map pA)] [] (fun o => o = .ret (.agg ((derive key label ps).map bw)) [] []) := by
  refine spec_of TB 30 [.cell 6 23] Tryd.func122 rfl rfl rfl (Nat.le_of_ble_eq_true rfl) ?_
  intro X w0 E0 hE hX
  have hwb := wBytes_len label
  have hfin0 : derive key label ps = mac key (wBytes label ++ wAll ps) := rfl
  simp only [idx, List.map_nil, List.length_nil]
  refine AW_reg TB (fun D K hD hK => ?_)
  simp only [AwS, TS, AwD, aval, aIndex, aSlice, aLen, BN, BW, BS, Int.cast_ofNat_Int, spl, splice, bind, ↓reduceIte, simprocAttr]
  refine hD _ ?_
  clear hD hK D K
  refine AW_reg TB (fun D K hD hK => ?_)
  simp only [AwS, TS, AwD, aval, aIndex, aSlice, aLen, BN, BW, BS, Int.cast_ofNat_Int, spl, splice, bind, ↓reduceIte, simprocAttr]
  refine hK _ _ ?_
  clear hD hK D K
  refine AL_callD rfl rfl rfl rfl en_71 (rbytes_spec label (by omega)) [] [] rfl (by simp) (by simp) ?_ (by simp) (by simp) rfl (by simp) ?_
  · simp [evs, St.ev, cav, alook, lendA, lentBx, lendC, blook, AVs.map, AV.map, ioMap, strOf]
  generalize wBytes label = wl at *
  have tk : List.take wl.length (wl.map bw) = wl.map bw := List.take_of_length_le (by simp)
  have c0 : (wl.length ≤ 4294967296) = True := eq_true (by omega)
  refine AL_runR TB _ _ (fun D K hD hK => ?_)
  simp only [AwS, TS, AwD, aval, aIndex, aSlice, aLen, BN, BW, BS, Int.cast_ofNat_Int, spl, splice, bind, ↓reduceIte, simprocAttr, bws_map, tk, c0, bws_cell]
  refine hD _ ?_
  clear hD hK D K
  refine AW_seqk (fun K0 hK0 => ?_)
  refine AW_reg TB (fun D K hD hK => ?_)
  simp only [AwS, TS, AwD, aval, aIndex, aSlice, aLen, BN, BW, BS, Int.cast_ofNat_Int, spl, splice, bind, ↓reduceIte, simprocAttr]
  refine hD _ ?_
  clear hD hK D K
  refine AW_block ?_
  refine AW_loop (rdvF k kp key ps wl) (fun i => i ≤ ps.length) (fun i => ps.length - i) hE 0 [(0, 32), (1, 0)] (by omega) ?_ ?_
  · refine ⟨rfl, by simp [rdvF, alook, AV.map, AVs.map, bws_map, pAs_map, wAll, zB, rep_map], ⟨rfl, rfl⟩, ?_, ?_, by simp [rdvF], by simp [rdvF, nmap], ?_⟩
    · simp [rdvF, alook, AV.map, AVs.map, nmap, AVs_map_append, ivs_map, yvs_map, bws_map, pAs_map, wAll, zB, rep_map]
    · simp [rdvF, blook, AV.map, AVs.map, nmap, AVs_map_append, ivs_map, yvs_map, bws_map, pAs_map, wAll, zB, rep_map]
    · intro k hk
      have hk2 : k < 0 := hk
      omega
  intro i hi
  simp only [rdvF]
  have hfin : i = ps.length → derive key label ps = mac key (wl ++ wAll (ps.take i)) := by
    rintro rfl
    rw [List.take_length]
    exact hfin0
  have htl := wAll_take_le ps i
  generalize hc : wl ++ wAll (ps.take i) = c at *
  have hcl0 : c.length ≤ 10000000 := by rw [← hc]; simp; omega
  refine AW_seq ?_
  refine AW_reg TB (fun D K hD hK => ?_)
  simp only [AwS, TS, AwD, aval, aIndex, aSlice, aLen, BN, BW, BS, Int.cast_ofNat_Int, spl, splice, bind, ↓reduceIte, simprocAttr]
  refine hD _ ?_
  clear hD hK D K
  refine AW_cond rfl (fun h => AW_skip ?_) (fun h => AW_exit ?_)
  · have hlt : i < ps.length := by simpa using h
    have c1 : (0 ≤ (i : Int) ∧ (i : Int) < ps.length) = True := eq_true (by omega)
    have c2 : (List.drop i (ps.map pA))[0]? = some (.ds ps[i].1 ps[i].2.length (ps[i].2.map bw)) := by simp [hlt, pA]
    have w1 : IntKind.i64.wrap ((i : Int) + 1) = (i : Int) + 1 := wrap_i64 (by omega) (by omega)
    have hpl := part_le ps i hlt
    have htl1 := wAll_take_le ps (i + 1)
    have hsu := wAll_succ ps i hlt
    have hcl : c.length + (wBytes ps[i].2).length ≤ 100000000 := by
      rw [← hc]
      rw [hsu] at htl1
      simp at htl1 ⊢
      omega
    simp only [seqQ]
    refine AW_seqk (fun K1 hK1 => ?_)
    refine AW_block ?_
    refine AW_regl TB (fun D K hD hK => ?_)
    simp only [AwS, TS, AwD, aval, aIndex, aSlice, aLen, BN, BW, BS, Int.cast_ofNat_Int, spl, splice, bind, ↓reduceIte, simprocAttr, c1, Int.toNat_natCast, Nat.mul_one, c2, bws_take, bytesOf_bw]
    refine hK _ _ ?_
    clear hD hK D K
    refine AL_callD rfl rfl rfl rfl en_71 (rbytes_spec ps[i].2 (by omega)) [] [] rfl (by simp) (by simp) ?_ (by simp) (by simp) rfl (by simp) ?_
    · simp [evs, St.ev, cav, alook, lendA, lentBx, lendC, blook, AVs.map, AV.map, ioMap, strOf]
    have c3 : (c.length + (wBytes ps[i].2).length ≤ 4294967296) = True := eq_true (by omega)
    have tk2 : List.take (wBytes ps[i].2).length ((wBytes ps[i].2).map bw) = (wBytes ps[i].2).map bw := List.take_of_length_le (by simp)
    refine AL_runR TB _ _ (fun D K hD hK => ?_)
    simp only [AwS, TS, AwD, aval, aIndex, aSlice, aLen, BN, BW, BS, Int.cast_ofNat_Int, spl, splice, bind, ↓reduceIte, simprocAttr, bws_map, bws_take, bws_cell, c3, tk2]
    refine hD _ ?_
    clear hD hK D K
    simp only [blockQ]
    refine hK1 _ ?_
    refine AW_regl TB (fun D K hD hK => ?_)
    simp only [AwS, TS, AwD, aval, aIndex, aSlice, aLen, BN, BW, BS, Int.cast_ofNat_Int, spl, splice, bind, ↓reduceIte, simprocAttr, w1]
    refine hD _ ?_
    clear hD hK D K
    have hc2 : wl ++ wAll (ps.take (i + 1)) = c ++ wBytes ps[i].2 := by rw [hsu, ← List.append_assoc, hc]
    refine ⟨i + 1, [(0, 90), (1, 1)], by omega, by dsimp only; omega, ?_⟩
    refine ⟨rfl, by simp [rdvF, alook, AV.map, AVs.map, bws_map, pAs_map, hc2, zB, rep_map], ⟨rfl, rfl⟩, ?_, ?_, by simp [rdvF], by simp [rdvF, nmap], ?_⟩
    · simp [rdvF, alook, AV.map, AVs.map, nmap, AVs_map_append, ivs_map, yvs_map, bws_map, pAs_map, hc2, zB, rep_map]
    · simp [rdvF, blook, AV.map, AVs.map, nmap, AVs_map_append, ivs_map, yvs_map, bws_map, pAs_map, hc2, zB, rep_map]
    · intro k hk
      have hk2 : k < 0 := hk
      omega
  · have hge : i = ps.length := by
      have : ¬ i < ps.length := by simpa using h
      omega
    refine hK0 _ ?_
    rw [hfin hge]
    refine AW_reg TB (fun D K hD hK => ?_)
    simp only [AwS, TS, AwD, aval, aIndex, aSlice, aLen, BN, BW, BS, Int.cast_ofNat_Int, spl, splice, bind, ↓reduceIte, simprocAttr]
    refine hK _ _ ?_
    clear hD hK D K
    refine AL_callPW rfl (.inl rfl) rfl rfl en_145 (rmac_spec k false key c hk hcl0) [0] ?_ (by simp [blook]) (by simp [AV.kept, bws_kept]) (by simp only [AV.map, bws_map]) ?_
    · simp [evs, St.ev, cav, alook, lendA, lentBx, lendC, blook, AVs.map, AV.map, ioMap, bws_map, -List.map_map, lendC_bws, bws_take]
    have hdl : (mac key c).length = 16 := mac_len _ _
    generalize mac key c = d at hdl
    have z1 : spl (zB 16) 0 (d.map bw) = d.map bw := spl_all (by simp [zB, hdl]) (by simp [hdl])
    have z0 : spl (List.replicate 16 (.val (.int .u8 0))) 0 (d.map bw) = d.map bw := spl_all (by simp [hdl]) (by simp [hdl])
    simp only [List.replicate] at z0
    have z2 : List.take 16 (d.map bw) = d.map bw := List.take_of_length_le (by simp [hdl])
    have z3 : (d.map bw).length = 16 := by simp [hdl]
    have z4 : (zB 16).length = 16 := by simp [zB]
    refine AL_runR TB _ _ (fun D K hD hK => ?_)
    simp only [AwS, TS, AwD, aval, aIndex, aSlice, aLen, BN, BW, BS, Int.cast_ofNat_Int, spl, splice, bind, ↓reduceIte, simprocAttr, z0, z1, z2, z3, z4, bws_cell, bws_map, -spl]
    refine hD _ ?_
    clear hD hK D K
    refine AW_ret ?_
    simp only [Ret, seqQ]
    refine retp (.agg (d.map bw)) rfl ?_ (by simp only [AV.map, bws_map]) rfl
    simp only [resOf, resAll, resAV, AwS, TS, AwD, aval, aIndex, aSlice, aLen, BN, BW, BS, Int.cast_ofNat_Int, spl, splice, bind, ↓reduceIte, simprocAttr, z2, z3]

def rrwF (h : List UInt8) (i : Nat) : St := { nt := 16, nx := 2, tm := [(4, iv (i : Nat)), (3, .sl 1 0 (h.take i).length 1 (some 5)), (1, .ptr 0 0)], bx := [(0, some (h.map bw)), (1, some ((h.take i).map bw))], gl := [], df := [] }

theorem rraw_spec (h : List UInt8) (hl : h.length = 16) : Spec Tryd.prog [] 103 [.agg (h.map bw)] [] (fun o => o = .ret (.sl 0 0 16 1 (some 5)) [] [h.map bw]) := by
  refine spec_of TB 16 [.tmp 2] Tryd.func103 rfl rfl rfl (Nat.le_of_ble_eq_true rfl) ?_
  intro X w0 E0 hE hX
  have hml : (h.map bw).length = 16 := by simp [hl]
  simp only [idx, List.map_nil, List.length_nil]
  refine AW_reg TB (fun D K hD hK => ?_)
  simp only [AwS, TS, AwD, aval, aIndex, aSlice, aLen, BN, BW, BS, Int.cast_ofNat_Int, spl, splice, bind, ↓reduceIte, simprocAttr, hml]
  refine hD _ ?_
  clear hD hK D K
  refine AW_reg TB (fun D K hD hK => ?_)
  simp only [AwS, TS, AwD, aval, aIndex, aSlice, aLen, BN, BW, BS, Int.cast_ofNat_Int, spl, splice, bind, ↓reduceIte, simprocAttr]
  refine hD _ ?_
  clear hD hK D K
  refine AW_seqk (fun K0 hK0 => ?_)
  refine AW_reg TB (fun D K hD hK => ?_)
  simp only [AwS, TS, AwD, aval, aIndex, aSlice, aLen, BN, BW, BS, Int.cast_ofNat_Int, spl, splice, bind, ↓reduceIte, simprocAttr]
  refine hD _ ?_
  clear hD hK D K
  refine AW_block ?_
  refine AW_loop (rrwF h) (fun i => i ≤ 16) (fun i => 16 - i) hE 0 [(0, 0), (1, 16)] (by omega) ?_ ?_
  · refine ⟨rfl, by simp [rrwF, alook, AV.map, AVs.map, bws_map], ⟨rfl, rfl⟩, ?_, ?_, by simp [rrwF], by simp [rrwF, nmap], ?_⟩
    · simp [rrwF, alook, AV.map, AVs.map, nmap, AVs_map_append, ivs_map, yvs_map, bws_map]
    · simp [rrwF, blook, AV.map, AVs.map, nmap, AVs_map_append, ivs_map, yvs_map, bws_map]
    · intro k hk
      have hk2 : k < 0 := hk
      omega
  intro i hi
  simp only [rrwF]
  refine AW_seq ?_
  refine AW_reg TB (fun D K hD hK => ?_)
  simp only [AwS, TS, AwD, aval, aIndex, aSlice, aLen, BN, BW, BS, Int.cast_ofNat_Int, spl, splice, bind, ↓reduceIte, simprocAttr]
  refine hD _ ?_
  clear hD hK D K
  refine AW_cond rfl (fun hi1 => AW_skip ?_) (fun hi1 => AW_exit ?_)
  · have hlt : i < 16 := by
      have : (i : Int) < 16 := by simpa using hi1
      omega
    have w1 : IntKind.i64.wrap ((i : Int) + 1) = (i : Int) + 1 := wrap_i64 (by omega) (by omega)
    have y2 : (0 ≤ (i : Int) ∧ (i : Int) < 16) = True := eq_true (by omega)
    have gV := bget h i (by omega)
    have hts := takeS h i (by omega)
    have htl : (h.take i).length = i := by simp; omega
    have htl2 : (h.take (i + 1)).length = i + 1 := by simp; omega
    have c3 : (i ≤ 4294967295) = True := eq_true (by omega)
    generalize h.getD i 0 = x at *
    generalize h.take i = T at *
    simp only [seqQ, htl]
    refine AW_seqk (fun K1 hK1 => ?_)
    refine AW_block ?_
    refine AW_regl TB (fun D K hD hK => ?_)
    simp only [AwS, TS, AwD, aval, aIndex, aSlice, aLen, BN, BW, BS, Int.cast_ofNat_Int, spl, splice, bind, ↓reduceIte, simprocAttr, y2, gV, c3, htl, Int.toNat_natCast, Nat.mul_one]
    refine hD _ ?_
    clear hD hK D K
    simp only [blockQ]
    refine hK1 _ ?_
    refine AW_regl TB (fun D K hD hK => ?_)
    simp only [AwS, TS, AwD, aval, aIndex, aSlice, aLen, BN, BW, BS, Int.cast_ofNat_Int, spl, splice, bind, ↓reduceIte, simprocAttr, w1]
    refine hD _ ?_
    clear hD hK D K
    refine ⟨i + 1, [(0, 0), (1, 58)], by omega, by dsimp only; omega, ?_⟩
    refine ⟨rfl, by simp [rrwF, alook, AV.map, AVs.map, bws_map, hts, htl], ⟨rfl, rfl⟩, ?_, ?_, by simp [rrwF], by simp [rrwF, nmap], ?_⟩
    · simp [rrwF, alook, AV.map, AVs.map, nmap, AVs_map_append, ivs_map, yvs_map, bws_map, hts, htl]
    · simp [rrwF, blook, AV.map, AVs.map, nmap, AVs_map_append, ivs_map, yvs_map, bws_map, hts, htl]
    · intro k hk
      have hk2 : k < 0 := hk
      omega
  · have hge : i = 16 := by
      have : ¬ (i : Int) < 16 := by simpa using hi1
      omega
    subst hge
    refine hK0 _ ?_
    have t32 : h.take 16 = h := List.take_of_length_le (by omega)
    simp only [t32, hl]
    refine AW_reg TB (fun D K hD hK => ?_)
    simp only [AwS, TS, AwD, aval, aIndex, aSlice, aLen, BN, BW, BS, Int.cast_ofNat_Int, spl, splice, bind, ↓reduceIte, simprocAttr]
    refine hD _ ?_
    clear hD hK D K
    refine AW_ret ?_
    simp only [Ret]
    exact ret_sl _ _ _ _ _ rfl rfl rfl (fun f => bws_map f _) rfl
end Go.Proofs.YtgbpgplkhifgiaaDoor

/- The walks of bootchainref04's Step, Advance and Start. No condition. -/
set_option linter.unusedVariables false
set_option linter.unusedSimpArgs false
set_option maxRecDepth 100000
namespace Go.Proofs.YtgbpgplkhifgiaaDoor
open Go Go.RowKit

theorem rstep_spec (k : Int) (v : List UInt8) (hv : v.length = 16) (hk1 : -9223372036854775808 ≤ k) (hk2 : k < 9223372036854775808) :
    Spec Tryd.prog [] 121 [iv k, .agg (v.map bw)] [] (fun o => o = .ret (.agg ((stepW k v).map bw)) [] []) := by
  refine spec_of TB 11 [.cell 4 23] Tryd.func121 rfl rfl rfl (Nat.le_of_ble_eq_true rfl) ?_
  intro X w0 E0 hE hX
  have hml : (v.map bw).length = 16 := by simp [hv]
  have hmt : List.take 16 (v.map bw) = v.map bw := List.take_of_length_le (by simp [hv])
  have hwl := wInt_len k
  have hps : (wAll (lp [wInt k, v])).length ≤ 10000000 := by
    have h1 := wBytes_len (wInt k)
    have h2 := wBytes_len v
    simp [wAll, lp]; omega
  have ds := rdigest_spec 3 false (lp [wInt k, v]) (by simp [lp]) hps
  have hst : dig (byteOf 3) (lp [wInt k, v]) = stepW k v := rfl
  rw [hst] at ds
  simp only [idx, List.map_nil, List.length_nil]
  refine AW_reg TB (fun D K hD hK => ?_)
  simp only [AwS, TS, AwD, aval, aIndex, aSlice, aLen, BN, BW, BS, Int.cast_ofNat_Int, spl, splice, bind, ↓reduceIte, simprocAttr]
  refine hD _ ?_
  clear hD hK D K
  refine AW_dreg TB mx ([[], [0], [], [2, 1, 0], [1, 0, 3, 2], [4, 1, 0, 3, 2], [5, 4, 1, 0, 3, 2]]) (by kernel_rfl) (by kernel_rfl) (fun D K hD hK => ?_)
  simp only [AwS, TS, AwD, aval, aIndex, aSlice, aLen, BN, BW, BS, Int.cast_ofNat_Int, spl, splice, bind, ↓reduceIte, simprocAttr, Op.operands, Call.operands, List.toList_toArray, List.size_toArray, cmp, List.getD_cons_zero, List.getD_cons_succ, Array.toList_append, Option.toArray, List.append_toArray,  hml, hmt]
  refine hK _ _ _ _ ?_
  clear hD hK D K
  refine DL_call rfl rfl rfl rfl rfl en_106 (rint_spec k hk1 hk2) (fun out h => h) [] [] rfl rfl (by simp) (by simp) ?_ (by simp) (by simp) (by simp) rfl (by simp) rfl ?_
  · simp [evs, St.ev, cav, alook, lendA, lentBx, lendC, blook, AVs.map, AV.map, ioMap]
  refine DL_rest TB rfl (fun D K hD hK => ?_)
  simp only [AwS, TS, AwD, aval, aIndex, aSlice, aLen, BN, BW, BS, Int.cast_ofNat_Int, spl, splice, bind, ↓reduceIte, simprocAttr, Op.operands, Call.operands, List.toList_toArray, List.size_toArray, cmp, List.getD_cons_zero, List.getD_cons_succ, Array.toList_append, Option.toArray, List.append_toArray, hml, hmt, bws_map]
  refine hK _ _ _ _ ?_
  clear hD hK D K
  refine DL_call rfl rfl rfl rfl rfl en_103 (rraw_spec v hv) (fun out h => h) [] [] rfl rfl (by simp) (by simp) ?_ (by simp) (by simp) (by simp) rfl (by simp) rfl ?_
  · simp [evs, St.ev, cav, alook, lendA, lentBx, lendC, blook, AVs.map, AV.map, ioMap, bws_map]
  refine DL_rest TB rfl (fun D K hD hK => ?_)
  simp only [AwS, TS, AwD, aval, aIndex, aSlice, aLen, BN, BW, BS, Int.cast_ofNat_Int, spl, splice, bind, ↓reduceIte, simprocAttr, Op.operands, Call.operands, List.toList_toArray, List.size_toArray, cmp, List.getD_cons_zero, List.getD_cons_succ, Array.toList_append, Option.toArray, List.append_toArray, bws_map]
  refine hK _ _ _ _ ?_
  clear hD hK D K
  refine DL_callPW rfl rfl (.inl rfl) rfl rfl en_30 ds [48, 24, 40] ?_ (by simp [blook]) (by simp) (by simp [AV.kept, bws_kept]) (by simp only [AV.map, bws_map]) rfl ?_
  · simp [evs, St.ev, cav, alook, lendA, lentBx, lendC, blook, AVs.map, AV.map, ioMap, bws_map, -List.map_map, lendC_bws, bws_take, hmt, lp, pA, hv]
  have hdl : (stepW k v).length = 16 := dig_len _ _
  generalize stepW k v = d at hdl
  have z1 : spl (zB 16) 0 (d.map bw) = d.map bw := spl_all (by simp [zB, hdl]) (by simp [hdl])
  have z0 : spl (List.replicate 16 (.val (.int .u8 0))) 0 (d.map bw) = d.map bw := spl_all (by simp [hdl]) (by simp [hdl])
  simp only [List.replicate] at z0
  have z2 : List.take 16 (d.map bw) = d.map bw := List.take_of_length_le (by simp [hdl])
  have z3 : (d.map bw).length = 16 := by simp [hdl]
  have z4 : (zB 16).length = 16 := by simp [zB]
  refine DL_rest TB rfl (fun D K hD hK => ?_)
  simp only [AwS, TS, AwD, aval, aIndex, aSlice, aLen, BN, BW, BS, Int.cast_ofNat_Int, spl, splice, bind, ↓reduceIte, simprocAttr, Op.operands, Call.operands, List.toList_toArray, List.size_toArray, cmp, List.getD_cons_zero, List.getD_cons_succ, Array.toList_append, Option.toArray, List.append_toArray, z0, z1, z2, z3, z4, bws_cell, bws_map, -spl]
  refine hD _ ?_
  clear hD hK D K
  refine AW_ret ?_
  simp only [Ret, seqQ]
  refine retp (.agg (d.map bw)) rfl ?_ (by simp only [AV.map, bws_map]) rfl
  simp only [resOf, resAll, resAV, AwS, TS, AwD, aval, aIndex, aSlice, aLen, BN, BW, BS, Int.cast_ofNat_Int, spl, splice, bind, ↓reduceIte, simprocAttr, z2, z3]

def radF (k : Int) (v : List UInt8) (n i : Nat) : St := { nt := 17, nx := 2, tm := [(7, iv (i : Nat)), (2, iv (n : Nat)), (6, .ptr 1 0), (4, .ptr 0 0), (0, iv k)], bx := [(0, some ((advW k v i).map bw)), (1, some (zB 16))], gl := [], df := [] }

theorem radvance_spec (k : Int) (v : List UInt8) (n : Nat) (hv : v.length = 16) (hk1 : -9223372036854775808 ≤ k) (hk2 : k < 9223372036854775808) (hn : n ≤ 1000) :
    Spec Tryd.prog [] 101 [iv k, .agg (v.map bw), iv (n : Nat)] [] (fun o => o = .ret (.agg ((advW k v n).map bw)) [] []) := by
  refine spec_of TB 17 [.cell 6 23] Tryd.func101 rfl rfl rfl (Nat.le_of_ble_eq_true rfl) ?_
  intro X w0 E0 hE hX
  have hml : (v.map bw).length = 16 := by simp [hv]
  simp only [idx, List.map_nil, List.length_nil]
  refine AW_reg TB (fun D K hD hK => ?_)
  simp only [AwS, TS, AwD, aval, aIndex, aSlice, aLen, BN, BW, BS, Int.cast_ofNat_Int, spl, splice, bind, ↓reduceIte, simprocAttr, hml]
  refine hD _ ?_
  clear hD hK D K
  refine AW_seqk (fun K0 hK0 => ?_)
  refine AW_reg TB (fun D K hD hK => ?_)
  simp only [AwS, TS, AwD, aval, aIndex, aSlice, aLen, BN, BW, BS, Int.cast_ofNat_Int, spl, splice, bind, ↓reduceIte, simprocAttr]
  refine hD _ ?_
  clear hD hK D K
  refine AW_block ?_
  refine AW_loop (radF k v n) (fun i => i ≤ n) (fun i => n - i) hE 0 [(0, 0), (1, 8)] (by omega) ?_ ?_
  · refine ⟨rfl, by simp [radF, alook, AV.map, AVs.map, bws_map, zB, rep_map, advW], ⟨rfl, rfl⟩, ?_, ?_, by simp [radF], by simp [radF, nmap], ?_⟩
    · simp [radF, alook, AV.map, AVs.map, nmap, AVs_map_append, ivs_map, yvs_map, bws_map, zB, rep_map, advW]
    · simp [radF, blook, AV.map, AVs.map, nmap, AVs_map_append, ivs_map, yvs_map, bws_map, zB, rep_map, advW]
    · intro k hk
      have hk2 : k < 0 := hk
      omega
  intro i hi
  simp only [radF]
  have hal := advW_len k v hv i
  have hsu : advW k v (i + 1) = stepW k (advW k v i) := rfl
  have hfin : i = n → advW k v n = advW k v i := by rintro rfl; rfl
  generalize advW k v i = a at *
  have a1 : (a.map bw).length = 16 := by simp [hal]
  have a2 : List.take 16 (a.map bw) = a.map bw := List.take_of_length_le (by simp [hal])
  refine AW_seq ?_
  refine AW_reg TB (fun D K hD hK => ?_)
  simp only [AwS, TS, AwD, aval, aIndex, aSlice, aLen, BN, BW, BS, Int.cast_ofNat_Int, spl, splice, bind, ↓reduceIte, simprocAttr]
  refine hD _ ?_
  clear hD hK D K
  refine AW_cond rfl (fun h => AW_skip ?_) (fun h => AW_exit ?_)
  · have hlt : i < n := by simpa using h
    have w1 : IntKind.i64.wrap ((i : Int) + 1) = (i : Int) + 1 := wrap_i64 (by omega) (by omega)
    have sp := rstep_spec k a hal hk1 hk2
    have hsl : (stepW k a).length = 16 := dig_len _ _
    generalize stepW k a = s at *
    have z1 : spl (a.map bw) 0 (s.map bw) = s.map bw := spl_all (by simp [hsl, hal]) (by simp [hsl])
    have z3 : (s.map bw).length = 16 := by simp [hsl]
    simp only [seqQ]
    refine AW_seqk (fun K1 hK1 => ?_)
    refine AW_block ?_
    refine AW_regl TB (fun D K hD hK => ?_)
    simp only [AwS, TS, AwD, aval, aIndex, aSlice, aLen, BN, BW, BS, Int.cast_ofNat_Int, spl, splice, bind, ↓reduceIte, simprocAttr, a1, a2]
    refine hK _ _ ?_
    clear hD hK D K
    refine AL_callPW rfl (.inl rfl) rfl rfl en_121 sp [] ?_ (by simp) rfl (by simp only [AV.map, bws_map]) ?_
    · simp [evs, St.ev, cav, alook, lendA, lentBx, lendC, blook, AVs.map, AV.map, ioMap, bws_map]
    refine AL_runR TB _ _ (fun D K hD hK => ?_)
    simp only [AwS, TS, AwD, aval, aIndex, aSlice, aLen, BN, BW, BS, Int.cast_ofNat_Int, spl, splice, bind, ↓reduceIte, simprocAttr, z1, z3, a1, bws_cell, bws_map, -spl]
    refine hD _ ?_
    clear hD hK D K
    simp only [blockQ]
    refine hK1 _ ?_
    refine AW_regl TB (fun D K hD hK => ?_)
    simp only [AwS, TS, AwD, aval, aIndex, aSlice, aLen, BN, BW, BS, Int.cast_ofNat_Int, spl, splice, bind, ↓reduceIte, simprocAttr, w1]
    refine hD _ ?_
    clear hD hK D K
    refine ⟨i + 1, [(0, 0), (1, 1)], by omega, by dsimp only; omega, ?_⟩
    refine ⟨rfl, by simp [radF, alook, AV.map, AVs.map, bws_map, zB, rep_map, hsu], ⟨rfl, rfl⟩, ?_, ?_, by simp [radF], by simp [radF, nmap], ?_⟩
    · simp [radF, alook, AV.map, AVs.map, nmap, AVs_map_append, ivs_map, yvs_map, bws_map, zB, rep_map, hsu]
    · simp [radF, blook, AV.map, AVs.map, nmap, AVs_map_append, ivs_map, yvs_map, bws_map, zB, rep_map, hsu]
    · intro k hk
      have hk2 : k < 0 := hk
      omega
  · have hge : i = n := by
      have : ¬ i < n := by simpa using h
      omega
    refine hK0 _ ?_
    rw [hfin hge]
    have z1 : spl (zB 16) 0 (a.map bw) = a.map bw := spl_all (by simp [hal, zB]) (by simp [hal])
    have z2 : (zB 16).length = 16 := by simp [zB]
    refine AW_reg TB (fun D K hD hK => ?_)
    simp only [AwS, TS, AwD, aval, aIndex, aSlice, aLen, BN, BW, BS, Int.cast_ofNat_Int, spl, splice, bind, ↓reduceIte, simprocAttr, a1, a2, z1, z2, bws_cell, -spl]
    refine hD _ ?_
    clear hD hK D K
    refine AW_ret ?_
    simp only [Ret]
    refine retp (.agg (a.map bw)) rfl ?_ (by simp only [AV.map, bws_map]) rfl
    simp only [resOf, resAll, resAV, AwS, TS, AwD, aval, aIndex, aSlice, aLen, BN, BW, BS, Int.cast_ofNat_Int, spl, splice, bind, ↓reduceIte, simprocAttr, a1, a2]

theorem rstart_spec (seed : List UInt8) (i k : Int) (hs : seed.length = 16) (hi1 : -9223372036854775808 ≤ i) (hi2 : i < 9223372036854775808) (hk1 : -9223372036854775808 ≤ k) (hk2 : k < 9223372036854775808) :
    Spec Tryd.prog [] 102 [.agg (seed.map bw), iv i, iv k] [] (fun o => o = .ret (.agg ((startW seed i k).map bw)) [] []) := by
  refine spec_of TB 15 [.cell 6 23] Tryd.func102 rfl rfl rfl (Nat.le_of_ble_eq_true rfl) ?_
  intro X w0 E0 hE hX
  have a1 : (seed.map bw).length = 16 := by simp [hs]
  have a2 : List.take 16 (seed.map bw) = seed.map bw := List.take_of_length_le (by simp [hs])
  have hwi := wInt_len i
  have hwk := wInt_len k
  simp only [idx, List.map_nil, List.length_nil]
  refine AW_reg TB (fun D K hD hK => ?_)
  simp only [AwS, TS, AwD, aval, aIndex, aSlice, aLen, BN, BW, BS, Int.cast_ofNat_Int, spl, splice, bind, ↓reduceIte, simprocAttr]
  refine hD _ ?_
  clear hD hK D K
  refine AW_reg TB (fun D K hD hK => ?_)
  simp only [AwS, TS, AwD, aval, aIndex, aSlice, aLen, BN, BW, BS, Int.cast_ofNat_Int, spl, splice, bind, ↓reduceIte, simprocAttr, a1, a2]
  refine hK _ _ ?_
  clear hD hK D K
  refine AL_callD rfl rfl rfl rfl en_103 (rraw_spec seed hs) [] [] rfl (by simp) (by simp) ?_ (by simp) (by simp) rfl (by simp) ?_
  · simp [evs, St.ev, cav, alook, lendA, lentBx, lendC, blook, AVs.map, AV.map, ioMap, bws_map]
  refine AL_runR TB _ _ (fun D K hD hK => ?_)
  simp only [AwS, TS, AwD, aval, aIndex, aSlice, aLen, BN, BW, BS, Int.cast_ofNat_Int, spl, splice, bind, ↓reduceIte, simprocAttr, bws_map]
  refine hK _ _ ?_
  clear hD hK D K
  refine AL_callD rfl rfl rfl rfl en_106 (rint_spec i hi1 hi2) [] [] rfl (by simp) (by simp) ?_ (by simp) (by simp) rfl (by simp) ?_
  · simp [evs, St.ev, cav, alook, lendA, lentBx, lendC, blook, AVs.map, AV.map, ioMap]
  refine AL_runR TB _ _ (fun D K hD hK => ?_)
  simp only [AwS, TS, AwD, aval, aIndex, aSlice, aLen, BN, BW, BS, Int.cast_ofNat_Int, spl, splice, bind, ↓reduceIte, simprocAttr, bws_map]
  refine hK _ _ ?_
  clear hD hK D K
  refine AL_callD rfl rfl rfl rfl en_106 (rint_spec k hk1 hk2) [] [] rfl (by simp) (by simp) ?_ (by simp) (by simp) rfl (by simp) ?_
  · simp [evs, St.ev, cav, alook, lendA, lentBx, lendC, blook, AVs.map, AV.map, ioMap]
  refine AL_runR TB _ _ (fun D K hD hK => ?_)
  simp only [AwS, TS, AwD, aval, aIndex, aSlice, aLen, BN, BW, BS, Int.cast_ofNat_Int, spl, splice, bind, ↓reduceIte, simprocAttr, bws_map]
  refine hK _ _ ?_
  clear hD hK D K
  have hps : (wAll (lp [wInt i, wInt k])).length ≤ 1000000 := by
    have h1 := wBytes_len (wInt i)
    have h2 := wBytes_len (wInt k)
    simp [wAll, lp]
    omega
  have ds := rderive_spec false false seed wotsL (lp [wInt i, wInt k]) (by omega) (by decide) (by simp [lp]) hps
  have hst : derive seed wotsL (lp [wInt i, wInt k]) = startW seed i k := rfl
  rw [hst] at ds
  refine AL_callPW rfl (.inl rfl) rfl rfl en_122 ds [24, 40, 56, 64] ?_ (by simp [blook]) (by simp [AV.kept, bws_kept]) (by simp only [AV.map, bws_map]) ?_
  · simp [evs, St.ev, cav, alook, lendA, lentBx, lendC, blook, AVs.map, AV.map, ioMap, bws_map, -List.map_map, lendC_bws, bws_take, a2, lp, pA, hs, strOf, wotsL]
  have hdl : (startW seed i k).length = 16 := startW_len _ _ _
  generalize startW seed i k = d at hdl
  have z1 : spl (zB 16) 0 (d.map bw) = d.map bw := spl_all (by simp [zB, hdl]) (by simp [hdl])
  have z0 : spl (List.replicate 16 (.val (.int .u8 0))) 0 (d.map bw) = d.map bw := spl_all (by simp [hdl]) (by simp [hdl])
  simp only [List.replicate] at z0
  have z2 : List.take 16 (d.map bw) = d.map bw := List.take_of_length_le (by simp [hdl])
  have z3 : (d.map bw).length = 16 := by simp [hdl]
  have z4 : (zB 16).length = 16 := by simp [zB]
  refine AL_runR TB _ _ (fun D K hD hK => ?_)
  simp only [AwS, TS, AwD, aval, aIndex, aSlice, aLen, BN, BW, BS, Int.cast_ofNat_Int, spl, splice, bind, ↓reduceIte, simprocAttr, z0, z1, z2, z3, z4, bws_cell, bws_map, -spl]
  refine hD _ ?_
  clear hD hK D K
  refine AW_ret ?_
  simp only [Ret, seqQ]
  refine retp (.agg (d.map bw)) rfl ?_ (by simp only [AV.map, bws_map]) rfl
  simp only [resOf, resAll, resAV, AwS, TS, AwD, aval, aIndex, aSlice, aLen, BN, BW, BS, Int.cast_ofNat_Int, spl, splice, bind, ↓reduceIte, simprocAttr, z2, z3]

end Go.Proofs.YtgbpgplkhifgiaaDoor

/- The walks of bootchainref04's digit and Digits. No condition. -/
set_option linter.unusedVariables false
set_option linter.unusedSimpArgs false
set_option maxRecDepth 100000
namespace Go.Proofs.YtgbpgplkhifgiaaDoor
open Go Go.RowKit

theorem tdiv_nat (a b : Nat) (h : a < 9223372036854775808) : IntKind.i64.wrap ((a : Int).tdiv (b : Int)) = ((a / b : Nat) : Int) := by
  have := Nat.div_le_self a b
  rw [← Int.ofNat_tdiv]
  generalize a / b = q at *
  exact wrap_i64 (by omega) (by omega)
theorem tmod_nat (a b : Nat) : (a : Int).tmod (b : Int) = ((a % b : Nat) : Int) := by rw [← Int.ofNat_tmod]

def rdF (x j i : Nat) : St := { nt := 22, nx := 0, tm := [(6, iv ((j + i : Nat) : Int)), (5, iv ((x / 4 ^ i : Nat) : Int))], bx := [], gl := [], df := [] }

theorem rdigit_spec (m : List UInt8) (k : Nat) (hm : m.length = 16) (hk : k < 64) : Spec Tryd.prog [] 120 [.agg (m.map bw), iv (k : Nat)] [] (fun o => o = .ret (nv (dgt m k)) [] []) := by
  refine spec_of TB 22 [.tmp 4] Tryd.func120 rfl rfl rfl (Nat.le_of_ble_eq_true rfl) ?_
  intro X w0 E0 hE hX
  have u1 := tdiv_nat k 4 (by omega)
  have u2 := tmod_nat k 4
  simp only [Int.cast_ofNat_Int] at u1 u2
  have y1 : (0 ≤ ((k / 4 : Nat) : Int) ∧ ((k / 4 : Nat) : Int) < 16) = True := eq_true (by omega)
  have g1 := bget m (k / 4) (by omega)
  have hml : (m.map bw).length = 16 := by simp [hm]
  have hd : dgt m k = (m.getD (k / 4) 0).toNat / 4 ^ (3 - k % 4) % 4 := by
    unfold dgt
    rw [show 6 - 2 * (k % 4) = 2 * (3 - k % 4) by omega, Nat.pow_mul]
  have hx8 := lt8 (m.getD (k / 4) 0)
  rw [hd]
  generalize m.getD (k / 4) 0 = x at *
  have hj : k % 4 < 4 := Nat.mod_lt _ (by omega)
  generalize k % 4 = j at *
  simp only [idx, List.map_nil, List.length_nil]
  refine AW_reg TB (fun D K hD hK => ?_)
  simp only [AwS, TS, AwD, aval, aIndex, aSlice, aLen, BN, BW, BS, Int.cast_ofNat_Int, spl, splice, bind, ↓reduceIte, simprocAttr]
  refine hD _ ?_
  clear hD hK D K
  refine AW_reg TB (fun D K hD hK => ?_)
  simp only [AwS, TS, AwD, aval, aIndex, aSlice, aLen, BN, BW, BS, Int.cast_ofNat_Int, spl, splice, bind, ↓reduceIte, simprocAttr, u1, y1, g1, hml, c_8_i, Int.toNat_natCast, Nat.mul_one]
  refine hD _ ?_
  clear hD hK D K
  refine AW_seqk (fun K0 hK0 => ?_)
  refine AW_reg TB (fun D K hD hK => ?_)
  simp only [AwS, TS, AwD, aval, aIndex, aSlice, aLen, BN, BW, BS, Int.cast_ofNat_Int, spl, splice, bind, ↓reduceIte, simprocAttr, u2]
  refine hD _ ?_
  clear hD hK D K
  refine AW_block ?_
  refine AW_loop (rdF x.toNat j) (fun i => j + i ≤ 3) (fun i => 3 - i) hE 0 [] (by omega) ?_ ?_
  · refine ⟨rfl, by simp [rdF, alook, AV.map, AVs.map], ⟨rfl, rfl⟩, ?_, ?_, by simp [rdF], by simp [rdF, nmap], ?_⟩
    · simp [rdF, alook, AV.map, AVs.map, nmap, AVs_map_append, ivs_map, yvs_map]
    · simp [rdF, blook, AV.map, AVs.map, nmap, AVs_map_append, ivs_map, yvs_map]
    · intro k hk
      have hk2 : k < 0 := hk
      omega
  intro i hi
  simp only [rdF]
  have hps : x.toNat / 4 ^ (i + 1) = x.toNat / 4 ^ i / 4 := by rw [Nat.pow_succ, Nat.div_div_eq_div_mul]
  have hle : x.toNat / 4 ^ i ≤ x.toNat := Nat.div_le_self _ _
  have hfin : j + i = 3 → x.toNat / 4 ^ (3 - j) = x.toNat / 4 ^ i := by intro h; rw [show 3 - j = i by omega]
  generalize x.toNat / 4 ^ i = y at *
  refine AW_seq ?_
  refine AW_reg TB (fun D K hD hK => ?_)
  simp only [AwS, TS, AwD, aval, aIndex, aSlice, aLen, BN, BW, BS, Int.cast_ofNat_Int, spl, splice, bind, ↓reduceIte, simprocAttr]
  refine hD _ ?_
  clear hD hK D K
  refine AW_cond rfl (fun h => AW_skip ?_) (fun h => AW_exit ?_)
  · have hlt : j + i < 3 := by
      have : ((j + i : Nat) : Int) < 3 := of_decide_eq_true h
      omega
    have w1 : IntKind.i64.wrap (((j + i : Nat) : Int) + 1) = ((j + (i + 1) : Nat) : Int) := by rw [wrap_i64 (by omega) (by omega)]; omega
    have u3 := tdiv_nat y 4 (by omega)
    simp only [Int.cast_ofNat_Int] at u3
    simp only [seqQ]
    refine AW_seqk (fun K1 hK1 => ?_)
    refine AW_block ?_
    refine AW_regl TB (fun D K hD hK => ?_)
    simp only [AwS, TS, AwD, aval, aIndex, aSlice, aLen, BN, BW, BS, Int.cast_ofNat_Int, spl, splice, bind, ↓reduceIte, simprocAttr, u3]
    refine hD _ ?_
    clear hD hK D K
    simp only [blockQ]
    refine hK1 _ ?_
    refine AW_regl TB (fun D K hD hK => ?_)
    simp only [AwS, TS, AwD, aval, aIndex, aSlice, aLen, BN, BW, BS, Int.cast_ofNat_Int, spl, splice, bind, ↓reduceIte, simprocAttr, w1]
    refine hD _ ?_
    clear hD hK D K
    refine ⟨i + 1, [], by omega, by dsimp only; omega, ?_⟩
    refine ⟨rfl, by simp [rdF, alook, AV.map, AVs.map, hps], ⟨rfl, rfl⟩, ?_, ?_, by simp [rdF], by simp [rdF, nmap], ?_⟩
    · simp [rdF, alook, AV.map, AVs.map, nmap, AVs_map_append, ivs_map, yvs_map, hps]
    · simp [rdF, blook, AV.map, AVs.map, nmap, AVs_map_append, ivs_map, yvs_map, hps]
    · intro k hk
      have hk2 : k < 0 := hk
      omega
  · have hge : j + i = 3 := by
      have : ¬ ((j + i : Nat) : Int) < 3 := of_decide_eq_false h
      omega
    refine hK0 _ ?_
    rw [hfin hge]
    have u3 := tmod_nat y 4
    simp only [Int.cast_ofNat_Int] at u3
    refine AW_reg TB (fun D K hD hK => ?_)
    simp only [AwS, TS, AwD, aval, aIndex, aSlice, aLen, BN, BW, BS, Int.cast_ofNat_Int, spl, splice, bind, ↓reduceIte, simprocAttr, u3]
    refine hD _ ?_
    clear hD hK D K
    refine AW_ret ?_
    simp only [Ret, blockQ, kQ, loopQ, seqQ, scopeQ, ↓reduceIte]
    exact retp (nv (y % 4)) rfl rfl rfl rfl

def rdsF (m : List UInt8) (i : Nat) : St := { nt := 35, nx := 2, tm := [(5, iv (i : Nat)), (4, nv (sumD m i)), (3, .sl 1 0 i 1 (some 3)), (1, .ptr 0 0)], bx := [(0, some (m.map bw)), (1, some ((digL m i).map nv))], gl := [], df := [] }

theorem rdigits_spec (m : List UInt8) (hm : m.length = 16) : Spec Tryd.prog [] 100 [.agg (m.map bw)] [] (fun o => o = .ret (.sl 0 0 68 1 (some 3)) [] [(digs m).map nv]) := by
  refine spec_of TB 35 [.tmp 2] Tryd.func100 rfl rfl rfl (Nat.le_of_ble_eq_true rfl) ?_
  intro X w0 E0 hE hX
  have hml : (m.map bw).length = 16 := by simp [hm]
  have hmt : List.take 16 (m.map bw) = m.map bw := List.take_of_length_le (by simp [hm])
  simp only [idx, List.map_nil, List.length_nil]
  refine AW_reg TB (fun D K hD hK => ?_)
  simp only [AwS, TS, AwD, aval, aIndex, aSlice, aLen, BN, BW, BS, Int.cast_ofNat_Int, spl, splice, bind, ↓reduceIte, simprocAttr, hml]
  refine hD _ ?_
  clear hD hK D K
  refine AW_reg TB (fun D K hD hK => ?_)
  simp only [AwS, TS, AwD, aval, aIndex, aSlice, aLen, BN, BW, BS, Int.cast_ofNat_Int, spl, splice, bind, ↓reduceIte, simprocAttr]
  refine hD _ ?_
  clear hD hK D K
  refine AW_reg TB (fun D K hD hK => ?_)
  simp only [AwS, TS, AwD, aval, aIndex, aSlice, aLen, BN, BW, BS, Int.cast_ofNat_Int, spl, splice, bind, ↓reduceIte, simprocAttr]
  refine hD _ ?_
  clear hD hK D K
  refine AW_seqk (fun K0 hK0 => ?_)
  refine AW_reg TB (fun D K hD hK => ?_)
  simp only [AwS, TS, AwD, aval, aIndex, aSlice, aLen, BN, BW, BS, Int.cast_ofNat_Int, spl, splice, bind, ↓reduceIte, simprocAttr]
  refine hD _ ?_
  clear hD hK D K
  refine AW_block ?_
  refine AW_loop (rdsF m) (fun i => i ≤ 64) (fun i => 64 - i) hE 0 [(0, 0), (1, 16)] (by omega) ?_ ?_
  · refine ⟨rfl, by simp [rdsF, digL, sumD, alook, AV.map, AVs.map, bws_map], ⟨rfl, rfl⟩, ?_, ?_, by simp [rdsF, digL, sumD], by simp [rdsF, digL, sumD, nmap], ?_⟩
    · simp [rdsF, digL, sumD, alook, AV.map, AVs.map, nmap, AVs_map_append, ivs_map, yvs_map, bws_map]
    · simp [rdsF, digL, sumD, blook, AV.map, AVs.map, nmap, AVs_map_append, ivs_map, yvs_map, bws_map]
    · intro k hk
      have hk2 : k < 0 := hk
      omega
  intro i hi
  simp only [rdsF]
  refine AW_seq ?_
  refine AW_reg TB (fun D K hD hK => ?_)
  simp only [AwS, TS, AwD, aval, aIndex, aSlice, aLen, BN, BW, BS, Int.cast_ofNat_Int, spl, splice, bind, ↓reduceIte, simprocAttr]
  refine hD _ ?_
  clear hD hK D K
  refine AW_cond rfl (fun h => AW_skip ?_) (fun h => AW_exit ?_)
  · have hlt : i < 64 := by
      have : (i : Int) < 64 := by simpa using h
      omega
    have w1 : IntKind.i64.wrap ((i : Int) + 1) = (i : Int) + 1 := wrap_i64 (by omega) (by omega)
    have c1 : (i ≤ 4294967295) = True := eq_true (by omega)
    have sp := rdigit_spec m i hm hlt
    have hs := digL_succ m i
    have hl := digL_len m i
    have hsu : sumD m (i + 1) = sumD m i + (3 - dgt m i) := rfl
    have hsl := sumD_le m i
    have hdl := dgt_lt m i
    generalize dgt m i = d at *
    generalize sumD m i = s at *
    generalize digL m i = D at *
    have v1 : IntKind.i64.wrap ((s : Int) + 3) = ((s + 3 : Nat) : Int) := by rw [wrap_i64 (by omega) (by omega)]; omega
    have v2 : IntKind.i64.wrap (((s + 3 : Nat) : Int) - (d : Int)) = ((s + (3 - d) : Nat) : Int) := by rw [wrap_i64 (by omega) (by omega)]; omega
    simp only [seqQ]
    refine AW_seqk (fun K1 hK1 => ?_)
    refine AW_block ?_
    refine AW_reg TB (fun D K hD hK => ?_)
    simp only [AwS, TS, AwD, aval, aIndex, aSlice, aLen, BN, BW, BS, Int.cast_ofNat_Int, spl, splice, bind, ↓reduceIte, simprocAttr, hml, hmt]
    refine hK _ _ ?_
    clear hD hK D K
    refine AL_callPW rfl (.inl rfl) rfl rfl en_120 sp [] ?_ (by simp) rfl rfl ?_
    · simp [evs, St.ev, cav, alook, lendA, lentBx, lendC, blook, AVs.map, AV.map, ioMap, bws_map]
    refine AL_runR TB _ _ (fun D K hD hK => ?_)
    simp only [AwS, TS, AwD, aval, aIndex, aSlice, aLen, BN, BW, BS, Int.cast_ofNat_Int, spl, splice, bind, ↓reduceIte, simprocAttr, c1, hl, nvs_cell]
    refine hD _ ?_
    clear hD hK D K
    refine AW_regl TB (fun D K hD hK => ?_)
    simp only [AwS, TS, AwD, aval, aIndex, aSlice, aLen, BN, BW, BS, Int.cast_ofNat_Int, spl, splice, bind, ↓reduceIte, simprocAttr, hml, hmt]
    refine hK _ _ ?_
    clear hD hK D K
    refine AL_callPW rfl (.inl rfl) rfl rfl en_120 sp [] ?_ (by simp) rfl rfl ?_
    · simp [evs, St.ev, cav, alook, lendA, lentBx, lendC, blook, AVs.map, AV.map, ioMap, bws_map]
    refine AL_runR TB _ _ (fun D K hD hK => ?_)
    simp only [AwS, TS, AwD, aval, aIndex, aSlice, aLen, BN, BW, BS, Int.cast_ofNat_Int, spl, splice, bind, ↓reduceIte, simprocAttr, v1, v2]
    refine hD _ ?_
    clear hD hK D K
    simp only [blockQ]
    refine hK1 _ ?_
    refine AW_regl TB (fun D K hD hK => ?_)
    simp only [AwS, TS, AwD, aval, aIndex, aSlice, aLen, BN, BW, BS, Int.cast_ofNat_Int, spl, splice, bind, ↓reduceIte, simprocAttr, w1]
    refine hD _ ?_
    clear hD hK D K
    refine ⟨i + 1, [(0, 0), (1, 58)], by omega, by dsimp only; omega, ?_⟩
    refine ⟨rfl, by simp [rdsF, alook, AV.map, AVs.map, bws_map, nvs_map, hs, hsu, List.map_append], ⟨rfl, rfl⟩, ?_, ?_, by simp [rdsF], by simp [rdsF, nmap], ?_⟩
    · simp [rdsF, alook, AV.map, AVs.map, nmap, AVs_map_append, ivs_map, yvs_map, bws_map, nvs_map, hs, hsu, List.map_append]
    · simp [rdsF, blook, AV.map, AVs.map, nmap, AVs_map_append, ivs_map, yvs_map, bws_map, nvs_map, hs, hsu, List.map_append]
    · intro k hk
      have hk2 : k < 0 := hk
      omega
  · have hge : i = 64 := by
      have : ¬ (i : Int) < 64 := by simpa using h
      omega
    subst hge
    have hdd : digs m = digL m 64 ++ [sumD m 64 / 64, sumD m 64 / 16 % 4, sumD m 64 / 4 % 4, sumD m 64 % 4] := by
      have := sumD_le m 64
      unfold digs
      rw [Nat.mod_eq_of_lt (show sumD m 64 / 64 < 4 by omega)]
    have hsl := sumD_le m 64
    have hl := digL_len m 64
    generalize sumD m 64 = s at *
    generalize digL m 64 = D at *
    have u1 := tdiv_nat s 64 (by omega)
    have u2 := tdiv_nat s 16 (by omega)
    have u3 := tdiv_nat s 4 (by omega)
    have u4 := tmod_nat (s / 16) 4
    have u5 := tmod_nat (s / 4) 4
    have u6 := tmod_nat s 4
    simp only [Int.cast_ofNat_Int] at u1 u2 u3 u4 u5 u6
    refine hK0 _ ?_
    rw [hdd]
    refine AW_reg TB (fun D K hD hK => ?_)
    simp only [AwS, TS, AwD, aval, aIndex, aSlice, aLen, BN, BW, BS, Int.cast_ofNat_Int, spl, splice, bind, ↓reduceIte, simprocAttr, u1, u2, u3, u4, u5, u6, hl, nvs_cell]
    refine hD _ ?_
    clear hD hK D K
    refine AW_ret ?_
    simp only [Ret]
    refine ret_sl _ _ _ _ _ rfl rfl rfl (fun f => by rw [AVs_map_append, nvs_map]; rfl) ?_
    show Out.ret _ [] [D.map nv ++ [nv (s / 64), nv (s / 16 % 4), nv (s / 4 % 4), nv (s % 4)]] = _
    rw [List.map_append]
    rfl
end Go.Proofs.YtgbpgplkhifgiaaDoor

/- The walks of bootchainref04's Public, Sign and Recover. No condition. -/
set_option linter.unusedVariables false
set_option linter.unusedSimpArgs false
set_option maxRecDepth 100000
namespace Go.Proofs.YtgbpgplkhifgiaaDoor
open Go Go.RowKit

def rpuF (seed : List UInt8) (x : Int) (i : Nat) : St := { nt := 23, nx := 3, tm := [(6, iv (i : Nat)), (5, .sl 1 0 (catK (endW seed x) i).length 1 (some 5)), (4, .ptr 2 0), (2, .ptr 0 0), (1, iv x)], bx := [(0, some (seed.map bw)), (1, some ((catK (endW seed x) i).map bw)), (2, some (zB 16))], gl := [], df := [] }

theorem key_dig (c : List UInt8) (hc : c.length ≤ 2000) : (wAll (lp [c])).length ≤ 10000000 := by
  have h1 := wBytes_len c
  simp [wAll, lp]; omega

theorem rpublic_spec (seed : List UInt8) (x : Int) (hs : seed.length = 16) (hx1 : -9223372036854775808 ≤ x) (hx2 : x < 9223372036854775808) :
    Spec Tryd.prog [] 98 [.agg (seed.map bw), iv x] [] (fun o => o = .ret (.agg ((pubW seed x).map bw)) [] []) := by
  refine spec_of TB 23 [.cell 4 23] Tryd.func98 rfl rfl rfl (Nat.le_of_ble_eq_true rfl) ?_
  intro X w0 E0 hE hX
  have a1 : (seed.map bw).length = 16 := by simp [hs]
  have a2 : List.take 16 (seed.map bw) = seed.map bw := List.take_of_length_le (by simp [hs])
  simp only [idx, List.map_nil, List.length_nil]
  refine AW_reg TB (fun D K hD hK => ?_)
  simp only [AwS, TS, AwD, aval, aIndex, aSlice, aLen, BN, BW, BS, Int.cast_ofNat_Int, spl, splice, bind, ↓reduceIte, simprocAttr, a1]
  refine hD _ ?_
  clear hD hK D K
  refine AW_reg TB (fun D K hD hK => ?_)
  simp only [AwS, TS, AwD, aval, aIndex, aSlice, aLen, BN, BW, BS, Int.cast_ofNat_Int, spl, splice, bind, ↓reduceIte, simprocAttr]
  refine hD _ ?_
  clear hD hK D K
  refine AW_seqk (fun K0 hK0 => ?_)
  refine AW_reg TB (fun D K hD hK => ?_)
  simp only [AwS, TS, AwD, aval, aIndex, aSlice, aLen, BN, BW, BS, Int.cast_ofNat_Int, spl, splice, bind, ↓reduceIte, simprocAttr]
  refine hD _ ?_
  clear hD hK D K
  refine AW_block ?_
  refine AW_loop (rpuF seed x) (fun i => i ≤ 68) (fun i => 68 - i) hE 0 [(0, 0), (1, 16), (2, 8)] (by omega) ?_ ?_
  · refine ⟨rfl, by simp [rpuF, catK, alook, AV.map, AVs.map, bws_map, zB, rep_map], ⟨rfl, rfl⟩, ?_, ?_, by simp [rpuF, catK], by simp [rpuF, catK, nmap], ?_⟩
    · simp [rpuF, catK, alook, AV.map, AVs.map, nmap, AVs_map_append, ivs_map, yvs_map, bws_map, zB, rep_map]
    · simp [rpuF, catK, blook, AV.map, AVs.map, nmap, AVs_map_append, ivs_map, yvs_map, bws_map, zB, rep_map]
    · intro k hk
      have hk2 : k < 0 := hk
      omega
  intro i hi
  simp only [rpuF]
  have hcs := catK_succ (endW seed x) i
  have hcl := catK_len (endW seed x) (endW_len seed x) i
  have hfin : i = 68 → pubW seed x = dig 4 (lp [catK (endW seed x) i]) := by rintro rfl; rfl
  generalize catK (endW seed x) i = c at *
  refine AW_seq ?_
  refine AW_reg TB (fun D K hD hK => ?_)
  simp only [AwS, TS, AwD, aval, aIndex, aSlice, aLen, BN, BW, BS, Int.cast_ofNat_Int, spl, splice, bind, ↓reduceIte, simprocAttr]
  refine hD _ ?_
  clear hD hK D K
  refine AW_cond rfl (fun h => AW_skip ?_) (fun h => AW_exit ?_)
  · have hlt : i < 68 := by
      have : (i : Int) < 68 := by simpa using h
      omega
    have w1 : IntKind.i64.wrap ((i : Int) + 1) = (i : Int) + 1 := wrap_i64 (by omega) (by omega)
    have ss := rstart_spec seed x i hs hx1 hx2 (by omega) (by omega)
    have sa := radvance_spec i (startW seed x i) 3 (startW_len _ _ _) (by omega) (by omega) (by omega)
    have hel := endW_len seed x i
    have hE1 : advW i (startW seed x i) 3 = endW seed x i := rfl
    rw [hE1] at sa
    generalize startW seed x i = sw at *
    generalize endW seed x i = e at *
    have sr := rraw_spec e hel
    have c1 : (c.length + 16 ≤ 4294967296) = True := eq_true (by omega)
    have t16 : List.take 16 (e.map bw) = e.map bw := List.take_of_length_le (by simp [hel])
    have l16 : (e.map bw).length = 16 := by simp [hel]
    simp only [seqQ]
    refine AW_seqk (fun K1 hK1 => ?_)
    refine AW_block ?_
    refine AW_regl TB (fun D K hD hK => ?_)
    simp only [AwS, TS, AwD, aval, aIndex, aSlice, aLen, BN, BW, BS, Int.cast_ofNat_Int, spl, splice, bind, ↓reduceIte, simprocAttr, a1, a2]
    refine hK _ _ ?_
    clear hD hK D K
    refine AL_callPW rfl (.inl rfl) rfl rfl en_102 ss [] ?_ (by simp) rfl (by simp only [AV.map, bws_map]) ?_
    · simp [evs, St.ev, cav, alook, lendA, lentBx, lendC, blook, AVs.map, AV.map, ioMap, bws_map]
    refine AL_runR TB _ _ (fun D K hD hK => ?_)
    simp only [AwS, TS, AwD, aval, aIndex, aSlice, aLen, BN, BW, BS, Int.cast_ofNat_Int, spl, splice, bind, ↓reduceIte, simprocAttr]
    refine hK _ _ ?_
    clear hD hK D K
    refine AL_callPW rfl (.inl rfl) rfl rfl en_101 sa [] ?_ (by simp) rfl (by simp only [AV.map, bws_map]) ?_
    · simp [evs, St.ev, cav, alook, lendA, lentBx, lendC, blook, AVs.map, AV.map, ioMap, bws_map]
    refine AL_runR TB _ _ (fun D K hD hK => ?_)
    simp only [AwS, TS, AwD, aval, aIndex, aSlice, aLen, BN, BW, BS, Int.cast_ofNat_Int, spl, splice, bind, ↓reduceIte, simprocAttr]
    refine hK _ _ ?_
    clear hD hK D K
    refine AL_callD rfl rfl rfl rfl en_103 sr [] [] rfl (by simp) (by simp) ?_ (by simp) (by simp) rfl (by simp) ?_
    · simp [evs, St.ev, cav, alook, lendA, lentBx, lendC, blook, AVs.map, AV.map, ioMap, bws_map]
    refine AL_runR TB _ _ (fun D K hD hK => ?_)
    simp only [AwS, TS, AwD, aval, aIndex, aSlice, aLen, BN, BW, BS, Int.cast_ofNat_Int, spl, splice, bind, ↓reduceIte, simprocAttr, bws_map, bws_cell, c1, t16, l16]
    refine hD _ ?_
    clear hD hK D K
    simp only [blockQ]
    refine hK1 _ ?_
    refine AW_regl TB (fun D K hD hK => ?_)
    simp only [AwS, TS, AwD, aval, aIndex, aSlice, aLen, BN, BW, BS, Int.cast_ofNat_Int, spl, splice, bind, ↓reduceIte, simprocAttr, w1]
    refine hD _ ?_
    clear hD hK D K
    refine ⟨i + 1, [(0, 0), (1, 83), (2, 2)], by omega, by dsimp only; omega, ?_⟩
    refine ⟨rfl, by simp [rpuF, alook, AV.map, AVs.map, bws_map, zB, rep_map, hcs, hel], ⟨rfl, rfl⟩, ?_, ?_, by simp [rpuF], by simp [rpuF, nmap], ?_⟩
    · simp [rpuF, alook, AV.map, AVs.map, nmap, AVs_map_append, ivs_map, yvs_map, bws_map, zB, rep_map, hcs, hel]
    · simp [rpuF, blook, AV.map, AVs.map, nmap, AVs_map_append, ivs_map, yvs_map, bws_map, zB, rep_map, hcs, hel]
    · intro k hk
      have hk2 : k < 0 := hk
      omega
  · have hge : i = 68 := by
      have : ¬ (i : Int) < 68 := by simpa using h
      omega
    refine hK0 _ ?_
    have ds := rdigest_spec 4 false (lp [c]) (by simp [lp]) (key_dig c (by omega))
    have hst : dig (byteOf 4) (lp [c]) = pubW seed x := (hfin hge).symm
    rw [hst] at ds
    refine AW_reg TB (fun D K hD hK => ?_)
    simp only [AwS, TS, AwD, aval, aIndex, aSlice, aLen, BN, BW, BS, Int.cast_ofNat_Int, spl, splice, bind, ↓reduceIte, simprocAttr]
    refine hK _ _ ?_
    clear hD hK D K
    refine AL_callPW rfl (.inl rfl) rfl rfl en_30 ds [27, 1] ?_ (by simp [blook]) (by simp [AV.kept, bws_kept]) (by simp only [AV.map, bws_map]) ?_
    · simp [evs, St.ev, cav, alook, lendA, lentBx, lendC, blook, AVs.map, AV.map, ioMap, bws_map, -List.map_map, lendC_bws, bws_take, lp, pA]
    have hdl : (pubW seed x).length = 16 := keyOf_len _
    generalize pubW seed x = d at hdl
    have z1 : spl (zB 16) 0 (d.map bw) = d.map bw := spl_all (by simp [zB, hdl]) (by simp [hdl])
    have z0 : spl (List.replicate 16 (.val (.int .u8 0))) 0 (d.map bw) = d.map bw := spl_all (by simp [hdl]) (by simp [hdl])
    simp only [List.replicate] at z0
    have z2 : List.take 16 (d.map bw) = d.map bw := List.take_of_length_le (by simp [hdl])
    have z3 : (d.map bw).length = 16 := by simp [hdl]
    have z4 : (zB 16).length = 16 := by simp [zB]
    refine AL_runR TB _ _ (fun D K hD hK => ?_)
    simp only [AwS, TS, AwD, aval, aIndex, aSlice, aLen, BN, BW, BS, Int.cast_ofNat_Int, spl, splice, bind, ↓reduceIte, simprocAttr, z0, z1, z2, z3, z4, bws_cell, bws_map, -spl]
    refine hD _ ?_
    clear hD hK D K
    refine AW_ret ?_
    simp only [Ret, seqQ]
    refine retp (.agg (d.map bw)) rfl ?_ (by simp only [AV.map, bws_map]) rfl
    simp only [resOf, resAll, resAV, AwS, TS, AwD, aval, aIndex, aSlice, aLen, BN, BW, BS, Int.cast_ofNat_Int, spl, splice, bind, ↓reduceIte, simprocAttr, z2, z3]

def rsgF (seed : List UInt8) (x : Int) (m : List UInt8) (i : Nat) : St :=
  { nt := 30, nx := 3, tm := [(9, iv (i : Nat)), (8, .sl 2 0 i 16 (some 23)), (7, .sl 1 0 68 1 (some 3)), (3, .ptr 0 0), (1, iv x)], bx := [(0, some (seed.map bw)), (1, some ((digs m).map nv)), (2, some (fl (sigL seed x m i)))], gl := [], df := [] }

theorem rwsign_spec (seed : List UInt8) (x : Int) (m : List UInt8) (hs : seed.length = 16) (hm : m.length = 16) (hx1 : -9223372036854775808 ≤ x) (hx2 : x < 9223372036854775808) :
    Spec Tryd.prog [] 62 [.agg (seed.map bw), iv x, .agg (m.map bw)] [] (fun o => o = .ret (.sl 0 0 68 16 (some 23)) [] [fl (sigL seed x m 68)]) := by
  refine spec_of TB 30 [.tmp 6] Tryd.func62 rfl rfl rfl (Nat.le_of_ble_eq_true rfl) ?_
  intro X w0 E0 hE hX
  have a1 : (seed.map bw).length = 16 := by simp [hs]
  have a2 : List.take 16 (seed.map bw) = seed.map bw := List.take_of_length_le (by simp [hs])
  have b1 : (m.map bw).length = 16 := by simp [hm]
  have b2 : List.take 16 (m.map bw) = m.map bw := List.take_of_length_le (by simp [hm])
  simp only [idx, List.map_nil, List.length_nil]
  refine AW_reg TB (fun D K hD hK => ?_)
  simp only [AwS, TS, AwD, aval, aIndex, aSlice, aLen, BN, BW, BS, Int.cast_ofNat_Int, spl, splice, bind, ↓reduceIte, simprocAttr, a1, b1]
  refine hD _ ?_
  clear hD hK D K
  refine AW_reg TB (fun D K hD hK => ?_)
  simp only [AwS, TS, AwD, aval, aIndex, aSlice, aLen, BN, BW, BS, Int.cast_ofNat_Int, spl, splice, bind, ↓reduceIte, simprocAttr, b1, b2]
  refine hK _ _ ?_
  clear hD hK D K
  refine AL_callD rfl rfl rfl rfl en_100 (rdigits_spec m hm) [] [] rfl (by simp) (by simp) ?_ (by simp) (by simp) rfl (by simp) ?_
  · simp [evs, St.ev, cav, alook, lendA, lentBx, lendC, blook, AVs.map, AV.map, ioMap, bws_map]
  refine AL_runR TB _ _ (fun D K hD hK => ?_)
  simp only [AwS, TS, AwD, aval, aIndex, aSlice, aLen, BN, BW, BS, Int.cast_ofNat_Int, spl, splice, bind, ↓reduceIte, simprocAttr, nvs_map]
  refine hD _ ?_
  clear hD hK D K
  refine AW_reg TB (fun D K hD hK => ?_)
  simp only [AwS, TS, AwD, aval, aIndex, aSlice, aLen, BN, BW, BS, Int.cast_ofNat_Int, spl, splice, bind, ↓reduceIte, simprocAttr]
  refine hD _ ?_
  clear hD hK D K
  refine AW_seqk (fun K0 hK0 => ?_)
  refine AW_reg TB (fun D K hD hK => ?_)
  simp only [AwS, TS, AwD, aval, aIndex, aSlice, aLen, BN, BW, BS, Int.cast_ofNat_Int, spl, splice, bind, ↓reduceIte, simprocAttr]
  refine hD _ ?_
  clear hD hK D K
  refine AW_block ?_
  refine AW_loop (rsgF seed x m) (fun i => i ≤ 68) (fun i => 68 - i) hE 0 [(0, 0), (1, 32), (2, 48)] (by omega) ?_ ?_
  · refine ⟨rfl, by simp [rsgF, alook, AV.map, AVs.map, bws_map, nvs_map, fl_map, sigL, fl], ⟨rfl, rfl⟩, ?_, ?_, by simp [rsgF], by simp [rsgF, nmap], ?_⟩
    · simp [rsgF, alook, AV.map, AVs.map, nmap, AVs_map_append, ivs_map, yvs_map, bws_map, nvs_map, fl_map, sigL, fl]
    · simp [rsgF, blook, AV.map, AVs.map, nmap, AVs_map_append, ivs_map, yvs_map, bws_map, nvs_map, fl_map, sigL, fl]
    · intro k hk
      have hk2 : k < 0 := hk
      omega
  intro i hi
  simp only [rsgF]
  refine AW_seq ?_
  refine AW_reg TB (fun D K hD hK => ?_)
  simp only [AwS, TS, AwD, aval, aIndex, aSlice, aLen, BN, BW, BS, Int.cast_ofNat_Int, spl, splice, bind, ↓reduceIte, simprocAttr]
  refine hD _ ?_
  clear hD hK D K
  refine AW_cond rfl (fun h => AW_skip ?_) (fun h => AW_exit ?_)
  · have hlt : i < 68 := by
      have : (i : Int) < 68 := by simpa using h
      omega
    have w1 : IntKind.i64.wrap ((i : Int) + 1) = (i : Int) + 1 := wrap_i64 (by omega) (by omega)
    have x3 : (0 ≤ (i : Int) ∧ (i : Int) < 68) = True := eq_true (by omega)
    have hd4 := digs_lt m i
    have g1 : ((digs m).map nv)[i]? = some (nv ((digs m).getD i 0)) := by
      have : i < (digs m).length := by rw [digs_len]; exact hlt
      simp [List.getElem?_eq_getElem this]
    have hsE : advW i (startW seed x i) ((digs m).getD i 0) = sigE seed x m i := rfl
    have asp := radvance_spec i (startW seed x i) ((digs m).getD i 0) (startW_len _ _ _) (by omega) (by omega) (by omega)
    rw [hsE] at asp
    have ss := rstart_spec seed x i hs hx1 hx2 (by omega) (by omega)
    have hss := sigL_succ seed x m i
    have hsl := fl_len (sigL_16 seed x m i)
    rw [sigL_len] at hsl
    have hel := sigE_len seed x m i
    generalize sigE seed x m i = e at *
    generalize startW seed x i = sw at *
    have z1 : spl (List.replicate 16 (.val (.int .u8 0))) 0 (e.map bw) = e.map bw := spl_all (by simp [hel]) (by simp [hel])
    simp only [List.replicate] at z1
    have z2 : List.take 16 (e.map bw) = e.map bw := List.take_of_length_le (by simp [hel])
    have z3 : (e.map bw).length = 16 := by simp [hel]
    have y1 : splice (List.replicate 16 (.val (.int .u8 0))) 0 (e.map bw) = e.map bw := by simp [splice, hel]
    simp only [List.replicate] at y1
    have c1 : (i + 1 ≤ 4294967296) = True := eq_true (by omega)
    have hfs : fl (sigL seed x m (i + 1)) = fl (sigL seed x m i) ++ e.map bw := by rw [hss, fl_app, fl_one]
    have hFm : ∀ f : Nat → Nat, AVs.map f (fl (sigL seed x m i)) = fl (sigL seed x m i) := fun f => fl_map f _
    generalize fl (sigL seed x m i) = F at *
    simp only [seqQ]
    refine AW_seqk (fun K1 hK1 => ?_)
    refine AW_block ?_
    refine AW_dregl TB mx ([[], [], [], [], [], [2, 3, 4], [], [], [6, 7], [8, 6, 7], [1, 5, 2, 3, 4, 9, 8, 6, 7], [10, 1, 5, 2, 3, 4, 9, 8, 6, 7], [0, 11, 10, 1, 5, 2, 3, 4, 9, 8, 6, 7], [12, 0, 11, 10, 1, 5, 2, 3, 4, 9, 8, 6, 7]]) (by kernel_rfl) (by kernel_rfl) (fun D K hD hK => ?_)
    simp only [AwS, TS, AwD, aval, aIndex, aSlice, aLen, BN, BW, BS, Int.cast_ofNat_Int, spl, splice, bind, ↓reduceIte, simprocAttr, Op.operands, Call.operands, List.toList_toArray, List.size_toArray, cmp, List.getD_cons_zero, List.getD_cons_succ, Array.toList_append, Option.toArray, List.append_toArray,  a1, a2, Int.toNat_natCast, Nat.mul_one]
    refine hK _ _ _ _ ?_
    clear hD hK D K
    refine DL_callPW rfl rfl (.inl rfl) rfl rfl en_102 ss [] ?_ (by simp) (by simp) rfl (by simp only [AV.map, bws_map]) rfl ?_
    · simp [evs, St.ev, cav, alook, lendA, lentBx, lendC, blook, AVs.map, AV.map, ioMap, bws_map]
    refine DL_rest TB rfl (fun D K hD hK => ?_)
    simp only [AwS, TS, AwD, aval, aIndex, aSlice, aLen, BN, BW, BS, Int.cast_ofNat_Int, spl, splice, bind, ↓reduceIte, simprocAttr, Op.operands, Call.operands, List.toList_toArray, List.size_toArray, cmp, List.getD_cons_zero, List.getD_cons_succ, Array.toList_append, Option.toArray, List.append_toArray, x3, g1, Int.toNat_natCast, Nat.mul_one]
    refine hK _ _ _ _ ?_
    clear hD hK D K
    refine DL_callPW rfl rfl (.inl rfl) rfl rfl en_101 asp [] ?_ (by simp) (by simp) rfl (by simp only [AV.map, bws_map]) rfl ?_
    · simp [evs, St.ev, cav, alook, lendA, lentBx, lendC, blook, AVs.map, AV.map, ioMap, bws_map]
    refine DL_rest TB rfl (fun D K hD hK => ?_)
    simp only [AwS, TS, AwD, aval, aIndex, aSlice, aLen, BN, BW, BS, Int.cast_ofNat_Int, spl, splice, bind, ↓reduceIte, simprocAttr, Op.operands, Call.operands, List.toList_toArray, List.size_toArray, cmp, List.getD_cons_zero, List.getD_cons_succ, Array.toList_append, Option.toArray, List.append_toArray, z1, y1, z2, z3, c1, hsl, bws_cell, -spl, -splice]
    refine hD _ ?_
    clear hD hK D K
    simp only [blockQ]
    refine hK1 _ ?_
    refine AW_regl TB (fun D K hD hK => ?_)
    simp only [AwS, TS, AwD, aval, aIndex, aSlice, aLen, BN, BW, BS, Int.cast_ofNat_Int, spl, splice, bind, ↓reduceIte, simprocAttr, w1]
    refine hD _ ?_
    clear hD hK D K
    refine ⟨i + 1, [(0, 0), (1, 1), (2, 115)], by omega, by dsimp only; omega, ?_⟩
    refine ⟨rfl, by simp [rsgF, alook, AV.map, AVs.map, bws_map, nvs_map, hFm, hfs], ⟨rfl, rfl⟩, ?_, ?_, by simp [rsgF], by simp [rsgF, nmap], ?_⟩
    · simp [rsgF, alook, AV.map, AVs.map, nmap, AVs_map_append, ivs_map, yvs_map, bws_map, nvs_map, hFm, hfs]
    · simp [rsgF, blook, AV.map, AVs.map, nmap, AVs_map_append, ivs_map, yvs_map, bws_map, nvs_map, hFm, hfs]
    · intro k hk
      have hk2 : k < 0 := hk
      omega
  · have hge : i = 68 := by
      have : ¬ (i : Int) < 68 := by simpa using h
      omega
    subst hge
    refine hK0 _ ?_
    refine AW_reg TB (fun D K hD hK => ?_)
    simp only [AwS, TS, AwD, aval, aIndex, aSlice, aLen, BN, BW, BS, Int.cast_ofNat_Int, spl, splice, bind, ↓reduceIte, simprocAttr]
    refine hD _ ?_
    clear hD hK D K
    refine AW_ret ?_
    simp only [Ret]
    exact ret_sl _ _ _ _ _ rfl rfl rfl (fun f => fl_map f _) rfl

def rreF (m : List UInt8) (ch : List (List UInt8)) (kb : Bool) (i : Nat) : St :=
  { nt := 36, nx := 3, tm := [(8, iv (i : Nat)), (7, .sl 1 0 (catK (recE m ch) i).length 1 (some 5)), (6, .sl 2 0 68 1 (some 3)), (4, .ptr 0 0), (1, .ds kb ch.length (fl ch))], bx := [(0, some (zB 16)), (1, some ((catK (recE m ch) i).map bw)), (2, some ((digs m).map nv))], gl := [], df := [] }

theorem rrecover_spec (m : List UInt8) (ch : List (List UInt8)) (kb : Bool) (hm : m.length = 16) (hc : All16 ch) (hl : ch.length ≤ 1000000) :
    Spec Tryd.prog [] 64 [.agg (m.map bw), .ds kb ch.length (fl ch)] [] (fun o => o = .ret (.tup [.agg ((recR m ch).1.map bw), iv (recR m ch).2]) [] []) := by
  refine spec_of TB 36 [.cell 4 23, .tmp 5] Tryd.func64 rfl rfl rfl (Nat.le_of_ble_eq_true rfl) ?_
  intro X w0 E0 hE hX
  have b1 : (m.map bw).length = 16 := by simp [hm]
  have b2 : List.take 16 (m.map bw) = m.map bw := List.take_of_length_le (by simp [hm])
  simp only [idx, List.map_nil, List.length_nil]
  refine AW_reg TB (fun D K hD hK => ?_)
  simp only [AwS, TS, AwD, aval, aIndex, aSlice, aLen, BN, BW, BS, Int.cast_ofNat_Int, spl, splice, bind, ↓reduceIte, simprocAttr, b1]
  refine hD _ ?_
  clear hD hK D K
  refine AW_seq ?_
  refine AW_reg TB (fun D K hD hK => ?_)
  simp only [AwS, TS, AwD, aval, aIndex, aSlice, aLen, BN, BW, BS, Int.cast_ofNat_Int, spl, splice, bind, ↓reduceIte, simprocAttr]
  refine hD _ ?_
  clear hD hK D K
  refine AW_cond rfl (fun h => ?_) (fun h => AW_skip ?_)
  · have hne : ch.length ≠ 68 := by
      intro h68
      rw [h68] at h
      simp at h
    have hr : recR m ch = (zD, 9) := if_neg hne
    rw [hr]
    refine AW_reg TB (fun D K hD hK => ?_)
    simp only [AwS, TS, AwD, aval, aIndex, aSlice, aLen, BN, BW, BS, Int.cast_ofNat_Int, spl, splice, bind, ↓reduceIte, simprocAttr]
    refine hD _ ?_
    clear hD hK D K
    refine AW_ret ?_
    simp only [Ret, seqQ]
    refine retp (.tup [.agg (zD.map bw), iv 9]) rfl ?_ (by simp only [AV.map, AVs.map, bws_map]) rfl
    simp [resOf, resAll, resAV, alook, blook, AV.known, loadC, AwS, TS, TD.isAgg, zD]
  · have h68 : ch.length = 68 := by
      have : ¬ (¬ (ch.length : Int) = 68) := by simpa using h
      omega
    have hr : recR m ch = (recW m ch, 0) := if_pos h68
    rw [hr]
    simp only [seqQ]
    refine AW_reg TB (fun D K hD hK => ?_)
    simp only [AwS, TS, AwD, aval, aIndex, aSlice, aLen, BN, BW, BS, Int.cast_ofNat_Int, spl, splice, bind, ↓reduceIte, simprocAttr, b1, b2]
    refine hK _ _ ?_
    clear hD hK D K
    refine AL_callD rfl rfl rfl rfl en_100 (rdigits_spec m hm) [] [] rfl (by simp) (by simp) ?_ (by simp) (by simp) rfl (by simp) ?_
    · simp [evs, St.ev, cav, alook, lendA, lentBx, lendC, blook, AVs.map, AV.map, ioMap, bws_map]
    refine AL_runR TB _ _ (fun D K hD hK => ?_)
    simp only [AwS, TS, AwD, aval, aIndex, aSlice, aLen, BN, BW, BS, Int.cast_ofNat_Int, spl, splice, bind, ↓reduceIte, simprocAttr, nvs_map]
    refine hD _ ?_
    clear hD hK D K
    refine AW_reg TB (fun D K hD hK => ?_)
    simp only [AwS, TS, AwD, aval, aIndex, aSlice, aLen, BN, BW, BS, Int.cast_ofNat_Int, spl, splice, bind, ↓reduceIte, simprocAttr]
    refine hD _ ?_
    clear hD hK D K
    refine AW_seqk (fun K0 hK0 => ?_)
    refine AW_reg TB (fun D K hD hK => ?_)
    simp only [AwS, TS, AwD, aval, aIndex, aSlice, aLen, BN, BW, BS, Int.cast_ofNat_Int, spl, splice, bind, ↓reduceIte, simprocAttr]
    refine hD _ ?_
    clear hD hK D K
    refine AW_block ?_
    refine AW_loop (rreF m ch kb) (fun i => i ≤ 68) (fun i => 68 - i) hE 0 [(0, 8), (1, 72), (2, 56)] (by omega) ?_ ?_
    · refine ⟨rfl, by simp [rreF, catK, alook, AV.map, AVs.map, bws_map, nvs_map, fl_map, zB, rep_map], ⟨rfl, rfl⟩, ?_, ?_, by simp [rreF, catK], by simp [rreF, catK, nmap], ?_⟩
      · simp [rreF, catK, alook, AV.map, AVs.map, nmap, AVs_map_append, ivs_map, yvs_map, bws_map, nvs_map, fl_map, zB, rep_map]
      · simp [rreF, catK, blook, AV.map, AVs.map, nmap, AVs_map_append, ivs_map, yvs_map, bws_map, nvs_map, fl_map, zB, rep_map]
      · intro k hk
        have hk2 : k < 0 := hk
        omega
    intro i hi
    simp only [rreF]
    have hcs := catK_succ (recE m ch) i
    have hcl := catK_len (recE m ch) (recE_len m ch hc) i
    have hfin : i = 68 → recW m ch = dig 4 (lp [catK (recE m ch) i]) := by rintro rfl; rfl
    refine AW_seq ?_
    refine AW_reg TB (fun D K hD hK => ?_)
    simp only [AwS, TS, AwD, aval, aIndex, aSlice, aLen, BN, BW, BS, Int.cast_ofNat_Int, spl, splice, bind, ↓reduceIte, simprocAttr]
    refine hD _ ?_
    clear hD hK D K
    refine AW_cond rfl (fun h => AW_skip ?_) (fun h => AW_exit ?_)
    · have hlt : i < 68 := by
        have : (i : Int) < 68 := by simpa using h
        omega
      have w1 : IntKind.i64.wrap ((i : Int) + 1) = (i : Int) + 1 := wrap_i64 (by omega) (by omega)
      have x3 : (0 ≤ (i : Int) ∧ (i : Int) < 68) = True := eq_true (by omega)
      have x4 : (0 ≤ (i : Int) ∧ (i : Int) < (ch.length : Int)) = True := eq_true (by omega)
      have hd4 := digs_lt m i
      have g1 : ((digs m).map nv)[i]? = some (nv ((digs m).getD i 0)) := by
        have : i < (digs m).length := by rw [digs_len]; exact hlt
        simp [List.getElem?_eq_getElem this]
      have hk2 : i < ch.length := by omega
      have g2 := fl_get hc i hk2
      have hce : ch.getD i (List.replicate 16 0) = ch[i] := by rw [List.getD_eq_getElem?_getD, List.getElem?_eq_getElem hk2]; rfl
      have g3 : (16 ≤ (List.drop (i * 16) (fl ch)).length) = True := by
        rw [List.length_drop, fl_len hc]; exact eq_true (by omega)
      have w2 : IntKind.i64.wrap (3 - ((digs m).getD i 0 : Int)) = ((3 - (digs m).getD i 0 : Nat) : Int) := by rw [wrap_i64 (by omega) (by omega)]; omega
      have asp := radvance_spec i ch[i] (3 - (digs m).getD i 0) (hc _ (List.getElem_mem hk2)) (by omega) (by omega) (by omega)
      have hrE : advW i ch[i] (3 - (digs m).getD i 0) = recE m ch i := by rw [recE, hce]
      rw [hrE] at asp
      have hel := recE_len m ch hc i
      generalize recE m ch i = e at *
      generalize catK (recE m ch) i = c at *
      have sr := rraw_spec e hel
      have c1 : (c.length + 16 ≤ 4294967296) = True := eq_true (by omega)
      have t16 : List.take 16 (e.map bw) = e.map bw := List.take_of_length_le (by simp [hel])
      have l16 : (e.map bw).length = 16 := by simp [hel]
      simp only [seqQ]
      refine AW_seqk (fun K1 hK1 => ?_)
      refine AW_block ?_
      refine AW_dregl TB mx ([[], [], [], [], [2, 3], [4, 2, 3], [], [], [6, 7], [8, 6, 7], [9, 8, 6, 7], [1, 5, 4, 2, 3, 10, 9, 8, 6, 7], [11, 1, 5, 4, 2, 3, 10, 9, 8, 6, 7], [0, 12, 11, 1, 5, 4, 2, 3, 10, 9, 8, 6, 7], [13, 0, 12, 11, 1, 5, 4, 2, 3, 10, 9, 8, 6, 7]]) (by kernel_rfl) (by kernel_rfl) (fun D K hD hK => ?_)
      simp only [AwS, TS, AwD, aval, aIndex, aSlice, aLen, BN, BW, BS, Int.cast_ofNat_Int, spl, splice, bind, ↓reduceIte, simprocAttr, Op.operands, Call.operands, List.toList_toArray, List.size_toArray, cmp, List.getD_cons_zero, List.getD_cons_succ, Array.toList_append, Option.toArray, List.append_toArray,  x3, x4, g1, g2, g3, w2, Int.toNat_natCast, Nat.mul_one]
      refine hK _ _ _ _ ?_
      clear hD hK D K
      refine DL_callPW rfl rfl (.inl rfl) rfl rfl en_101 asp [] ?_ (by simp) (by simp) rfl (by simp only [AV.map, bws_map]) rfl ?_
      · simp [evs, St.ev, cav, alook, lendA, lentBx, lendC, blook, AVs.map, AV.map, ioMap, bws_map]
      refine DL_rest TB rfl (fun D K hD hK => ?_)
      simp only [AwS, TS, AwD, aval, aIndex, aSlice, aLen, BN, BW, BS, Int.cast_ofNat_Int, spl, splice, bind, ↓reduceIte, simprocAttr, Op.operands, Call.operands, List.toList_toArray, List.size_toArray, cmp, List.getD_cons_zero, List.getD_cons_succ, Array.toList_append, Option.toArray, List.append_toArray]
      refine hK _ _ _ _ ?_
      clear hD hK D K
      refine DL_call rfl rfl rfl rfl rfl en_103 sr (fun out h => h) [] [] rfl rfl (by simp) (by simp) ?_ (by simp) (by simp) (by simp) rfl (by simp) rfl ?_
      · simp [evs, St.ev, cav, alook, lendA, lentBx, lendC, blook, AVs.map, AV.map, ioMap, bws_map]
      refine DL_rest TB rfl (fun D K hD hK => ?_)
      simp only [AwS, TS, AwD, aval, aIndex, aSlice, aLen, BN, BW, BS, Int.cast_ofNat_Int, spl, splice, bind, ↓reduceIte, simprocAttr, Op.operands, Call.operands, List.toList_toArray, List.size_toArray, cmp, List.getD_cons_zero, List.getD_cons_succ, Array.toList_append, Option.toArray, List.append_toArray, bws_map, bws_cell, c1, t16, l16]
      refine hD _ ?_
      clear hD hK D K
      simp only [blockQ]
      refine hK1 _ ?_
      refine AW_regl TB (fun D K hD hK => ?_)
      simp only [AwS, TS, AwD, aval, aIndex, aSlice, aLen, BN, BW, BS, Int.cast_ofNat_Int, spl, splice, bind, ↓reduceIte, simprocAttr, w1]
      refine hD _ ?_
      clear hD hK D K
      refine ⟨i + 1, [(0, 0), (1, 123), (2, 2)], by omega, by dsimp only; omega, ?_⟩
      refine ⟨rfl, by simp [rreF, alook, AV.map, AVs.map, bws_map, nvs_map, fl_map, zB, rep_map, hcs, hel], ⟨rfl, rfl⟩, ?_, ?_, by simp [rreF], by simp [rreF, nmap], ?_⟩
      · simp [rreF, alook, AV.map, AVs.map, nmap, AVs_map_append, ivs_map, yvs_map, bws_map, nvs_map, fl_map, zB, rep_map, hcs, hel]
      · simp [rreF, blook, AV.map, AVs.map, nmap, AVs_map_append, ivs_map, yvs_map, bws_map, nvs_map, fl_map, zB, rep_map, hcs, hel]
      · intro k hk
        have hk2 : k < 0 := hk
        omega
    · have hge : i = 68 := by
        have : ¬ (i : Int) < 68 := by simpa using h
        omega
      refine hK0 _ ?_
      have ds := rdigest_spec 4 false (lp [catK (recE m ch) i]) (by simp [lp]) (key_dig _ (by omega))
      have hst : dig (byteOf 4) (lp [catK (recE m ch) i]) = recW m ch := (hfin hge).symm
      rw [hst] at ds
      generalize catK (recE m ch) i = c at *
      have hdl : (recW m ch).length = 16 := keyOf_len _
      generalize recW m ch = d at *
      have z1 : spl (zB 16) 0 (d.map bw) = d.map bw := spl_all (by simp [zB, hdl]) (by simp [hdl])
      have z2 : List.take 16 (d.map bw) = d.map bw := List.take_of_length_le (by simp [hdl])
      have z3 : (d.map bw).length = 16 := by simp [hdl]
      have z4 : (zB 16).length = 16 := by simp [zB]
      refine AW_reg TB (fun D K hD hK => ?_)
      simp only [AwS, TS, AwD, aval, aIndex, aSlice, aLen, BN, BW, BS, Int.cast_ofNat_Int, spl, splice, bind, ↓reduceIte, simprocAttr]
      refine hK _ _ ?_
      clear hD hK D K
      refine AL_callPW rfl (.inl rfl) rfl rfl en_30 ds [27, 1] ?_ (by simp [blook]) (by simp [AV.kept, bws_kept]) (by simp only [AV.map, bws_map]) ?_
      · simp [evs, St.ev, cav, alook, lendA, lentBx, lendC, blook, AVs.map, AV.map, ioMap, bws_map, -List.map_map, lendC_bws, bws_take, lp, pA]
      refine AL_runR TB _ _ (fun D K hD hK => ?_)
      simp only [AwS, TS, AwD, aval, aIndex, aSlice, aLen, BN, BW, BS, Int.cast_ofNat_Int, spl, splice, bind, ↓reduceIte, simprocAttr, z1, z2, z3, z4, bws_cell, bws_map, -spl]
      refine hD _ ?_
      clear hD hK D K
      refine AW_ret ?_
      simp only [Ret]
      refine retp (.tup [.agg (d.map bw), iv 0]) rfl ?_ (by simp only [AV.map, AVs.map, bws_map]) rfl
      simp only [resOf, resAll, resAV, AwS, TS, AwD, aval, aIndex, aSlice, aLen, BN, BW, BS, Int.cast_ofNat_Int, spl, splice, bind, ↓reduceIte, simprocAttr, z2, z3]

end Go.Proofs.YtgbpgplkhifgiaaDoor

/- The walks of bootchainref03's Leaf, Node, Split and Root. No condition. -/
set_option linter.unusedVariables false
set_option linter.unusedSimpArgs false
set_option maxRecDepth 100000
namespace Go.Proofs.YtgbpgplkhifgiaaDoor
open Go Go.RowKit

theorem rleaf_spec (a : List UInt8) (ha : a.length = 16) : Spec Tryd.prog [] 95 [.agg (a.map bw)] [] (fun o => o = .ret (.agg ((leafD a).map bw)) [] []) := by
  refine spec_of TB 6 [.cell 2 23] Tryd.func95 rfl rfl rfl (Nat.le_of_ble_eq_true rfl) ?_
  intro X w0 E0 hE hX
  have n1 : ((1 : Nat) ≠ 0) = True := by simp
  have a1 : (a.map bw).length = 16 := by simp [ha]
  have a2 : List.take 16 (a.map bw) = a.map bw := List.take_of_length_le (by simp [ha])
  have ds := rdigest_spec 1 false (lp [a]) (by simp [lp]) (key_dig a (by omega))
  have hst : dig (byteOf 1) (lp [a]) = leafD a := rfl
  rw [hst] at ds
  simp only [idx, List.map_nil, List.length_nil]
  refine AW_reg TB (fun D K hD hK => ?_)
  simp only [AwS, TS, AwD, aval, aIndex, aSlice, aLen, BN, BW, BS, Int.cast_ofNat_Int, spl, splice, bind, ↓reduceIte, simprocAttr]
  refine hD _ ?_
  clear hD hK D K
  refine AW_reg TB (fun D K hD hK => ?_)
  simp only [AwS, TS, AwD, aval, aIndex, aSlice, aLen, BN, BW, BS, Int.cast_ofNat_Int, spl, splice, bind, ↓reduceIte, simprocAttr, n1, a1]
  refine hK _ _ ?_
  clear hD hK D K
  refine AL_callPW rfl (.inl rfl) rfl rfl en_30 ds [24, 0] ?_ (by simp [blook]) (by simp [AV.kept, bws_kept]) (by simp only [AV.map, bws_map]) ?_
  · simp [evs, St.ev, cav, alook, lendA, lentBx, lendC, blook, AVs.map, AV.map, ioMap, bws_map, -List.map_map, lendC_bws, bws_take, a2, lp, pA, ha]
  have hdl : (leafD a).length = 16 := dig_len _ _
  generalize leafD a = d at hdl
  have z1 : spl (zB 16) 0 (d.map bw) = d.map bw := spl_all (by simp [zB, hdl]) (by simp [hdl])
  have z0 : spl (List.replicate 16 (.val (.int .u8 0))) 0 (d.map bw) = d.map bw := spl_all (by simp [hdl]) (by simp [hdl])
  simp only [List.replicate] at z0
  have z2 : List.take 16 (d.map bw) = d.map bw := List.take_of_length_le (by simp [hdl])
  have z3 : (d.map bw).length = 16 := by simp [hdl]
  have z4 : (zB 16).length = 16 := by simp [zB]
  refine AL_runR TB _ _ (fun D K hD hK => ?_)
  simp only [AwS, TS, AwD, aval, aIndex, aSlice, aLen, BN, BW, BS, Int.cast_ofNat_Int, spl, splice, bind, ↓reduceIte, simprocAttr, z0, z1, z2, z3, z4, bws_cell, bws_map, -spl]
  refine hD _ ?_
  clear hD hK D K
  refine AW_ret ?_
  simp only [Ret, seqQ]
  refine retp (.agg (d.map bw)) rfl ?_ (by simp only [AV.map, bws_map]) rfl
  simp only [resOf, resAll, resAV, AwS, TS, AwD, aval, aIndex, aSlice, aLen, BN, BW, BS, Int.cast_ofNat_Int, spl, splice, bind, ↓reduceIte, simprocAttr, z2, z3]

theorem rnode_spec (a b : List UInt8) (ha : a.length = 16) (hb : b.length = 16) : Spec Tryd.prog [] 97 [.agg (a.map bw), .agg (b.map bw)] [] (fun o => o = .ret (.agg ((nodeD a b).map bw)) [] []) := by
  refine spec_of TB 9 [.cell 4 23] Tryd.func97 rfl rfl rfl (Nat.le_of_ble_eq_true rfl) ?_
  intro X w0 E0 hE hX
  have n1 : ((1 : Nat) ≠ 0) = True := by simp
  have a1 : (a.map bw).length = 16 := by simp [ha]
  have a2 : List.take 16 (a.map bw) = a.map bw := List.take_of_length_le (by simp [ha])
  have b1 : (b.map bw).length = 16 := by simp [hb]
  have b2 : List.take 16 (b.map bw) = b.map bw := List.take_of_length_le (by simp [hb])
  have hps : (wAll (lp [a, b])).length ≤ 10000000 := by
    have h1 := wBytes_len a
    have h2 := wBytes_len b
    simp [wAll, lp]; omega
  have ds := rdigest_spec 2 false (lp [a, b]) (by simp [lp]) hps
  have hst : dig (byteOf 2) (lp [a, b]) = nodeD a b := rfl
  rw [hst] at ds
  simp only [idx, List.map_nil, List.length_nil]
  refine AW_reg TB (fun D K hD hK => ?_)
  simp only [AwS, TS, AwD, aval, aIndex, aSlice, aLen, BN, BW, BS, Int.cast_ofNat_Int, spl, splice, bind, ↓reduceIte, simprocAttr]
  refine hD _ ?_
  clear hD hK D K
  refine AW_dreg TB mx ([[], [], [0, 1], [2, 0, 1], [3, 2, 0, 1]]) (by kernel_rfl) (by kernel_rfl) (fun D K hD hK => ?_)
  simp only [AwS, TS, AwD, aval, aIndex, aSlice, aLen, BN, BW, BS, Int.cast_ofNat_Int, spl, splice, bind, ↓reduceIte, simprocAttr, Op.operands, Call.operands, List.toList_toArray, List.size_toArray, cmp, List.getD_cons_zero, List.getD_cons_succ, Array.toList_append, Option.toArray, List.append_toArray,  n1, a1, b1]
  refine hK _ _ _ _ ?_
  clear hD hK D K
  refine DL_call rfl rfl rfl rfl rfl en_30 ds (fun out h => h) [] [40, 0, 8] rfl rfl (by simp) (by simp) ?_ (by simp) (by simp [blook]) (by simp) (by simp [keptAll, AV.kept, bws_kept]) (by simp) rfl ?_
  · simp [evs, St.ev, cav, alook, lendA, lentBx, lendC, blook, AVs.map, AV.map, ioMap, bws_map, -List.map_map, lendC_bws, bws_take, a2, b2, lp, pA, ha, hb]
  have hdl : (nodeD a b).length = 16 := dig_len _ _
  generalize nodeD a b = d at hdl
  have z1 : spl (zB 16) 0 (d.map bw) = d.map bw := spl_all (by simp [zB, hdl]) (by simp [hdl])
  have z0 : spl (List.replicate 16 (.val (.int .u8 0))) 0 (d.map bw) = d.map bw := spl_all (by simp [hdl]) (by simp [hdl])
  simp only [List.replicate] at z0
  have z2 : List.take 16 (d.map bw) = d.map bw := List.take_of_length_le (by simp [hdl])
  have z3 : (d.map bw).length = 16 := by simp [hdl]
  have z4 : (zB 16).length = 16 := by simp [zB]
  refine DL_rest TB rfl (fun D K hD hK => ?_)
  simp only [AwS, TS, AwD, aval, aIndex, aSlice, aLen, BN, BW, BS, Int.cast_ofNat_Int, spl, splice, bind, ↓reduceIte, simprocAttr, Op.operands, Call.operands, List.toList_toArray, List.size_toArray, cmp, List.getD_cons_zero, List.getD_cons_succ, Array.toList_append, Option.toArray, List.append_toArray, z0, z1, z2, z3, z4, bws_cell, bws_map, -spl]
  refine hD _ ?_
  clear hD hK D K
  refine AW_ret ?_
  simp only [Ret, seqQ]
  refine retp (.agg (d.map bw)) rfl ?_ (by simp only [AV.map, bws_map]) rfl
  simp only [resOf, resAll, resAV, AwS, TS, AwD, aval, aIndex, aSlice, aLen, BN, BW, BS, Int.cast_ofNat_Int, spl, splice, bind, ↓reduceIte, simprocAttr, z2, z3]

def rsplF (n : Nat) (k : Nat) : St := { nt := 12, nx := 0, tm := [(3, nv k), (0, nv n)], bx := [], gl := [], df := [] }

theorem rsplit_spec (n : Nat) (hn : n ≤ 1000000000) (h1 : 1 ≤ n) : Spec Tryd.prog [] 96 [nv n] [] (fun o => o = .ret (nv (splitM n)) [] []) := by
  refine spec_of TB 12 [.tmp 2] Tryd.func96 rfl rfl rfl (Nat.le_of_ble_eq_true rfl) ?_
  intro X w0 E0 hE hX
  simp only [idx, List.map_nil, List.length_nil]
  refine AW_reg TB (fun D K hD hK => ?_)
  simp only [AwS, TS, AwD, aval, aIndex, aSlice, aLen, BN, BW, BS, Int.cast_ofNat_Int, spl, splice, bind, ↓reduceIte, simprocAttr]
  refine hD _ ?_
  clear hD hK D K
  refine AW_reg TB (fun D K hD hK => ?_)
  simp only [AwS, TS, AwD, aval, aIndex, aSlice, aLen, BN, BW, BS, Int.cast_ofNat_Int, spl, splice, bind, ↓reduceIte, simprocAttr]
  refine hD _ ?_
  clear hD hK D K
  refine AW_seqk (fun K0 hK0 => ?_)
  refine AW_block ?_
  refine AW_loop (rsplF n) (fun k => 0 < k ∧ k ≤ n ∧ splitG n k = splitM n) (fun k => n - k) hE 1 [] ⟨by omega, by omega, rfl⟩ ?_ ?_
  · refine ⟨rfl, by simp [rsplF, alook, AV.map, AVs.map], ⟨rfl, rfl⟩, ?_, ?_, by simp [rsplF], by simp [rsplF, nmap], ?_⟩
    · simp [rsplF, alook, AV.map, AVs.map, nmap, AVs_map_append, ivs_map, yvs_map]
    · simp [rsplF, blook, AV.map, AVs.map, nmap, AVs_map_append, ivs_map, yvs_map]
    · intro k hk
      have hk2 : k < 0 := hk
      omega
  rintro k ⟨hk0, hkn, hks⟩
  simp only [rsplF]
  have w1 : IntKind.i64.wrap ((n : Int) - (k : Int)) = ((n - k : Nat) : Int) := by rw [wrap_i64 (by omega) (by omega)]; omega
  refine AW_seq ?_
  refine AW_reg TB (fun D K hD hK => ?_)
  simp only [AwS, TS, AwD, aval, aIndex, aSlice, aLen, BN, BW, BS, Int.cast_ofNat_Int, spl, splice, bind, ↓reduceIte, simprocAttr, w1]
  refine hD _ ?_
  clear hD hK D K
  refine AW_cond rfl (fun h => AW_skip ?_) (fun h => AW_exit ?_)
  · have hlt : k < n - k := by
      have : (k : Int) < ((n - k : Nat) : Int) := by simpa using h
      omega
    have w2 : IntKind.i64.wrap (2 * (k : Int)) = ((2 * k : Nat) : Int) := by rw [wrap_i64 (by omega) (by omega)]; omega
    simp only [seqQ]
    refine AW_block ?_
    refine AW_regl TB (fun D K hD hK => ?_)
    simp only [AwS, TS, AwD, aval, aIndex, aSlice, aLen, BN, BW, BS, Int.cast_ofNat_Int, spl, splice, bind, ↓reduceIte, simprocAttr, w2]
    refine hD _ ?_
    clear hD hK D K
    refine ⟨2 * k, [], ⟨by omega, by omega, by rw [← hks, splitG_lt ⟨hk0, hlt⟩]⟩, by dsimp only; omega, ?_⟩
    refine ⟨rfl, by simp [rsplF, alook, AV.map, AVs.map], ⟨rfl, rfl⟩, ?_, ?_, by simp [rsplF], by simp [rsplF, nmap], ?_⟩
    · simp [rsplF, alook, AV.map, AVs.map, nmap, AVs_map_append, ivs_map, yvs_map]
    · simp [rsplF, blook, AV.map, AVs.map, nmap, AVs_map_append, ivs_map, yvs_map]
    · intro k hk
      have hk2 : k < 0 := hk
      omega
  · have hge : ¬ k < n - k := by
      intro h2
      have : ¬ (k : Int) < ((n - k : Nat) : Int) := by simpa using h
      omega
    rw [splitG_ge (fun h2 => hge h2.2)] at hks
    refine hK0 _ ?_
    refine AW_reg TB (fun D K hD hK => ?_)
    simp only [AwS, TS, AwD, aval, aIndex, aSlice, aLen, BN, BW, BS, Int.cast_ofNat_Int, spl, splice, bind, ↓reduceIte, simprocAttr]
    refine hD _ ?_
    clear hD hK D K
    rw [← hks]
    refine AW_ret ?_
    simp only [Ret, blockQ, kQ, loopQ, seqQ, scopeQ, ↓reduceIte]
    exact retp (nv k) rfl rfl rfl rfl

theorem rroot_spec : ∀ (n : Nat) (k : Bool) (ds : List (List UInt8)), ds.length ≤ n → n ≤ 1000000 → 1 ≤ ds.length → All16 ds → Spec Tryd.prog [] 57 [.ds k ds.length (fl ds)] [] (fun o => o = .ret (.agg ((mroot ds).map bw)) [] []) := by
  intro n
  induction n using Nat.strongRecOn with
  | _ n ih =>
  intro k ds hn hN hp h16
  refine spec_of TB 27 [.cell 2 23] Tryd.func57 rfl rfl rfl (Nat.le_of_ble_eq_true rfl) ?_
  intro X w0 E0 hE hX
  simp only [idx, List.map_nil, List.length_nil]
  refine AW_reg TB (fun D K hD hK => ?_)
  simp only [AwS, TS, AwD, aval, aIndex, aSlice, aLen, BN, BW, BS, Int.cast_ofNat_Int, spl, splice, bind, ↓reduceIte, simprocAttr]
  refine hD _ ?_
  clear hD hK D K
  refine AW_seq ?_
  refine AW_reg TB (fun D K hD hK => ?_)
  simp only [AwS, TS, AwD, aval, aIndex, aSlice, aLen, BN, BW, BS, Int.cast_ofNat_Int, spl, splice, bind, ↓reduceIte, simprocAttr]
  refine hD _ ?_
  clear hD hK D K
  refine AW_cond rfl (fun h0 => absurd h0 ?_) (fun h0 => AW_skip ?_)
  · have hz : ¬ (ds.length : Int) = 0 := by omega
    simpa using fun h => hz (by simp [h])
  simp only [seqQ]
  refine AW_seq ?_
  refine AW_reg TB (fun D K hD hK => ?_)
  simp only [AwS, TS, AwD, aval, aIndex, aSlice, aLen, BN, BW, BS, Int.cast_ofNat_Int, spl, splice, bind, ↓reduceIte, simprocAttr]
  refine hD _ ?_
  clear hD hK D K
  refine AW_cond rfl (fun h1 => ?_) (fun h1 => AW_skip ?_)
  · have hl1 : ds.length = 1 := by
      have : (ds.length : Int) = 1 := by simpa using h1
      omega
    obtain ⟨d0, rfl⟩ : ∃ d0, ds = [d0] := by
      match ds, hl1 with
      | [d0], _ => exact ⟨d0, rfl⟩
    have hd0 : d0.length = 16 := h16 d0 (by simp)
    have hfl : fl [d0] = d0.map bw := fl_one d0
    have a1 : (d0.map bw).length = 16 := by simp [hd0]
    have a2 : List.take 16 (d0.map bw) = d0.map bw := List.take_of_length_le (by simp [hd0])
    have x1 : ((0 : Int) < 1) = True := by simp
    refine AW_reg TB (fun D K hD hK => ?_)
    simp only [AwS, TS, AwD, aval, aIndex, aSlice, aLen, BN, BW, BS, Int.cast_ofNat_Int, spl, splice, bind, ↓reduceIte, simprocAttr, hfl, a1, a2, x1]
    refine hK _ _ ?_
    clear hD hK D K
    have ls := rleaf_spec d0 hd0
    rw [← mroot_one] at ls
    refine AL_callPW rfl (.inl rfl) rfl rfl en_95 ls [] ?_ (by simp) (by simp) (by simp only [AV.map, bws_map]) ?_
    · simp [evs, St.ev, cav, alook, lendA, lentBx, lendC, blook, AVs.map, AV.map, ioMap, bws_map]
    have hdl : (mroot [d0]).length = 16 := mroot_len _
    generalize mroot [d0] = d at hdl
    have z1 : spl (zB 16) 0 (d.map bw) = d.map bw := spl_all (by simp [zB, hdl]) (by simp [hdl])
    have z0 : spl (List.replicate 16 (.val (.int .u8 0))) 0 (d.map bw) = d.map bw := spl_all (by simp [hdl]) (by simp [hdl])
    simp only [List.replicate] at z0
    have z2 : List.take 16 (d.map bw) = d.map bw := List.take_of_length_le (by simp [hdl])
    have z3 : (d.map bw).length = 16 := by simp [hdl]
    have z4 : (zB 16).length = 16 := by simp [zB]
    refine AL_runR TB _ _ (fun D K hD hK => ?_)
    simp only [AwS, TS, AwD, aval, aIndex, aSlice, aLen, BN, BW, BS, Int.cast_ofNat_Int, spl, splice, bind, ↓reduceIte, simprocAttr, z0, z1, z2, z3, z4, bws_cell, bws_map, -spl]
    refine hD _ ?_
    clear hD hK D K
    refine AW_ret ?_
    simp only [Ret, seqQ]
    refine retp (.agg (d.map bw)) rfl ?_ (by simp only [AV.map, bws_map]) rfl
    simp only [resOf, resAll, resAV, AwS, TS, AwD, aval, aIndex, aSlice, aLen, BN, BW, BS, Int.cast_ofNat_Int, spl, splice, bind, ↓reduceIte, simprocAttr, z2, z3]
  · have hbig : 1 < ds.length := by
      have : ¬ (ds.length : Int) = 1 := by simpa using h1
      omega
    obtain ⟨hs0, hs1⟩ := splitM_bd hbig
    have hmb := mroot_big hbig
    have hL := fl_take h16 (splitM ds.length) (by omega)
    have hR := fl_drop h16 (splitM ds.length) (by omega)
    have i1 := ih (splitM ds.length) (by omega) k (ds.take (splitM ds.length)) (by simp; omega) (by omega) (by simp; omega) (h16.take _)
    have i2 := ih (ds.length - splitM ds.length) (by omega) k (ds.drop (splitM ds.length)) (by simp) (by omega) (by simp; omega) (h16.drop _)
    have ll1 : (ds.take (splitM ds.length)).length = splitM ds.length := by simp; omega
    have ll2 : (ds.drop (splitM ds.length)).length = ds.length - splitM ds.length := by simp
    rw [ll1] at i1
    rw [ll2] at i2
    have hRl : (fl (ds.drop (splitM ds.length))).length = (ds.length - splitM ds.length) * 16 := by rw [fl_len (h16.drop _), ll2]
    have ss := rsplit_spec ds.length (by omega) (by omega)
    generalize splitM ds.length = q at *
    generalize ds.take q = A at *
    generalize ds.drop q = B at *
    simp only [seqQ]
    refine AW_reg TB (fun D K hD hK => ?_)
    simp only [AwS, TS, AwD, aval, aIndex, aSlice, aLen, BN, BW, BS, Int.cast_ofNat_Int, spl, splice, bind, ↓reduceIte, simprocAttr]
    refine hK _ _ ?_
    clear hD hK D K
    refine AL_callPW rfl (.inl rfl) rfl rfl en_96 ss [] ?_ (by simp) rfl rfl ?_
    · simp [evs, St.ev, cav, alook, lendA, lentBx, lendC, blook, AVs.map, AV.map, ioMap]
    refine AL_runR TB _ _ (fun D K hD hK => ?_)
    simp only [AwS, TS, AwD, aval, aIndex, aSlice, aLen, BN, BW, BS, Int.cast_ofNat_Int, spl, splice, bind, ↓reduceIte, simprocAttr]
    refine hD _ ?_
    clear hD hK D K
    have y1 : (0 ≤ (q : Int)) = True := by simp
    have y2 : (q ≤ ds.length) = True := by simp; omega
    have y3 : (0 ≤ (ds.length : Int)) = True := by simp
    have y4 : List.take ((ds.length - q) * 16) (fl B) = fl B := List.take_of_length_le (by omega)
    refine AW_dreg TB mx ([[], [], [0, 1], [2, 0, 1], [], [], [4, 5], [6, 4, 5, 3, 2, 0, 1], [3, 2, 0, 1, 7, 6, 4, 5], [8, 3, 2, 0, 1, 7, 6, 4, 5]]) (by kernel_rfl) (by kernel_rfl) (fun D K hD hK => ?_)
    simp only [AwS, TS, AwD, aval, aIndex, aSlice, aLen, BN, BW, BS, Int.cast_ofNat_Int, spl, splice, bind, ↓reduceIte, simprocAttr, Op.operands, Call.operands, List.toList_toArray, List.size_toArray, cmp, List.getD_cons_zero, List.getD_cons_succ, Array.toList_append, Option.toArray, List.append_toArray,  y1, y2, y3, y4, hL, hR, Int.toNat_natCast, implies_true, Nat.sub_zero]
    refine hK _ _ _ _ ?_
    clear hD hK D K
    refine DL_callPW rfl rfl (.inl rfl) rfl rfl en_57 i1 [] ?_ (by simp) (by simp) rfl (by simp only [AV.map, bws_map]) rfl ?_
    · simp [evs, St.ev, cav, alook, lendA, lentBx, lendC, blook, AVs.map, AV.map, ioMap, fl_map]
    refine DL_rest TB rfl (fun D K hD hK => ?_)
    simp only [AwS, TS, AwD, aval, aIndex, aSlice, aLen, BN, BW, BS, Int.cast_ofNat_Int, spl, splice, bind, ↓reduceIte, simprocAttr, Op.operands, Call.operands, List.toList_toArray, List.size_toArray, cmp, List.getD_cons_zero, List.getD_cons_succ, Array.toList_append, Option.toArray, List.append_toArray, y1, y2, y3, y4, hL, hR, Int.toNat_natCast, implies_true, Nat.sub_zero, bws_map]
    refine hK _ _ _ _ ?_
    clear hD hK D K
    refine DL_callPW rfl rfl (.inl rfl) rfl rfl en_57 i2 [] ?_ (by simp) (by simp) rfl (by simp only [AV.map, bws_map]) rfl ?_
    · simp [evs, St.ev, cav, alook, lendA, lentBx, lendC, blook, AVs.map, AV.map, ioMap, fl_map]
    refine DL_rest TB rfl (fun D K hD hK => ?_)
    simp only [AwS, TS, AwD, aval, aIndex, aSlice, aLen, BN, BW, BS, Int.cast_ofNat_Int, spl, splice, bind, ↓reduceIte, simprocAttr, Op.operands, Call.operands, List.toList_toArray, List.size_toArray, cmp, List.getD_cons_zero, List.getD_cons_succ, Array.toList_append, Option.toArray, List.append_toArray, bws_map]
    refine hK _ _ _ _ ?_
    clear hD hK D K
    have ns := rnode_spec (mroot A) (mroot B) (mroot_len _) (mroot_len _)
    rw [← hmb] at ns
    refine DL_callPW rfl rfl (.inl rfl) rfl rfl en_97 ns [] ?_ (by simp) (by simp) rfl (by simp only [AV.map, bws_map]) rfl ?_
    · simp [evs, St.ev, cav, alook, lendA, lentBx, lendC, blook, AVs.map, AV.map, ioMap, bws_map]
    have hdl : (mroot ds).length = 16 := mroot_len _
    generalize mroot ds = d at hdl
    have z1 : spl (zB 16) 0 (d.map bw) = d.map bw := spl_all (by simp [zB, hdl]) (by simp [hdl])
    have z0 : spl (List.replicate 16 (.val (.int .u8 0))) 0 (d.map bw) = d.map bw := spl_all (by simp [hdl]) (by simp [hdl])
    simp only [List.replicate] at z0
    have z2 : List.take 16 (d.map bw) = d.map bw := List.take_of_length_le (by simp [hdl])
    have z3 : (d.map bw).length = 16 := by simp [hdl]
    have z4 : (zB 16).length = 16 := by simp [zB]
    refine DL_rest TB rfl (fun D K hD hK => ?_)
    simp only [AwS, TS, AwD, aval, aIndex, aSlice, aLen, BN, BW, BS, Int.cast_ofNat_Int, spl, splice, bind, ↓reduceIte, simprocAttr, Op.operands, Call.operands, List.toList_toArray, List.size_toArray, cmp, List.getD_cons_zero, List.getD_cons_succ, Array.toList_append, Option.toArray, List.append_toArray, z0, z1, z2, z3, z4, bws_cell, bws_map, -spl]
    refine hD _ ?_
    clear hD hK D K
    refine AW_ret ?_
    simp only [Ret, seqQ]
    refine retp (.agg (d.map bw)) rfl ?_ (by simp only [AV.map, bws_map]) rfl
    simp only [resOf, resAll, resAV, AwS, TS, AwD, aval, aIndex, aSlice, aLen, BN, BW, BS, Int.cast_ofNat_Int, spl, splice, bind, ↓reduceIte, simprocAttr, z2, z3]

end Go.Proofs.YtgbpgplkhifgiaaDoor

/- The walk of bootchainref03.Prove. No condition. -/
set_option linter.unusedVariables false
set_option linter.unusedSimpArgs false
set_option maxRecDepth 100000
namespace Go.Proofs.YtgbpgplkhifgiaaDoor
open Go Go.RowKit


theorem rprove_spec : ∀ (n : Nat) (k : Bool) (ds : List (List UInt8)) (i : Nat), ds.length ≤ n → n ≤ 1000000 → All16 ds → i < ds.length →
    Spec Tryd.prog [] 61 [.ds k ds.length (fl ds), iv i] [] (fun o => o = .ret (.tup [.sl 0 0 (proveM ds i).length 16 (some 23), iv 0]) [] [fl (proveM ds i)]) := by
  intro n
  induction n using Nat.strongRecOn with
  | _ n ih =>
  intro k ds i hn hN h16 hi
  refine spec_of TB 60 [.tmp 4, .tmp 5] Tryd.func61 rfl rfl rfl (Nat.le_of_ble_eq_true rfl) ?_
  intro X w0 E0 hE hX
  have e1 : decide ((i : Int) < 0) = false := decide_eq_false (by omega)
  have e2 : decide ((ds.length : Int) ≤ (i : Int)) = false := decide_eq_false (by omega)
  simp only [idx, List.map_nil, List.length_nil]
  refine AW_reg TB (fun D K hD hK => ?_)
  simp only [AwS, TS, AwD, aval, aIndex, aSlice, aLen, BN, BW, BS, Int.cast_ofNat_Int, spl, splice, bind, ↓reduceIte, simprocAttr]
  refine hD _ ?_
  clear hD hK D K
  refine AW_seq ?_
  refine AW_reg TB (fun D K hD hK => ?_)
  simp only [AwS, TS, AwD, aval, aIndex, aSlice, aLen, BN, BW, BS, Int.cast_ofNat_Int, spl, splice, bind, ↓reduceIte, simprocAttr, e1, e2]
  refine hD _ ?_
  clear hD hK D K
  refine AW_false rfl (AW_skip ?_)
  simp only [seqQ]
  refine AW_seq ?_
  refine AW_reg TB (fun D K hD hK => ?_)
  simp only [AwS, TS, AwD, aval, aIndex, aSlice, aLen, BN, BW, BS, Int.cast_ofNat_Int, spl, splice, bind, ↓reduceIte, simprocAttr]
  refine hD _ ?_
  clear hD hK D K
  refine AW_cond rfl (fun h1 => ?_) (fun h1 => AW_skip ?_)
  · have hl1 : ¬ 1 < ds.length := by
      have : (ds.length : Int) = 1 := by simpa using h1
      omega
    rw [prove_one hl1]
    refine AW_reg TB (fun D K hD hK => ?_)
    simp only [AwS, TS, AwD, aval, aIndex, aSlice, aLen, BN, BW, BS, Int.cast_ofNat_Int, spl, splice, bind, ↓reduceIte, simprocAttr]
    refine hD _ ?_
    clear hD hK D K
    refine AW_ret ?_
    simp only [Ret, seqQ]
    refine ⟨.tup [.sl 0 0 0 16 (some 23), iv 0], [], [fl []], [(0, 104)], rfl, ?_, ?_, rfl⟩
    · simp [resOf, resAll, resAV, alook, blook, AV.known, loadC, AwS, TS, TD.isAgg, AV.map, AVs.map, nmap]
    · refine ⟨rfl, by simp [leftSt], ⟨rfl, rfl⟩, by simp [leftSt], ?_, by simp [leftSt], by simp [leftSt, idx, nmap], by simp⟩
      simp [leftSt, idx, blook, nmap, AVs.map, AV.map, fl]
  · have hbig : 1 < ds.length := by
      have : ¬ (ds.length : Int) = 1 := by simpa using h1
      omega
    obtain ⟨hs0, hs1⟩ := splitM_bd hbig
    have hL := fl_take h16 (splitM ds.length) (by omega)
    have hR := fl_drop h16 (splitM ds.length) (by omega)
    have ll1 : (ds.take (splitM ds.length)).length = splitM ds.length := by simp; omega
    have ll2 : (ds.drop (splitM ds.length)).length = ds.length - splitM ds.length := by simp
    have r1 := rroot_spec (splitM ds.length) k (ds.take (splitM ds.length)) (by omega) (by omega) (by omega) (h16.take _)
    have r2 := rroot_spec (ds.length - splitM ds.length) k (ds.drop (splitM ds.length)) (by omega) (by omega) (by omega) (h16.drop _)
    rw [ll1] at r1
    rw [ll2] at r2
    have hRl : (fl (ds.drop (splitM ds.length))).length = (ds.length - splitM ds.length) * 16 := by rw [fl_len (h16.drop _), ll2]
    have ss := rsplit_spec ds.length (by omega) (by omega)
    simp only [seqQ]
    refine AW_reg TB (fun D K hD hK => ?_)
    simp only [AwS, TS, AwD, aval, aIndex, aSlice, aLen, BN, BW, BS, Int.cast_ofNat_Int, spl, splice, bind, ↓reduceIte, simprocAttr]
    refine hK _ _ ?_
    clear hD hK D K
    refine AL_callPW rfl (.inl rfl) rfl rfl en_96 ss [] ?_ (by simp) rfl rfl ?_
    · simp [evs, St.ev, cav, alook, lendA, lentBx, lendC, blook, AVs.map, AV.map, ioMap]
    refine AL_runR TB _ _ (fun D K hD hK => ?_)
    simp only [AwS, TS, AwD, aval, aIndex, aSlice, aLen, BN, BW, BS, Int.cast_ofNat_Int, spl, splice, bind, ↓reduceIte, simprocAttr]
    refine hD _ ?_
    clear hD hK D K
    have y1 : (0 ≤ (splitM ds.length : Int)) = True := by simp
    have y2 : (splitM ds.length ≤ ds.length) = True := by simp; omega
    have y3 : (0 ≤ (ds.length : Int)) = True := by simp
    have y4 : List.take ((ds.length - splitM ds.length) * 16) (fl (ds.drop (splitM ds.length))) = fl (ds.drop (splitM ds.length)) := List.take_of_length_le (by omega)
    refine AW_seq ?_
    refine AW_reg TB (fun D K hD hK => ?_)
    simp only [AwS, TS, AwD, aval, aIndex, aSlice, aLen, BN, BW, BS, Int.cast_ofNat_Int, spl, splice, bind, ↓reduceIte, simprocAttr]
    refine hD _ ?_
    clear hD hK D K
    refine AW_cond rfl (fun h2 => ?_) (fun h2 => AW_skip ?_)
    · have hlt : i < splitM ds.length := by simpa using h2
      have ir := ih (splitM ds.length) (by omega) k (ds.take (splitM ds.length)) i (by omega) (by omega) (h16.take _) (by omega)
      rw [ll1] at ir
      rw [prove_lt hbig hlt]
      have hp16 := prove_16 ds.length (ds.take (splitM ds.length)) i (by omega)
      have hple := prove_le ds.length (ds.take (splitM ds.length)) i (by omega)
      have hps : (proveM (ds.take (splitM ds.length)) i).length ≤ 1000000 := by omega
      generalize proveM (ds.take (splitM ds.length)) i = ps at *
      refine AW_reg TB (fun D K hD hK => ?_)
      simp only [AwS, TS, AwD, aval, aIndex, aSlice, aLen, BN, BW, BS, Int.cast_ofNat_Int, spl, splice, bind, ↓reduceIte, simprocAttr, y1, y2, y3, y4, hL, hR, Int.toNat_natCast, implies_true, Nat.sub_zero]
      refine hK _ _ ?_
      clear hD hK D K
      refine AL_call rfl rfl rfl rfl en_61 ir [] [] rfl (by simp) (by simp) ?_ (by simp) (by simp) (by simp) (fun x io' nb hR _ => ?_) (fun v io2 hR _ => by simp at hR)
      · simp [evs, St.ev, cav, alook, lendA, lentBx, lendC, blook, AVs.map, AV.map, ioMap, fl_map]
      simp only [Out.ret.injEq] at hR
      obtain ⟨rfl, rfl, rfl⟩ := hR
      refine ⟨by simp [keptAll, AV.kept, AVs.kept, fl_kept], by simp, ?_⟩
      have hml := mroot_len (ds.drop (splitM ds.length))
      generalize hB : mroot (ds.drop (splitM ds.length)) = B at *
      have c1 : (ps.length + 1 ≤ 4294967296) = True := by simp; omega
      have hsl := fl_len hp16
      have z1 : spl (List.replicate 16 (.val (.int .u8 0))) 0 (B.map bw) = B.map bw := spl_all (by simp [hml]) (by simp [hml])
      have y5 : splice (List.replicate 16 (.val (.int .u8 0))) 0 (B.map bw) = B.map bw := by simp [splice, hml]
      simp only [List.replicate] at z1 y5
      have z2 : List.take 16 (B.map bw) = B.map bw := List.take_of_length_le (by simp [hml])
      have z3 : (B.map bw).length = 16 := by simp [hml]
      simp only [List.length_append, List.length_cons, List.length_nil]
      refine AL_runR TB _ _ (fun D K hD hK => ?_)
      simp only [AwS, TS, AwD, aval, aIndex, aSlice, aLen, BN, BW, BS, Int.cast_ofNat_Int, spl, splice, bind, ↓reduceIte, simprocAttr, fl_map]
      refine hD _ ?_
      clear hD hK D K
      simp only [seqQ]
      refine AW_reg TB (fun D K hD hK => ?_)
      simp only [AwS, TS, AwD, aval, aIndex, aSlice, aLen, BN, BW, BS, Int.cast_ofNat_Int, spl, splice, bind, ↓reduceIte, simprocAttr, y1, y2, y3, y4, hL, hR, Int.toNat_natCast, implies_true, Nat.sub_zero]
      refine hK _ _ ?_
      clear hD hK D K
      refine AL_callPW rfl (.inl rfl) rfl rfl en_57 r2 [] ?_ (by simp) (by simp) (by simp only [AV.map, bws_map]) ?_
      · simp [evs, St.ev, cav, alook, lendA, lentBx, lendC, blook, AVs.map, AV.map, ioMap, fl_map]
      refine AL_runR TB _ _ (fun D K hD hK => ?_)
      simp only [AwS, TS, AwD, aval, aIndex, aSlice, aLen, BN, BW, BS, Int.cast_ofNat_Int, spl, splice, bind, ↓reduceIte, simprocAttr, z1, y5, z2, z3, c1, hsl, bws_cell, bws_map, -spl, -splice]
      refine hD _ ?_
      clear hD hK D K
      refine AW_ret ?_
      simp only [Ret, seqQ]
      refine ⟨.tup [.sl 0 0 (ps.length + 1) 16 (some 23), iv 0], [], [fl (ps ++ [B])], [(0, 288)], rfl, ?_, ?_, rfl⟩
      · simp [resOf, resAll, resAV, alook, blook, AV.known, loadC, AwS, TS, TD.isAgg, AV.map, AVs.map, nmap]
      · refine ⟨rfl, by simp [leftSt], ⟨rfl, rfl⟩, by simp [leftSt], ?_, by simp [leftSt], by simp [leftSt, idx, nmap], by simp⟩
        simp [leftSt, idx, blook, nmap, AVs.map, AV.map, bws_map, fl_map, fl_one, fl_app, AVs_map_append]
    · have hge : ¬ i < splitM ds.length := by simpa using h2
      have w1 : IntKind.i64.wrap ((i : Int) - (splitM ds.length : Int)) = ((i - splitM ds.length : Nat) : Int) := by rw [wrap_i64 (by omega) (by omega)]; omega
      have ir := ih (ds.length - splitM ds.length) (by omega) k (ds.drop (splitM ds.length)) (i - splitM ds.length) (by omega) (by omega) (h16.drop _) (by omega)
      rw [ll2] at ir
      rw [prove_ge hbig hge]
      have hp16 := prove_16 ds.length (ds.drop (splitM ds.length)) (i - splitM ds.length) (by omega)
      have hple := prove_le ds.length (ds.drop (splitM ds.length)) (i - splitM ds.length) (by omega)
      have hps : (proveM (ds.drop (splitM ds.length)) (i - splitM ds.length)).length ≤ 1000000 := by omega
      generalize proveM (ds.drop (splitM ds.length)) (i - splitM ds.length) = ps at *
      simp only [seqQ]
      refine AW_reg TB (fun D K hD hK => ?_)
      simp only [AwS, TS, AwD, aval, aIndex, aSlice, aLen, BN, BW, BS, Int.cast_ofNat_Int, spl, splice, bind, ↓reduceIte, simprocAttr, w1, y1, y2, y3, y4, hL, hR, Int.toNat_natCast, implies_true, Nat.sub_zero]
      refine hK _ _ ?_
      clear hD hK D K
      refine AL_call rfl rfl rfl rfl en_61 ir [] [] rfl (by simp) (by simp) ?_ (by simp) (by simp) (by simp) (fun x io' nb hR _ => ?_) (fun v io2 hR _ => by simp at hR)
      · simp [evs, St.ev, cav, alook, lendA, lentBx, lendC, blook, AVs.map, AV.map, ioMap, fl_map, w1]
      simp only [Out.ret.injEq] at hR
      obtain ⟨rfl, rfl, rfl⟩ := hR
      refine ⟨by simp [keptAll, AV.kept, AVs.kept, fl_kept], by simp, ?_⟩
      have hml := mroot_len (ds.take (splitM ds.length))
      generalize hB : mroot (ds.take (splitM ds.length)) = B at *
      have c1 : (ps.length + 1 ≤ 4294967296) = True := by simp; omega
      have hsl := fl_len hp16
      have z1 : spl (List.replicate 16 (.val (.int .u8 0))) 0 (B.map bw) = B.map bw := spl_all (by simp [hml]) (by simp [hml])
      have y5 : splice (List.replicate 16 (.val (.int .u8 0))) 0 (B.map bw) = B.map bw := by simp [splice, hml]
      simp only [List.replicate] at z1 y5
      have z2 : List.take 16 (B.map bw) = B.map bw := List.take_of_length_le (by simp [hml])
      have z3 : (B.map bw).length = 16 := by simp [hml]
      simp only [List.length_append, List.length_cons, List.length_nil]
      refine AL_runR TB _ _ (fun D K hD hK => ?_)
      simp only [AwS, TS, AwD, aval, aIndex, aSlice, aLen, BN, BW, BS, Int.cast_ofNat_Int, spl, splice, bind, ↓reduceIte, simprocAttr, fl_map]
      refine hD _ ?_
      clear hD hK D K
      simp only [seqQ]
      refine AW_reg TB (fun D K hD hK => ?_)
      simp only [AwS, TS, AwD, aval, aIndex, aSlice, aLen, BN, BW, BS, Int.cast_ofNat_Int, spl, splice, bind, ↓reduceIte, simprocAttr, y1, y2, y3, y4, hL, hR, Int.toNat_natCast, implies_true, Nat.sub_zero]
      refine hK _ _ ?_
      clear hD hK D K
      refine AL_callPW rfl (.inl rfl) rfl rfl en_57 r1 [] ?_ (by simp) (by simp) (by simp only [AV.map, bws_map]) ?_
      · simp [evs, St.ev, cav, alook, lendA, lentBx, lendC, blook, AVs.map, AV.map, ioMap, fl_map]
      refine AL_runR TB _ _ (fun D K hD hK => ?_)
      simp only [AwS, TS, AwD, aval, aIndex, aSlice, aLen, BN, BW, BS, Int.cast_ofNat_Int, spl, splice, bind, ↓reduceIte, simprocAttr, z1, y5, z2, z3, c1, hsl, bws_cell, bws_map, -spl, -splice]
      refine hD _ ?_
      clear hD hK D K
      refine AW_ret ?_
      simp only [Ret, seqQ]
      refine ⟨.tup [.sl 0 0 (ps.length + 1) 16 (some 23), iv 0], [], [fl (ps ++ [B])], [(0, 304)], rfl, ?_, ?_, rfl⟩
      · simp [resOf, resAll, resAV, alook, blook, AV.known, loadC, AwS, TS, TD.isAgg, AV.map, AVs.map, nmap]
      · refine ⟨rfl, by simp [leftSt], ⟨rfl, rfl⟩, by simp [leftSt], ?_, by simp [leftSt], by simp [leftSt, idx, nmap], by simp⟩
        simp [leftSt, idx, blook, nmap, AVs.map, AV.map, bws_map, fl_map, fl_one, fl_app, AVs_map_append]
end Go.Proofs.YtgbpgplkhifgiaaDoor
