/- The walks of bootchainref01's zigzag, Int and Bytes. No condition. -/
import Derived.Test.YtgbpgplkhifgiaaDoorMX
set_option linter.unusedVariables false
set_option linter.unusedSimpArgs false
set_option maxRecDepth 100000
namespace Go.Proofs.YtgbpgplkhifgiaaDoor
open Go Go.RowKit

theorem d_mul_2 (x : UInt64) : binI .mul .u64 2 (x.toNat : Int) = some (.int .u64 ((2 * x).toNat : Int)) := d_mul 2 x
theorem d_add_1 (x : UInt64) : binI .add .u64 (x.toNat : Int) 1 = some (.int .u64 ((x + 1).toNat : Int)) := d_add x 1
theorem d_add_128 (x : UInt64) : binI .add .u64 128 (x.toNat : Int) = some (.int .u64 ((128 + x).toNat : Int)) := d_add 128 x
theorem d_rem_128 (x : UInt64) : binI .rem .u64 (x.toNat : Int) 128 = some (.int .u64 ((x % 128).toNat : Int)) := by
  have h : (x.toNat : Int).tmod 128 = ((x % 128).toNat : Int) := by
    rw [show (128 : Int) = ((128 : Nat) : Int) from rfl, ← Int.ofNat_tmod]
    rfl
  simp [binI, h]
theorem shr7_nat (x : UInt64) : (shr64 x 7).toNat = x.toNat / 128 := by
  have := lt64 x
  simp only [shr64]
  rw [UInt64.toNat_ofNat', Nat.mod_eq_of_lt (by omega)]
theorem d_quo_128 (x : UInt64) : binI .quo .u64 (x.toNat : Int) 128 = some (.int .u64 ((shr64 x 7).toNat : Int)) := by
  have hl := lt64 x
  have h : IntKind.u64.wrap ((x.toNat : Int).tdiv 128) = ((shr64 x 7).toNat : Int) := by
    rw [show (128 : Int) = ((128 : Nat) : Int) from rfl, ← Int.ofNat_tdiv, wr64, shr7_nat, Nat.mod_eq_of_lt (by omega)]
  have h2 : binI .quo .u64 (x.toNat : Int) 128 = some (.int .u64 (IntKind.u64.wrap ((x.toNat : Int).tdiv 128))) := rfl
  rw [h2, h]

theorem dbl (x : UInt64) : 2 * x = shl64 x 1 := by
  apply UInt64.toNat_inj.1
  simp only [shl64, UInt64.toNat_mul, UInt64.toNat_ofNat']
  have : (2 : UInt64).toNat = 2 := rfl
  rw [this]
  omega
theorem zig_neg (n : Int) (h1 : -9223372036854775808 ≤ n) (h2 : n < 0) : 2 * wordOf (-(n + 1)) + 1 = ~~~ (shl64 (wordOf n) 1) := by
  apply UInt64.toNat_inj.1
  have e1 : (2 : UInt64).toNat = 2 := rfl
  have e2 : (1 : UInt64).toNat = 1 := rfl
  simp only [shl64, wordOf, UInt64.toNat_add, UInt64.toNat_mul, UInt64.toNat_ofNat', UInt64.toNat_not, e1, e2, UInt64.size]
  omega
theorem or128 : ∀ n : Nat, n < 256 → n ||| 128 = 128 + n % 128 := by decide
theorem low7 (u : UInt64) : (128 + u % 128).toUInt8 = u.toUInt8 ||| 128 := by
  apply UInt8.toNat_inj.1
  have e1 : (128 : UInt64).toNat = 128 := rfl
  have e2 : (128 : UInt8).toNat = 128 := rfl
  rw [UInt8.toNat_or, e2, UInt64.toNat_toUInt8, UInt64.toNat_toUInt8, UInt64.toNat_add, UInt64.toNat_mod, e1, or128 _ (Nat.mod_lt _ (by omega))]
  omega

theorem rzig_spec (n : Int) (h1 : -9223372036854775808 ≤ n) (h2 : n < 9223372036854775808) : Spec Tryd.prog [] 123 [iv n] [] (fun o => o = .ret (dw (zig n)) [] []) := by
  refine spec_of TB 14 [.tmp 2] Tryd.func123 rfl rfl rfl (Nat.le_of_ble_eq_true rfl) ?_
  intro X w0 E0 hE hX
  simp only [idx, List.map_nil, List.length_nil]
  refine AW_reg TB (fun D K hD hK => ?_)
  simp only [AwS, TS, AwD, aval, aIndex, aSlice, aLen, BN, BW, BS, Int.cast_ofNat_Int, spl, splice, bind, ↓reduceIte, simprocAttr]
  refine hD _ ?_
  clear hD hK D K
  refine AW_seq ?_
  refine AW_reg TB (fun D K hD hK => ?_)
  simp only [AwS, TS, AwD, aval, aIndex, aSlice, aLen, BN, BW, BS, Int.cast_ofNat_Int, spl, splice, bind, ↓reduceIte, simprocAttr]
  refine hD _ ?_
  clear hD hK D K
  refine AW_cond rfl (fun hn => ?_) (fun hn => AW_skip ?_)
  · have h0 : 0 ≤ n := by simpa using hn
    have hz : zig n = 2 * wordOf n := by
      unfold zig
      rw [if_neg (by omega), dbl]
    rw [hz]
    refine AW_reg TB (fun D K hD hK => ?_)
    simp only [AwS, TS, AwD, aval, aIndex, aSlice, aLen, BN, BW, BS, Int.cast_ofNat_Int, spl, splice, bind, ↓reduceIte, simprocAttr, c_i_64, d_mul_2]
    refine hD _ ?_
    clear hD hK D K
    refine AW_ret ?_
    simp only [Ret, seqQ]
    refine retp (dw (2 * wordOf n)) rfl ?_ rfl rfl
    simp [resOf, resAll, resAV, alook, blook, AV.known, loadC, AwS, TS, TD.isAgg]
  · have h0 : n < 0 := by
      have : ¬ 0 ≤ n := by simpa using hn
      omega
    have hz : zig n = 2 * wordOf (-(n + 1)) + 1 := by
      unfold zig
      rw [if_pos h0, zig_neg n h1 h0]
    rw [hz]
    have w1 : IntKind.i64.wrap (n + 1) = n + 1 := wrap_i64 (by omega) (by omega)
    have w2 : IntKind.i64.wrap (0 - (n + 1)) = -(n + 1) := by rw [wrap_i64 (by omega) (by omega)]; omega
    simp only [seqQ]
    refine AW_reg TB (fun D K hD hK => ?_)
    simp only [AwS, TS, AwD, aval, aIndex, aSlice, aLen, BN, BW, BS, Int.cast_ofNat_Int, spl, splice, bind, ↓reduceIte, simprocAttr, w1, w2, c_i_64, d_mul_2, d_add_1]
    refine hD _ ?_
    clear hD hK D K
    refine AW_ret ?_
    simp only [Ret]
    refine retp (dw (2 * wordOf (-(n + 1)) + 1)) rfl ?_ rfl rfl
    simp [resOf, resAll, resAV, alook, blook, AV.known, loadC, AwS, TS, TD.isAgg]
def riF (n : Int) (q : List UInt8 × UInt64) : St := { nt := 23, nx := 1, tm := [(4, .sl 0 0 q.1.length 1 (some 5)), (3, dw q.2)], bx := [(0, some (q.1.map bw))], gl := [], df := [] }

theorem rint_spec (n : Int) (h1 : -9223372036854775808 ≤ n) (h2 : n < 9223372036854775808) : Spec Tryd.prog [] 106 [iv n] [] (fun o => o = .ret (.sl 0 0 (wInt n).length 1 (some 5)) [] [(wInt n).map bw]) := by
  refine spec_of TB 23 [.tmp 2] Tryd.func106 rfl rfl rfl (Nat.le_of_ble_eq_true rfl) ?_
  intro X w0 E0 hE hX
  have hwl := wInt_len n
  simp only [idx, List.map_nil, List.length_nil]
  refine AW_reg TB (fun D K hD hK => ?_)
  simp only [AwS, TS, AwD, aval, aIndex, aSlice, aLen, BN, BW, BS, Int.cast_ofNat_Int, spl, splice, bind, ↓reduceIte, simprocAttr]
  refine hD _ ?_
  clear hD hK D K
  refine AW_reg TB (fun D K hD hK => ?_)
  simp only [AwS, TS, AwD, aval, aIndex, aSlice, aLen, BN, BW, BS, Int.cast_ofNat_Int, spl, splice, bind, ↓reduceIte, simprocAttr]
  refine hK _ _ ?_
  clear hD hK D K
  refine AL_callP rfl rfl rfl rfl en_123 (rzig_spec n h1 h2) [] ?_ (by simp) rfl rfl ?_
  · simp [evs, St.ev, cav, alook, lendA, lentBx, lendC, blook, AVs.map, AV.map, ioMap]
  refine AL_runR TB _ _ (fun D K hD hK => ?_)
  simp only [AwS, TS, AwD, aval, aIndex, aSlice, aLen, BN, BW, BS, Int.cast_ofNat_Int, spl, splice, bind, ↓reduceIte, simprocAttr]
  refine hD _ ?_
  clear hD hK D K
  refine AW_reg TB (fun D K hD hK => ?_)
  simp only [AwS, TS, AwD, aval, aIndex, aSlice, aLen, BN, BW, BS, Int.cast_ofNat_Int, spl, splice, bind, ↓reduceIte, simprocAttr]
  refine hD _ ?_
  clear hD hK D K
  refine AW_seqk (fun K0 hK0 => ?_)
  refine AW_block ?_
  refine AW_loop (riF n) (fun q => q.1 ++ vint q.2 = wInt n) (fun q => q.2.toNat) hE ([], zig n) [(0, 32)] rfl ?_ ?_
  · refine ⟨rfl, by simp [riF, alook, AV.map, AVs.map, bws_map], ⟨rfl, rfl⟩, ?_, ?_, by simp [riF], by simp [riF, nmap], ?_⟩
    · simp [riF, alook, AV.map, AVs.map, nmap, AVs_map_append, ivs_map, yvs_map, bws_map]
    · simp [riF, blook, AV.map, AVs.map, nmap, AVs_map_append, ivs_map, yvs_map, bws_map]
    · intro k hk
      have hk2 : k < 0 := hk
      omega
  rintro ⟨c, u⟩ hc
  simp only at hc
  simp only [riF]
  refine AW_seq ?_
  refine AW_reg TB (fun D K hD hK => ?_)
  simp only [AwS, TS, AwD, aval, aIndex, aSlice, aLen, BN, BW, BS, Int.cast_ofNat_Int, spl, splice, bind, ↓reduceIte, simprocAttr]
  refine hD _ ?_
  clear hD hK D K
  refine AW_cond rfl (fun h => AW_skip ?_) (fun h => AW_exit ?_)
  · have hge : ¬ u.toNat < 128 := by
      have : (u.toNat : Int) ≥ 128 := by simpa using h
      omega
    rw [vint_ge hge] at hc
    have hcl : c.length + 1 ≤ (wInt n).length := by rw [← hc]; simp
    have c1 : (c.length ≤ 4294967295) = True := eq_true (by omega)
    simp only [seqQ]
    refine AW_block ?_
    refine AW_reg TB (fun D K hD hK => ?_)
    simp only [AwS, TS, AwD, aval, aIndex, aSlice, aLen, BN, BW, BS, Int.cast_ofNat_Int, spl, splice, bind, ↓reduceIte, simprocAttr, d_rem_128, d_add_128, c_64_8, low7, c1]
    refine hD _ ?_
    clear hD hK D K
    refine AW_regl TB (fun D K hD hK => ?_)
    simp only [AwS, TS, AwD, aval, aIndex, aSlice, aLen, BN, BW, BS, Int.cast_ofNat_Int, spl, splice, bind, ↓reduceIte, simprocAttr, d_quo_128]
    refine hD _ ?_
    clear hD hK D K
    simp only [blockQ, loopQ]
    refine ⟨(c ++ [u.toUInt8 ||| 128], shr64 u 7), [(0, 65)], by rw [← hc]; simp, shr7_lt hge, ?_⟩
    refine ⟨rfl, by simp [riF, alook, AV.map, AVs.map, bws_map], ⟨rfl, rfl⟩, ?_, ?_, by simp [riF], by simp [riF, nmap], ?_⟩
    · simp [riF, alook, AV.map, AVs.map, nmap, AVs_map_append, ivs_map, yvs_map, bws_map]
    · simp [riF, blook, AV.map, AVs.map, nmap, AVs_map_append, ivs_map, yvs_map, bws_map]
    · intro k hk
      have hk2 : k < 0 := hk
      omega
  · have hlt : u.toNat < 128 := by
      have : ¬ (u.toNat : Int) ≥ 128 := by simpa using h
      omega
    rw [vint_lt hlt] at hc
    have hcl : c.length + 1 = (wInt n).length := by rw [← hc]; simp
    have c1 : (c.length ≤ 4294967295) = True := eq_true (by omega)
    refine hK0 _ ?_
    refine AW_reg TB (fun D K hD hK => ?_)
    simp only [AwS, TS, AwD, aval, aIndex, aSlice, aLen, BN, BW, BS, Int.cast_ofNat_Int, spl, splice, bind, ↓reduceIte, simprocAttr, c_64_8, c1]
    refine hD _ ?_
    clear hD hK D K
    refine AW_ret ?_
    simp only [Ret]
    exact ret_sl _ _ _ _ _ rfl rfl rfl (fun f => by rw [AVs_map_append, bws_map]; rfl) (by rw [← hc]; simp)

theorem rbytes_spec (p : List UInt8) (hl : p.length ≤ 100000000) : Spec Tryd.prog [] 71 [sv (strOf p)] [] (fun o => o = .ret (.sl 0 0 (wBytes p).length 1 (some 5)) [] [(wBytes p).map bw]) := by
  refine spec_of TB 9 [.tmp 2] Tryd.func71 rfl rfl rfl (Nat.le_of_ble_eq_true rfl) ?_
  intro X w0 E0 hE hX
  simp only [idx, List.map_nil, List.length_nil]
  have hw := wInt_len p.length
  refine AW_reg TB (fun D K hD hK => ?_)
  simp only [AwS, TS, AwD, aval, aIndex, aSlice, aLen, BN, BW, BS, Int.cast_ofNat_Int, spl, splice, bind, ↓reduceIte, simprocAttr]
  refine hD _ ?_
  clear hD hK D K
  refine AW_reg TB (fun D K hD hK => ?_)
  simp only [AwS, TS, AwD, aval, aIndex, aSlice, aLen, BN, BW, BS, Int.cast_ofNat_Int, spl, splice, bind, ↓reduceIte, simprocAttr, str_size]
  refine hK _ _ ?_
  clear hD hK D K
  refine AL_callD rfl rfl rfl rfl en_106 (rint_spec p.length (by omega) (by omega)) [] [] rfl (by simp) (by simp) ?_ (by simp) (by simp) rfl (by simp) ?_
  · simp [evs, St.ev, cav, alook, lendA, lentBx, lendC, blook, AVs.map, AV.map, ioMap]
  have c1 : ((wInt p.length).length + p.length ≤ 4294967296) = True := by simp; omega
  have tk : List.take p.length (p.map bw) = p.map bw := List.take_of_length_le (by simp)
  refine AL_runR TB _ _ (fun D K hD hK => ?_)
  simp only [AwS, TS, AwD, aval, aIndex, aSlice, aLen, BN, BW, BS, Int.cast_ofNat_Int, spl, splice, bind, ↓reduceIte, simprocAttr, bws_map, str_size, str_data, u8_bw, bws_cell, c1, tk]
  refine hD _ ?_
  clear hD hK D K
  refine AW_ret ?_
  simp only [Ret]
  exact ret_sl _ _ _ _ _ rfl rfl rfl (fun f => by rw [AVs_map_append, bws_map, bws_map]) (by simp [wBytes])

end Go.Proofs.YtgbpgplkhifgiaaDoor

/- The walks of bootchainref02's word, words and rot. No condition. -/
set_option linter.unusedVariables false
set_option linter.unusedSimpArgs false
set_option maxRecDepth 100000
namespace Go.Proofs.YtgbpgplkhifgiaaDoor
open Go Go.RowKit

theorem b_sub (x y : UInt8) : binI .sub .u8 (x.toNat : Int) (y.toNat : Int) = some (.int .u8 ((x - y).toNat : Int)) := by
  have h : IntKind.u8.wrap ((x.toNat : Int) - (y.toNat : Int)) = ((x - y).toNat : Int) := by
    have := lt8 x; have := lt8 y
    rw [UInt8.toNat_sub]
    simp only [IntKind.wrap, IntKind.signed, IntKind.bits]
    simp
    omega
  simp only [binI, h]
theorem b_add (x y : UInt8) : binI .add .u8 (x.toNat : Int) (y.toNat : Int) = some (.int .u8 ((x + y).toNat : Int)) := by
  simp only [binI]
  rw [← Int.natCast_add, wr8, UInt8.toNat_add]
theorem w_mul (x y : UInt32) : binI .mul .u32 (x.toNat : Int) (y.toNat : Int) = some (.int .u32 ((x * y).toNat : Int)) := by
  simp only [binI]
  rw [← Int.natCast_mul, wr32, UInt32.toNat_mul]
theorem b_sub_48 (x : UInt8) : binI .sub .u8 (x.toNat : Int) 48 = some (.int .u8 ((x - 48).toNat : Int)) := b_sub x 48
theorem b_sub_97 (x : UInt8) : binI .sub .u8 (x.toNat : Int) 97 = some (.int .u8 ((x - 97).toNat : Int)) := b_sub x 97
theorem b_add_10 (x : UInt8) : binI .add .u8 (x.toNat : Int) 10 = some (.int .u8 ((x + 10).toNat : Int)) := b_add x 10
theorem w_mul_16 (x : UInt32) : binI .mul .u32 16 (x.toNat : Int) = some (.int .u32 ((16 * x).toNat : Int)) := w_mul 16 x

def hexv (c : UInt8) : UInt8 := if 97 ≤ c.toNat then c - 97 + 10 else c - 48
/-- The first k digits of word i of a hexadecimal text. -/
def wordN (s : List UInt8) (i : Nat) : Nat → UInt32
  | 0 => 0
  | k + 1 => 16 * wordN s i k + (hexv (s.getD (8 * i + k) 0)).toUInt32

def wordF (s : ByteArray) (l : List UInt8) (i k : Nat) : St := { nt := 36, nx := 0, tm := [(6, iv ((8 * i + k : Nat) : Int)), (5, ww (wordN l i k)), (0, sv s), (1, iv (i : Nat))], bx := [], gl := [], df := [] }

theorem word_spec (s : ByteArray) (i : Nat) (hl : 8 * i + 8 ≤ s.data.toList.length) (hi : i ≤ 1000) :
    Spec Tryd.prog [] 124 [sv s, iv (i : Nat)] [] (fun o => o = .ret (ww (wordN s.data.toList i 8)) [] []) := by
  refine spec_of TB 36 [.tmp 4] Tryd.func124 rfl rfl rfl (Nat.le_of_ble_eq_true rfl) ?_
  intro X w0 E0 hE hX
  have w1 : IntKind.i64.wrap (8 * (i : Int)) = ((8 * i : Nat) : Int) := by rw [wrap_i64 (by omega) (by omega)]; omega
  have w3 : IntKind.i64.wrap (((8 * i : Nat) : Int) + 8) = ((8 * i + 8 : Nat) : Int) := by rw [wrap_i64 (by omega) (by omega)]; omega
  simp only [idx, List.map_nil, List.length_nil]
  refine AW_reg TB (fun D K hD hK => ?_)
  simp only [AwS, TS, AwD, aval, aIndex, aSlice, aLen, BN, BW, BS, Int.cast_ofNat_Int, spl, splice, bind, ↓reduceIte, simprocAttr]
  refine hD _ ?_
  clear hD hK D K
  refine AW_reg TB (fun D K hD hK => ?_)
  simp only [AwS, TS, AwD, aval, aIndex, aSlice, aLen, BN, BW, BS, Int.cast_ofNat_Int, spl, splice, bind, ↓reduceIte, simprocAttr]
  refine hD _ ?_
  clear hD hK D K
  refine AW_seqk (fun K0 hK0 => ?_)
  refine AW_reg TB (fun D K hD hK => ?_)
  simp only [AwS, TS, AwD, aval, aIndex, aSlice, aLen, BN, BW, BS, Int.cast_ofNat_Int, spl, splice, bind, ↓reduceIte, simprocAttr, w1]
  refine hD _ ?_
  clear hD hK D K
  refine AW_block ?_
  refine AW_loop (wordF s s.data.toList i) (fun k => k ≤ 8) (fun k => 8 - k) hE 0 [] (by omega) ?_ ?_
  · refine ⟨rfl, by simp [wordF, wordN, alook, AV.map, AVs.map], ⟨rfl, rfl⟩, ?_, ?_, by simp [wordF, wordN], by simp [wordF, wordN, nmap], ?_⟩
    · simp [wordF, wordN, alook, AV.map, AVs.map, nmap, AVs_map_append, ivs_map, yvs_map]
    · simp [wordF, wordN, blook, AV.map, AVs.map, nmap, AVs_map_append, ivs_map, yvs_map]
    · intro k hk
      have hk2 : k < 0 := hk
      omega
  intro k hk
  simp only [wordF]
  refine AW_seq ?_
  refine AW_reg TB (fun D K hD hK => ?_)
  simp only [AwS, TS, AwD, aval, aIndex, aSlice, aLen, BN, BW, BS, Int.cast_ofNat_Int, spl, splice, bind, ↓reduceIte, simprocAttr, w1, w3]
  refine hD _ ?_
  clear hD hK D K
  refine AW_cond rfl (fun h => AW_skip ?_) (fun h => AW_exit ?_)
  · have hlt : k < 8 := by
      have : (((8 * i + k : Nat) : Int) < ((8 * i + 8 : Nat) : Int)) := of_decide_eq_true h
      omega
    have w2 : IntKind.i64.wrap (((8 * i + k : Nat) : Int) + 1) = ((8 * i + (k + 1) : Nat) : Int) := by rw [wrap_i64 (by omega) (by omega)]; omega
    have x1 : (0 ≤ ((8 * i + k : Nat) : Int)) = True := eq_true (by omega)
    have g1 : s.data.toList[8 * i + k]? = some (s.data.toList.getD (8 * i + k) 0) := by
      rw [List.getElem?_eq_getElem (by omega), List.getD_eq_getElem?_getD, List.getElem?_eq_getElem (by omega)]
      rfl
    have hN : wordN s.data.toList i (k + 1) = 16 * wordN s.data.toList i k + (hexv (s.data.toList.getD (8 * i + k) 0)).toUInt32 := rfl
    generalize s.data.toList.getD (8 * i + k) 0 = c at *
    simp only [seqQ]
    refine AW_seqk (fun K1 hK1 => ?_)
    refine AW_block ?_
    refine AW_reg TB (fun D K hD hK => ?_)
    simp only [AwS, TS, AwD, aval, aIndex, aSlice, aLen, BN, BW, BS, Int.cast_ofNat_Int, spl, splice, bind, ↓reduceIte, simprocAttr, x1, g1, Int.toNat_natCast, b_sub_48]
    refine hD _ ?_
    clear hD hK D K
    refine AW_seqk (fun K2 hK2 => ?_)
    refine AW_reg TB (fun D K hD hK => ?_)
    simp only [AwS, TS, AwD, aval, aIndex, aSlice, aLen, BN, BW, BS, Int.cast_ofNat_Int, spl, splice, bind, ↓reduceIte, simprocAttr, x1, g1, Int.toNat_natCast]
    refine hD _ ?_
    clear hD hK D K
    refine AW_cond rfl (fun h6 => ?_) (fun h6 => AW_skip ?_)
    · have hx : hexv c = c - 97 + 10 := if_pos (by
        have : (97 : Int) ≤ (c.toNat : Int) := by simpa using h6
        omega)
      refine AW_regl TB (fun D K hD hK => ?_)
      simp only [AwS, TS, AwD, aval, aIndex, aSlice, aLen, BN, BW, BS, Int.cast_ofNat_Int, spl, splice, bind, ↓reduceIte, simprocAttr, x1, g1, Int.toNat_natCast, b_sub_97, b_add_10]
      refine hD _ ?_
      clear hD hK D K
      refine hK2 _ ?_
      refine AW_regl TB (fun D K hD hK => ?_)
      simp only [AwS, TS, AwD, aval, aIndex, aSlice, aLen, BN, BW, BS, Int.cast_ofNat_Int, spl, splice, bind, ↓reduceIte, simprocAttr, w_mul_16, c_8_32]
      refine hD _ ?_
      clear hD hK D K
      simp only [blockQ]
      refine hK1 _ ?_
      refine AW_regl TB (fun D K hD hK => ?_)
      simp only [AwS, TS, AwD, aval, aIndex, aSlice, aLen, BN, BW, BS, Int.cast_ofNat_Int, spl, splice, bind, ↓reduceIte, simprocAttr, w2]
      refine hD _ ?_
      clear hD hK D K
      refine ⟨k + 1, [], by omega, by dsimp only; omega, ?_⟩
      refine ⟨rfl, by simp [wordF, alook, AV.map, AVs.map, hN, hx], ⟨rfl, rfl⟩, ?_, ?_, by simp [wordF], by simp [wordF, nmap], ?_⟩
      · simp [wordF, alook, AV.map, AVs.map, nmap, AVs_map_append, ivs_map, yvs_map, hN, hx]
      · simp [wordF, blook, AV.map, AVs.map, nmap, AVs_map_append, ivs_map, yvs_map, hN, hx]
      · intro k hk
        have hk2 : k < 0 := hk
        omega
    · have hx : hexv c = c - 48 := if_neg (by
        have : (c.toNat : Int) < 97 := by simpa using h6
        omega)
      refine hK2 _ ?_
      refine AW_regl TB (fun D K hD hK => ?_)
      simp only [AwS, TS, AwD, aval, aIndex, aSlice, aLen, BN, BW, BS, Int.cast_ofNat_Int, spl, splice, bind, ↓reduceIte, simprocAttr, w_mul_16, c_8_32]
      refine hD _ ?_
      clear hD hK D K
      simp only [blockQ]
      refine hK1 _ ?_
      refine AW_regl TB (fun D K hD hK => ?_)
      simp only [AwS, TS, AwD, aval, aIndex, aSlice, aLen, BN, BW, BS, Int.cast_ofNat_Int, spl, splice, bind, ↓reduceIte, simprocAttr, w2]
      refine hD _ ?_
      clear hD hK D K
      refine ⟨k + 1, [], by omega, by dsimp only; omega, ?_⟩
      refine ⟨rfl, by simp [wordF, alook, AV.map, AVs.map, hN, hx], ⟨rfl, rfl⟩, ?_, ?_, by simp [wordF], by simp [wordF, nmap], ?_⟩
      · simp [wordF, alook, AV.map, AVs.map, nmap, AVs_map_append, ivs_map, yvs_map, hN, hx]
      · simp [wordF, blook, AV.map, AVs.map, nmap, AVs_map_append, ivs_map, yvs_map, hN, hx]
      · intro k hk
        have hk2 : k < 0 := hk
        omega
  · have hge : k = 8 := by
      have : ¬ (((8 * i + k : Nat) : Int) < ((8 * i + 8 : Nat) : Int)) := of_decide_eq_false h
      omega
    subst hge
    refine hK0 _ ?_
    refine AW_reg TB (fun D K hD hK => ?_)
    simp only [AwS, TS, AwD, aval, aIndex, aSlice, aLen, BN, BW, BS, Int.cast_ofNat_Int, spl, splice, bind, ↓reduceIte, simprocAttr]
    refine hD _ ?_
    clear hD hK D K
    refine AW_ret ?_
    simp only [Ret, blockQ, kQ, loopQ, seqQ, scopeQ, ↓reduceIte]
    exact retp (ww (wordN s.data.toList i 8)) rfl rfl rfl rfl

def wordsL (s : List UInt8) (n : Nat) : List UInt32 := (List.range n).map fun i => wordN s i 8
theorem wordsL_succ (s : List UInt8) (n : Nat) : wordsL s (n + 1) = wordsL s n ++ [wordN s n 8] := by simp [wordsL, List.range_succ]
theorem wordsL_len (s : List UInt8) (n : Nat) : (wordsL s n).length = n := by simp [wordsL]

def wordsF (s : ByteArray) (l : List UInt8) (n i : Nat) : St := { nt := 19, nx := 1, tm := [(6, iv (i : Nat)), (5, .sl 0 0 i 1 (some 25)), (0, sv s), (1, iv (n : Nat))], bx := [(0, some ((wordsL l i).map ww))], gl := [], df := [] }

theorem words_spec (s : ByteArray) (n : Nat) (hl : 8 * n ≤ s.data.toList.length) (hn : n ≤ 1000) :
    Spec Tryd.prog [] 107 [sv s, iv (n : Nat)] [] (fun o => o = .ret (.sl 0 0 n 1 (some 25)) [] [(wordsL s.data.toList n).map ww]) := by
  refine spec_of TB 19 [.tmp 4] Tryd.func107 rfl rfl rfl (Nat.le_of_ble_eq_true rfl) ?_
  intro X w0 E0 hE hX
  simp only [idx, List.map_nil, List.length_nil]
  refine AW_reg TB (fun D K hD hK => ?_)
  simp only [AwS, TS, AwD, aval, aIndex, aSlice, aLen, BN, BW, BS, Int.cast_ofNat_Int, spl, splice, bind, ↓reduceIte, simprocAttr]
  refine hD _ ?_
  clear hD hK D K
  refine AW_reg TB (fun D K hD hK => ?_)
  simp only [AwS, TS, AwD, aval, aIndex, aSlice, aLen, BN, BW, BS, Int.cast_ofNat_Int, spl, splice, bind, ↓reduceIte, simprocAttr]
  refine hD _ ?_
  clear hD hK D K
  refine AW_seqk (fun K0 hK0 => ?_)
  refine AW_reg TB (fun D K hD hK => ?_)
  simp only [AwS, TS, AwD, aval, aIndex, aSlice, aLen, BN, BW, BS, Int.cast_ofNat_Int, spl, splice, bind, ↓reduceIte, simprocAttr]
  refine hD _ ?_
  clear hD hK D K
  refine AW_block ?_
  refine AW_loop (wordsF s s.data.toList n) (fun i => i ≤ n) (fun i => n - i) hE 0 [(0, 8)] (by omega) ?_ ?_
  · refine ⟨rfl, by simp [wordsF, wordsL, alook, AV.map, AVs.map, wws_map], ⟨rfl, rfl⟩, ?_, ?_, by simp [wordsF, wordsL], by simp [wordsF, wordsL, nmap], ?_⟩
    · simp [wordsF, wordsL, alook, AV.map, AVs.map, nmap, AVs_map_append, ivs_map, yvs_map, wws_map]
    · simp [wordsF, wordsL, blook, AV.map, AVs.map, nmap, AVs_map_append, ivs_map, yvs_map, wws_map]
    · intro k hk
      have hk2 : k < 0 := hk
      omega
  intro i hi
  simp only [wordsF]
  refine AW_seq ?_
  refine AW_reg TB (fun D K hD hK => ?_)
  simp only [AwS, TS, AwD, aval, aIndex, aSlice, aLen, BN, BW, BS, Int.cast_ofNat_Int, spl, splice, bind, ↓reduceIte, simprocAttr]
  refine hD _ ?_
  clear hD hK D K
  refine AW_cond rfl (fun h => AW_skip ?_) (fun h => AW_exit ?_)
  · have hlt : i < n := by simpa using h
    have w2 : IntKind.i64.wrap ((i : Int) + 1) = (i : Int) + 1 := wrap_i64 (by omega) (by omega)
    have c1 : (i ≤ 4294967295) = True := eq_true (by omega)
    have hs := wordsL_succ s.data.toList i
    have hwl := wordsL_len s.data.toList i
    have sp := word_spec s i (by omega) (by omega)
    generalize wordN s.data.toList i 8 = c at *
    simp only [seqQ]
    refine AW_seqk (fun K1 hK1 => ?_)
    refine AW_block ?_
    refine AW_regl TB (fun D K hD hK => ?_)
    simp only [AwS, TS, AwD, aval, aIndex, aSlice, aLen, BN, BW, BS, Int.cast_ofNat_Int, spl, splice, bind, ↓reduceIte, simprocAttr]
    refine hK _ _ ?_
    clear hD hK D K
    refine AL_callP rfl rfl rfl rfl en_124 sp [] ?_ (by simp) rfl rfl ?_
    · simp [evs, St.ev, cav, alook, lendA, lentBx, lendC, blook, AVs.map, AV.map, ioMap]
    refine AL_runR TB _ _ (fun D K hD hK => ?_)
    simp only [AwS, TS, AwD, aval, aIndex, aSlice, aLen, BN, BW, BS, Int.cast_ofNat_Int, spl, splice, bind, ↓reduceIte, simprocAttr, wws_map, c1, hwl]
    refine hD _ ?_
    clear hD hK D K
    simp only [blockQ]
    refine hK1 _ ?_
    refine AW_regl TB (fun D K hD hK => ?_)
    simp only [AwS, TS, AwD, aval, aIndex, aSlice, aLen, BN, BW, BS, Int.cast_ofNat_Int, spl, splice, bind, ↓reduceIte, simprocAttr, w2]
    refine hD _ ?_
    clear hD hK D K
    refine ⟨i + 1, [(0, 65)], by omega, by dsimp only; omega, ?_⟩
    refine ⟨rfl, by simp [wordsF, alook, AV.map, AVs.map, wws_map, hs, List.map_append], ⟨rfl, rfl⟩, ?_, ?_, by simp [wordsF], by simp [wordsF, nmap], ?_⟩
    · simp [wordsF, alook, AV.map, AVs.map, nmap, AVs_map_append, ivs_map, yvs_map, wws_map, hs, List.map_append]
    · simp [wordsF, blook, AV.map, AVs.map, nmap, AVs_map_append, ivs_map, yvs_map, wws_map, hs, List.map_append]
    · intro k hk
      have hk2 : k < 0 := hk
      omega
  · have hge : i = n := by
      have : ¬ i < n := by simpa using h
      omega
    subst hge
    refine hK0 _ ?_
    refine AW_reg TB (fun D K hD hK => ?_)
    simp only [AwS, TS, AwD, aval, aIndex, aSlice, aLen, BN, BW, BS, Int.cast_ofNat_Int, spl, splice, bind, ↓reduceIte, simprocAttr]
    refine hD _ ?_
    clear hD hK D K
    refine AW_ret ?_
    simp only [Ret]
    exact ret_sl _ _ _ _ _ rfl rfl rfl (fun f => wws_map f _) rfl
end Go.Proofs.YtgbpgplkhifgiaaDoor

/- The walks of bootchainref02's rot and compress. No condition. -/
set_option linter.unusedVariables false
set_option linter.unusedSimpArgs false
set_option maxRecDepth 100000
namespace Go.Proofs.YtgbpgplkhifgiaaDoor
open Go Go.RowKit

theorem rot_spec (x : UInt32) (k : Nat) (h0 : 0 < k) (h1 : k < 32) : Spec Tryd.prog [] 125 [ww x, iv (k : Nat)] [] (fun o => o = .ret (ww (rr x k)) [] []) := by
  refine spec_of TB 13 [.tmp 4] Tryd.func125 rfl rfl rfl (Nat.le_of_ble_eq_true rfl) ?_
  intro X w0 E0 hE hX
  have w1 : IntKind.i64.wrap (32 - (k : Int)) = ((32 - k : Nat) : Int) := by rw [wrap_i64 (by omega) (by omega)]; omega
  have hr : rr x k = shr32 x k ||| shl32 x (32 - k) := by rw [rr, UInt32.or_comm]
  rw [hr]
  simp only [idx, List.map_nil, List.length_nil]
  refine AW_reg TB (fun D K hD hK => ?_)
  simp only [AwS, TS, AwD, aval, aIndex, aSlice, aLen, BN, BW, BS, Int.cast_ofNat_Int, spl, splice, bind, ↓reduceIte, simprocAttr]
  refine hD _ ?_
  clear hD hK D K
  refine AW_dreg TB mx ([[], [], [0, 1], [], [], [4], [3, 5, 4], [2, 0, 1, 6, 3, 5, 4], [7, 2, 0, 1, 6, 3, 5, 4]]) (by kernel_rfl) (by kernel_rfl) (fun D K hD hK => ?_)
  simp only [AwS, TS, AwD, aval, aIndex, aSlice, aLen, BN, BW, BS, Int.cast_ofNat_Int, spl, splice, bind, ↓reduceIte, simprocAttr, Op.operands, Call.operands, List.toList_toArray, List.size_toArray, cmp, List.getD_cons_zero, List.getD_cons_succ, Array.toList_append, Option.toArray, List.append_toArray,  w1]
  refine hD _ ?_
  clear hD hK D K
  refine AW_ret ?_
  simp only [Ret, blockQ, kQ, loopQ, seqQ, scopeQ, ↓reduceIte]
  exact retp (ww (shr32 x k ||| shl32 x (32 - k))) rfl rfl rfl rfl

theorem shl32_bv (x : UInt32) (n : Nat) : (shl32 x n).toBitVec = x.toBitVec <<< n := by
  apply BitVec.eq_of_toNat_eq
  rw [BitVec.toNat_shiftLeft, Nat.shiftLeft_eq]
  show (UInt32.ofNat (x.toNat * 2 ^ n)).toNat = _
  rw [UInt32.toNat_ofNat']
  rfl
theorem ld4 (a b c d : UInt8) : ld [a, b, c, d] = ((shl32 a.toUInt32 24 ||| shl32 b.toUInt32 16) ||| shl32 c.toUInt32 8) ||| d.toUInt32 := by
  apply UInt32.toBitVec_inj.1
  have h0 : (0 : UInt32).toBitVec = 0#32 := rfl
  simp only [ld, List.foldl_cons, List.foldl_nil, UInt32.toBitVec_or, shl32_bv, BitVec.shiftLeft_or_distrib, ← BitVec.shiftLeft_add, h0, BitVec.zero_shiftLeft, BitVec.zero_or]

def rc1F (kv kb kk : Bool) (h : H8) (b : List UInt8) (i : Nat) : St := { nt := 256, nx := 1, tm := [(8, iv (i : Nat)), (7, .sl 0 0 64 1 (some 25)), (0, .ds kv 8 h.cs), (1, .ds kb 64 (b.map bw)), (2, .ds kk 64 (KS.map ww))], bx := [(0, some ((sched b i).map ww ++ zW (64 - i)))], gl := [], df := [] }

theorem take4 (b : List UInt8) (n : Nat) (h : n + 4 ≤ b.length) : (b.drop n).take 4 = [b.getD n 0, b.getD (n + 1) 0, b.getD (n + 2) 0, b.getD (n + 3) 0] := by
  apply List.ext_getElem?
  intro j
  rw [List.getElem?_take]
  by_cases hj : j < 4
  · rw [if_pos hj, List.getElem?_drop]
    rcases (show j = 0 ∨ j = 1 ∨ j = 2 ∨ j = 3 by omega) with rfl | rfl | rfl | rfl <;> simp [List.getElem?_eq_getElem (show n < b.length by omega), List.getElem?_eq_getElem (show n + 1 < b.length by omega), List.getElem?_eq_getElem (show n + 2 < b.length by omega), List.getElem?_eq_getElem (show n + 3 < b.length by omega)]
  · rw [if_neg hj, List.getElem?_eq_none]
    simp; omega
theorem dget (b : List UInt8) (n : Nat) (h : n < b.length) : (List.drop n (b.map bw))[0]? = some (bw (b.getD n 0)) := by simp [h]

theorem ww0 (n : Nat) : List.replicate n (AV.val (.int .u32 0)) = zW n := rfl

theorem rx2 (x : UInt32) (a b : Nat) : rx x [a, b] = rr x a ^^^ rr x b := by simp [rx]
theorem rx3 (x : UInt32) (a b c : Nat) : rx x [a, b, c] = (rr x a ^^^ rr x b) ^^^ rr x c := by simp [rx]

def rc2F (kv kb kk : Bool) (h : H8) (b : List UInt8) (i : Nat) : St := { nt := 256, nx := 1, tm := [(9, iv (i : Nat)), (7, .sl 0 0 64 1 (some 25)), (0, .ds kv 8 h.cs), (1, .ds kb 64 (b.map bw)), (2, .ds kk 64 (KS.map ww))], bx := [(0, some ((sched b i).map ww ++ zW (64 - i)))], gl := [], df := [] }

def rc3F (kv kk : Bool) (h : H8) (b : List UInt8) (i : Nat) : St :=
  { nt := 256, nx := 1, tm := [(20, iv (i : Nat)), (7, .sl 0 0 64 1 (some 25)), (0, .ds kv 8 h.cs), (2, .ds kk 64 (KS.map ww)),
      (12, ww (rnds h KS (sched b 64) i).a), (13, ww (rnds h KS (sched b 64) i).b), (14, ww (rnds h KS (sched b 64) i).c), (15, ww (rnds h KS (sched b 64) i).d),
      (16, ww (rnds h KS (sched b 64) i).e), (17, ww (rnds h KS (sched b 64) i).f), (18, ww (rnds h KS (sched b 64) i).g), (19, ww (rnds h KS (sched b 64) i).h)],
    bx := [(0, some ((sched b 64).map ww))], gl := [], df := [] }


theorem rcomp_spec (kv kb kk : Bool) (h : H8) (b : List UInt8) (hb : b.length = 64) :
    Spec Tryd.prog [] 108 [.ds kv 8 h.cs, .ds kb 64 (b.map bw), .ds kk 64 (KS.map ww)] [] (fun o => o = .ret (.sl 0 0 8 1 (some 25)) [] [(comp h b).cs]) := by
  refine spec_of TB 256 [.tmp 6] Tryd.func108 rfl rfl rfl (Nat.le_of_ble_eq_true rfl) ?_
  intro X w0 E0 hE hX
  have hKm : ∀ f : Nat → Nat, AVs.map f (KS.map ww) = KS.map ww := fun f => wws_map f _
  have hhm : ∀ f : Nat → Nat, AVs.map f h.cs = h.cs := fun f => wws_map f h.l
  simp only [idx, List.map_nil, List.length_nil]
  refine AW_reg TB (fun D K hD hK => ?_)
  simp only [AwS, TS, AwD, aval, aIndex, aSlice, aLen, BN, BW, BS, Int.cast_ofNat_Int, spl, splice, bind, ↓reduceIte, simprocAttr]
  refine hD _ ?_
  clear hD hK D K
  refine AW_reg TB (fun D K hD hK => ?_)
  simp only [AwS, TS, AwD, aval, aIndex, aSlice, aLen, BN, BW, BS, Int.cast_ofNat_Int, spl, splice, bind, ↓reduceIte, simprocAttr]
  refine hD _ ?_
  clear hD hK D K
  refine AW_seqk (fun K0 hK0 => ?_)
  refine AW_reg TB (fun D K hD hK => ?_)
  simp only [AwS, TS, AwD, aval, aIndex, aSlice, aLen, BN, BW, BS, Int.cast_ofNat_Int, spl, splice, bind, ↓reduceIte, simprocAttr]
  refine hD _ ?_
  clear hD hK D K
  refine AW_block ?_
  refine AW_loop (rc1F kv kb kk h b) (fun i => i ≤ 16) (fun i => 16 - i) hE 0 [(0, 8)] (by omega) ?_ ?_
  · refine ⟨rfl, by simp [rc1F, alook, AV.map, AVs.map, hKm, hhm, bws_map, zW, sched], ⟨rfl, rfl⟩, ?_, ?_, by simp [rc1F], by simp [rc1F, nmap], ?_⟩
    · simp [rc1F, alook, AV.map, AVs.map, nmap, AVs_map_append, ivs_map, yvs_map, hKm, hhm, bws_map, zW, sched]
    · simp [rc1F, blook, AV.map, AVs.map, nmap, AVs_map_append, ivs_map, yvs_map, hKm, hhm, bws_map, zW, sched]
    · intro k hk
      have hk2 : k < 0 := hk
      omega
  intro i hi
  simp only [rc1F]
  refine AW_seq ?_
  refine AW_reg TB (fun D K hD hK => ?_)
  simp only [AwS, TS, AwD, aval, aIndex, aSlice, aLen, BN, BW, BS, Int.cast_ofNat_Int, spl, splice, bind, ↓reduceIte, simprocAttr]
  refine hD _ ?_
  clear hD hK D K
  refine AW_cond rfl (fun hi1 => AW_skip ?_) (fun hi1 => AW_exit ?_)
  · have hlt : i < 16 := by
      have : (i : Int) < 16 := by simpa using hi1
      omega
    have w1 : IntKind.i64.wrap ((i : Int) + 1) = (i : Int) + 1 := wrap_i64 (by omega) (by omega)
    have u0 : IntKind.i64.wrap (4 * (i : Int)) = ((4 * i : Nat) : Int) := by rw [wrap_i64 (by omega) (by omega)]; omega
    have u1 : IntKind.i64.wrap (((4 * i : Nat) : Int) + 1) = ((4 * i + 1 : Nat) : Int) := by rw [wrap_i64 (by omega) (by omega)]; omega
    have u2 : IntKind.i64.wrap (((4 * i : Nat) : Int) + 2) = ((4 * i + 2 : Nat) : Int) := by rw [wrap_i64 (by omega) (by omega)]; omega
    have u3 : IntKind.i64.wrap (((4 * i : Nat) : Int) + 3) = ((4 * i + 3 : Nat) : Int) := by rw [wrap_i64 (by omega) (by omega)]; omega
    have y0 : (0 ≤ ((4 * i : Nat) : Int) ∧ ((4 * i : Nat) : Int) < 64) = True := eq_true (by omega)
    have y1 : (0 ≤ ((4 * i + 1 : Nat) : Int) ∧ ((4 * i + 1 : Nat) : Int) < 64) = True := eq_true (by omega)
    have y2 : (0 ≤ ((4 * i + 2 : Nat) : Int) ∧ ((4 * i + 2 : Nat) : Int) < 64) = True := eq_true (by omega)
    have y3 : (0 ≤ ((4 * i + 3 : Nat) : Int) ∧ ((4 * i + 3 : Nat) : Int) < 64) = True := eq_true (by omega)
    have g0 := dget b (4 * i) (by omega)
    have g1 := dget b (4 * i + 1) (by omega)
    have g2 := dget b (4 * i + 2) (by omega)
    have g3 := dget b (4 * i + 3) (by omega)
    have hs : sched b (i + 1) = sched b i ++ [((shl32 (b.getD (4 * i) 0).toUInt32 24 ||| shl32 (b.getD (4 * i + 1) 0).toUInt32 16) ||| shl32 (b.getD (4 * i + 2) 0).toUInt32 8) ||| (b.getD (4 * i + 3) 0).toUInt32] := by
      rw [← ld4, ← take4 b (4 * i) (by omega)]
      show sched b i ++ [if i < 16 then _ else _] = _
      rw [if_pos hlt]
    have d1 : (0 ≤ (i : Int) ∧ (i : Int) < 64) = True := eq_true (by omega)
    have d2 : i + (64 - i) = 64 := by omega
    have d3 : (i + 1 ≤ 64) = True := eq_true (by omega)
    generalize b.getD (4 * i) 0 = x0 at *
    generalize b.getD (4 * i + 1) 0 = x1 at *
    generalize b.getD (4 * i + 2) 0 = x2 at *
    generalize b.getD (4 * i + 3) 0 = x3 at *
    have hset := sched_set b i (by omega) (((shl32 x0.toUInt32 24 ||| shl32 x1.toUInt32 16) ||| shl32 x2.toUInt32 8) ||| x3.toUInt32)
    simp only [seqQ]
    refine AW_seqk (fun K1 hK1 => ?_)
    refine AW_block ?_
    refine AW_dregl TB mx ([[], [], [], [], [3], [2, 4, 3], [5, 2, 4, 3], [6, 5, 2, 4, 3], [7, 6, 5, 2, 4, 3], [], [], [10], [11, 10], [9, 12, 11, 10], [13, 9, 12, 11, 10], [14, 13, 9, 12, 11, 10], [15, 14, 13, 9, 12, 11, 10], [8, 7, 6, 5, 2, 4, 3, 16, 15, 14, 13, 9, 12, 11, 10], [], [], [19], [20, 19], [18, 21, 20, 19], [22, 18, 21, 20, 19], [23, 22, 18, 21, 20, 19], [24, 23, 22, 18, 21, 20, 19], [17, 8, 7, 6, 5, 2, 4, 3, 16, 15, 14, 13, 9, 12, 11, 10, 25, 24, 23, 22, 18, 21, 20, 19], [], [], [28], [29, 28], [27, 30, 29, 28], [31, 27, 30, 29, 28], [32, 31, 27, 30, 29, 28], [26, 17, 8, 7, 6, 5, 2, 4, 3, 16, 15, 14, 13, 9, 12, 11, 10, 25, 24, 23, 22, 18, 21, 20, 19, 33, 32, 31, 27, 30, 29, 28], [0, 1, 2, 3, 4, 5, 6, 7, 8, 9, 10, 11, 12, 13, 14, 15, 16, 17, 18, 19, 20, 21, 22, 23, 24, 25, 26, 27, 28, 29, 30, 31, 32, 33, 34], [35, 0, 1, 2, 3, 4, 5, 6, 7, 8, 9, 10, 11, 12, 13, 14, 15, 16, 17, 18, 19, 20, 21, 22, 23, 24, 25, 26, 27, 28, 29, 30, 31, 32, 33, 34]]) (by kernel_rfl) (by kernel_rfl) (fun D K hD hK => ?_)
    simp only [AwS, TS, AwD, aval, aIndex, aSlice, aLen, BN, BW, BS, Int.cast_ofNat_Int, spl, splice, bind, ↓reduceIte, simprocAttr, Op.operands, Call.operands, List.toList_toArray, List.size_toArray, cmp, List.getD_cons_zero, List.getD_cons_succ, Array.toList_append, Option.toArray, List.append_toArray,  u0, u1, u2, u3, y0, y1, y2, y3, g0, g1, g2, g3, c_8_32, d1, d2, d3, sched_len, zW_len, hset, Int.toNat_natCast, Nat.mul_one]
    refine hD _ ?_
    clear hD hK D K
    simp only [blockQ]
    refine hK1 _ ?_
    refine AW_regl TB (fun D K hD hK => ?_)
    simp only [AwS, TS, AwD, aval, aIndex, aSlice, aLen, BN, BW, BS, Int.cast_ofNat_Int, spl, splice, bind, ↓reduceIte, simprocAttr, w1]
    refine hD _ ?_
    clear hD hK D K
    refine ⟨i + 1, [(0, 0)], by omega, by dsimp only; omega, ?_⟩
    refine ⟨rfl, by simp [rc1F, alook, AV.map, AVs.map, hKm, hhm, bws_map, wws_map, rep_map, zW, hs], ⟨rfl, rfl⟩, ?_, ?_, by simp [rc1F], by simp [rc1F, nmap], ?_⟩
    · simp [rc1F, alook, AV.map, AVs.map, nmap, AVs_map_append, ivs_map, yvs_map, hKm, hhm, bws_map, wws_map, rep_map, zW, hs]
    · simp [rc1F, blook, AV.map, AVs.map, nmap, AVs_map_append, ivs_map, yvs_map, hKm, hhm, bws_map, wws_map, rep_map, zW, hs]
    · intro k hk
      have hk2 : k < 0 := hk
      omega
  · have hge : i = 16 := by
      have : ¬ (i : Int) < 16 := by simpa using hi1
      omega
    subst hge
    refine hK0 _ ?_
    refine AW_seqk (fun K1 hK1 => ?_)
    refine AW_reg TB (fun D K hD hK => ?_)
    simp only [AwS, TS, AwD, aval, aIndex, aSlice, aLen, BN, BW, BS, Int.cast_ofNat_Int, spl, splice, bind, ↓reduceIte, simprocAttr]
    refine hD _ ?_
    clear hD hK D K
    refine AW_block ?_
    refine AW_loop (rc2F kv kb kk h b) (fun i => 16 ≤ i ∧ i ≤ 64) (fun i => 64 - i) hE 16 [(0, 0)] (by omega) ?_ ?_
    · refine ⟨rfl, by simp [rc2F, alook, AV.map, AVs.map, hKm, hhm, bws_map, wws_map, rep_map, zW], ⟨rfl, rfl⟩, ?_, ?_, by simp [rc2F], by simp [rc2F, nmap], ?_⟩
      · simp [rc2F, alook, AV.map, AVs.map, nmap, AVs_map_append, ivs_map, yvs_map, hKm, hhm, bws_map, wws_map, rep_map, zW]
      · simp [rc2F, blook, AV.map, AVs.map, nmap, AVs_map_append, ivs_map, yvs_map, hKm, hhm, bws_map, wws_map, rep_map, zW]
      · intro k hk
        have hk2 : k < 0 := hk
        omega
    rintro i ⟨hi16, hi⟩
    simp only [rc2F]
    refine AW_seq ?_
    refine AW_reg TB (fun D K hD hK => ?_)
    simp only [AwS, TS, AwD, aval, aIndex, aSlice, aLen, BN, BW, BS, Int.cast_ofNat_Int, spl, splice, bind, ↓reduceIte, simprocAttr]
    refine hD _ ?_
    clear hD hK D K
    refine AW_cond rfl (fun hi1 => AW_skip ?_) (fun hi1 => AW_exit ?_)
    · have hlt : i < 64 := by
        have : (i : Int) < 64 := by simpa using hi1
        omega
      have w1 : IntKind.i64.wrap ((i : Int) + 1) = (i : Int) + 1 := wrap_i64 (by omega) (by omega)
      have d1 : (0 ≤ (i : Int) ∧ (i : Int) < 64) = True := eq_true (by omega)
      have d2 : i + (64 - i) = 64 := by omega
      have d3 : (i + 1 ≤ 64) = True := eq_true (by omega)
      have e15 : IntKind.i64.wrap ((i : Int) - 15) = ((i - 15 : Nat) : Int) := by rw [wrap_i64 (by omega) (by omega)]; omega
      have e2 : IntKind.i64.wrap ((i : Int) - 2) = ((i - 2 : Nat) : Int) := by rw [wrap_i64 (by omega) (by omega)]; omega
      have e16 : IntKind.i64.wrap ((i : Int) - 16) = ((i - 16 : Nat) : Int) := by rw [wrap_i64 (by omega) (by omega)]; omega
      have e7 : IntKind.i64.wrap ((i : Int) - 7) = ((i - 7 : Nat) : Int) := by rw [wrap_i64 (by omega) (by omega)]; omega
      have x15 : (0 ≤ ((i - 15 : Nat) : Int) ∧ ((i - 15 : Nat) : Int) < 64) = True := eq_true (by omega)
      have x2 : (0 ≤ ((i - 2 : Nat) : Int) ∧ ((i - 2 : Nat) : Int) < 64) = True := eq_true (by omega)
      have x16 : (0 ≤ ((i - 16 : Nat) : Int) ∧ ((i - 16 : Nat) : Int) < 64) = True := eq_true (by omega)
      have x7 : (0 ≤ ((i - 7 : Nat) : Int) ∧ ((i - 7 : Nat) : Int) < 64) = True := eq_true (by omega)
      have g15 := zW_get (sched b i) (64 - i) (i - 15) (by rw [sched_len]; omega)
      have g2 := zW_get (sched b i) (64 - i) (i - 2) (by rw [sched_len]; omega)
      have g16 := zW_get (sched b i) (64 - i) (i - 16) (by rw [sched_len]; omega)
      have g7 := zW_get (sched b i) (64 - i) (i - 7) (by rw [sched_len]; omega)
      have hs : sched b (i + 1) = sched b i ++ [wNew (sched b i) i] := by
        show sched b i ++ [if i < 16 then _ else _] = _
        rw [if_neg (by omega)]
      rw [wNew, rx2, rx2] at hs
      generalize (sched b i).getD (i - 15) 0 = v15 at *
      generalize (sched b i).getD (i - 2) 0 = v2 at *
      generalize (sched b i).getD (i - 16) 0 = v16 at *
      generalize (sched b i).getD (i - 7) 0 = v7 at *
      have hset := fun x => sched_set b i hlt x
      simp only [seqQ]
      refine AW_seqk (fun K2 hK2 => ?_)
      refine AW_block ?_
      refine AW_dreg TB mx ([[], [], [1], [0, 2, 1], [3, 0, 2, 1], [4, 3, 0, 2, 1], [], [], [7], [6, 8, 7], [9, 6, 8, 7], [10, 9, 6, 8, 7, 5, 4, 3, 0, 2, 1], [5, 4, 3, 0, 2, 1, 11, 10, 9, 6, 8, 7], [], [], [14], [13, 15, 14], [16, 13, 15, 14], [17, 16, 13, 15, 14], [12, 5, 4, 3, 0, 2, 1, 11, 10, 9, 6, 8, 7, 18, 17, 16, 13, 15, 14], [19, 12, 5, 4, 3, 0, 2, 1, 11, 10, 9, 6, 8, 7, 18, 17, 16, 13, 15, 14]]) (by kernel_rfl) (by kernel_rfl) (fun D K hD hK => ?_)
      simp only [AwS, TS, AwD, aval, aIndex, aSlice, aLen, BN, BW, BS, Int.cast_ofNat_Int, spl, splice, bind, ↓reduceIte, simprocAttr, Op.operands, Call.operands, List.toList_toArray, List.size_toArray, cmp, List.getD_cons_zero, List.getD_cons_succ, Array.toList_append, Option.toArray, List.append_toArray,  e15, x15, g15, Int.toNat_natCast, Nat.mul_one]
      refine hK _ _ _ _ ?_
      clear hD hK D K
      refine DL_callP rfl rfl rfl rfl rfl en_125 (rot_spec v15 7 (by omega) (by omega)) [] ?_ (by simp) rfl rfl rfl ?_
      · simp [evs, St.ev, cav, alook, lendA, lentBx, lendC, blook, AVs.map, AV.map, ioMap]
      refine DL_rest TB rfl (fun D K hD hK => ?_)
      simp only [AwS, TS, AwD, aval, aIndex, aSlice, aLen, BN, BW, BS, Int.cast_ofNat_Int, spl, splice, bind, ↓reduceIte, simprocAttr, Op.operands, Call.operands, List.toList_toArray, List.size_toArray, cmp, List.getD_cons_zero, List.getD_cons_succ, Array.toList_append, Option.toArray, List.append_toArray, e15, x15, g15, Int.toNat_natCast, Nat.mul_one]
      refine hK _ _ _ _ ?_
      clear hD hK D K
      refine DL_callP rfl rfl rfl rfl rfl en_125 (rot_spec v15 18 (by omega) (by omega)) [] ?_ (by simp) rfl rfl rfl ?_
      · simp [evs, St.ev, cav, alook, lendA, lentBx, lendC, blook, AVs.map, AV.map, ioMap]
      refine DL_rest TB rfl (fun D K hD hK => ?_)
      simp only [AwS, TS, AwD, aval, aIndex, aSlice, aLen, BN, BW, BS, Int.cast_ofNat_Int, spl, splice, bind, ↓reduceIte, simprocAttr, Op.operands, Call.operands, List.toList_toArray, List.size_toArray, cmp, List.getD_cons_zero, List.getD_cons_succ, Array.toList_append, Option.toArray, List.append_toArray, e15, x15, g15, Int.toNat_natCast, Nat.mul_one]
      refine hD _ ?_
      clear hD hK D K
      refine AW_dreg TB mx ([[], [], [1], [0, 2, 1], [3, 0, 2, 1], [4, 3, 0, 2, 1], [], [], [7], [6, 8, 7], [9, 6, 8, 7], [10, 9, 6, 8, 7, 5, 4, 3, 0, 2, 1], [5, 4, 3, 0, 2, 1, 11, 10, 9, 6, 8, 7], [], [], [14], [13, 15, 14], [16, 13, 15, 14], [17, 16, 13, 15, 14], [12, 5, 4, 3, 0, 2, 1, 11, 10, 9, 6, 8, 7, 18, 17, 16, 13, 15, 14], [19, 12, 5, 4, 3, 0, 2, 1, 11, 10, 9, 6, 8, 7, 18, 17, 16, 13, 15, 14]]) (by kernel_rfl) (by kernel_rfl) (fun D K hD hK => ?_)
      simp only [AwS, TS, AwD, aval, aIndex, aSlice, aLen, BN, BW, BS, Int.cast_ofNat_Int, spl, splice, bind, ↓reduceIte, simprocAttr, Op.operands, Call.operands, List.toList_toArray, List.size_toArray, cmp, List.getD_cons_zero, List.getD_cons_succ, Array.toList_append, Option.toArray, List.append_toArray,  e2, x2, g2, Int.toNat_natCast, Nat.mul_one]
      refine hK _ _ _ _ ?_
      clear hD hK D K
      refine DL_callP rfl rfl rfl rfl rfl en_125 (rot_spec v2 17 (by omega) (by omega)) [] ?_ (by simp) rfl rfl rfl ?_
      · simp [evs, St.ev, cav, alook, lendA, lentBx, lendC, blook, AVs.map, AV.map, ioMap]
      refine DL_rest TB rfl (fun D K hD hK => ?_)
      simp only [AwS, TS, AwD, aval, aIndex, aSlice, aLen, BN, BW, BS, Int.cast_ofNat_Int, spl, splice, bind, ↓reduceIte, simprocAttr, Op.operands, Call.operands, List.toList_toArray, List.size_toArray, cmp, List.getD_cons_zero, List.getD_cons_succ, Array.toList_append, Option.toArray, List.append_toArray, e2, x2, g2, Int.toNat_natCast, Nat.mul_one]
      refine hK _ _ _ _ ?_
      clear hD hK D K
      refine DL_callP rfl rfl rfl rfl rfl en_125 (rot_spec v2 19 (by omega) (by omega)) [] ?_ (by simp) rfl rfl rfl ?_
      · simp [evs, St.ev, cav, alook, lendA, lentBx, lendC, blook, AVs.map, AV.map, ioMap]
      refine DL_rest TB rfl (fun D K hD hK => ?_)
      simp only [AwS, TS, AwD, aval, aIndex, aSlice, aLen, BN, BW, BS, Int.cast_ofNat_Int, spl, splice, bind, ↓reduceIte, simprocAttr, Op.operands, Call.operands, List.toList_toArray, List.size_toArray, cmp, List.getD_cons_zero, List.getD_cons_succ, Array.toList_append, Option.toArray, List.append_toArray, e2, x2, g2, Int.toNat_natCast, Nat.mul_one]
      refine hD _ ?_
      clear hD hK D K
      refine AW_dregl TB mx ([[], [], [], [], [3], [2, 4, 3], [5, 2, 4, 3], [], [6, 5, 2, 4, 3, 7], [], [], [10], [9, 11, 10], [12, 9, 11, 10], [8, 6, 5, 2, 4, 3, 7, 13, 12, 9, 11, 10], [], [14, 8, 6, 5, 2, 4, 3, 7, 13, 12, 9, 11, 10, 15], [0, 1, 2, 3, 4, 5, 6, 7, 8, 9, 10, 11, 12, 13, 14, 15, 16], [17, 0, 1, 2, 3, 4, 5, 6, 7, 8, 9, 10, 11, 12, 13, 14, 15, 16]]) (by kernel_rfl) (by kernel_rfl) (fun D K hD hK => ?_)
      simp only [AwS, TS, AwD, aval, aIndex, aSlice, aLen, BN, BW, BS, Int.cast_ofNat_Int, spl, splice, bind, ↓reduceIte, simprocAttr, Op.operands, Call.operands, List.toList_toArray, List.size_toArray, cmp, List.getD_cons_zero, List.getD_cons_succ, Array.toList_append, Option.toArray, List.append_toArray,  e16, e7, x16, x7, g16, g7, d1, d2, d3, sched_len, zW_len, hset, Int.toNat_natCast, Nat.mul_one]
      refine hD _ ?_
      clear hD hK D K
      simp only [blockQ]
      refine hK2 _ ?_
      refine AW_regl TB (fun D K hD hK => ?_)
      simp only [AwS, TS, AwD, aval, aIndex, aSlice, aLen, BN, BW, BS, Int.cast_ofNat_Int, spl, splice, bind, ↓reduceIte, simprocAttr, w1]
      refine hD _ ?_
      clear hD hK D K
      refine ⟨i + 1, [(0, 0)], by omega, by dsimp only; omega, ?_⟩
      refine ⟨rfl, by simp [rc2F, alook, AV.map, AVs.map, hKm, hhm, bws_map, wws_map, rep_map, zW, hs], ⟨rfl, rfl⟩, ?_, ?_, by simp [rc2F], by simp [rc2F, nmap], ?_⟩
      · simp [rc2F, alook, AV.map, AVs.map, nmap, AVs_map_append, ivs_map, yvs_map, hKm, hhm, bws_map, wws_map, rep_map, zW, hs]
      · simp [rc2F, blook, AV.map, AVs.map, nmap, AVs_map_append, ivs_map, yvs_map, hKm, hhm, bws_map, wws_map, rep_map, zW, hs]
      · intro k hk
        have hk2 : k < 0 := hk
        omega
    · have hge : i = 64 := by
        have : ¬ (i : Int) < 64 := by simpa using hi1
        omega
      subst hge
      refine hK1 _ ?_
      have z0 : zW (64 - 64) = [] := rfl
      simp only [z0, List.append_nil]
      refine AW_keep [7, 0, 2] ?_
      simp only [List.filter_cons, List.filter_nil, AwS, TS, AwD, aval, aIndex, aSlice, aLen, BN, BW, BS, Int.cast_ofNat_Int, spl, splice, bind, ↓reduceIte, simprocAttr]
      refine AW_reg TB (fun D K hD hK => ?_)
      simp only [AwS, TS, AwD, aval, aIndex, aSlice, aLen, BN, BW, BS, Int.cast_ofNat_Int, spl, splice, bind, ↓reduceIte, simprocAttr, H8.cs]
      refine hD _ ?_
      clear hD hK D K
      refine AW_reg TB (fun D K hD hK => ?_)
      simp only [AwS, TS, AwD, aval, aIndex, aSlice, aLen, BN, BW, BS, Int.cast_ofNat_Int, spl, splice, bind, ↓reduceIte, simprocAttr]
      refine hD _ ?_
      clear hD hK D K
      refine AW_reg TB (fun D K hD hK => ?_)
      simp only [AwS, TS, AwD, aval, aIndex, aSlice, aLen, BN, BW, BS, Int.cast_ofNat_Int, spl, splice, bind, ↓reduceIte, simprocAttr]
      refine hD _ ?_
      clear hD hK D K
      refine AW_reg TB (fun D K hD hK => ?_)
      simp only [AwS, TS, AwD, aval, aIndex, aSlice, aLen, BN, BW, BS, Int.cast_ofNat_Int, spl, splice, bind, ↓reduceIte, simprocAttr]
      refine hD _ ?_
      clear hD hK D K
      refine AW_reg TB (fun D K hD hK => ?_)
      simp only [AwS, TS, AwD, aval, aIndex, aSlice, aLen, BN, BW, BS, Int.cast_ofNat_Int, spl, splice, bind, ↓reduceIte, simprocAttr]
      refine hD _ ?_
      clear hD hK D K
      refine AW_reg TB (fun D K hD hK => ?_)
      simp only [AwS, TS, AwD, aval, aIndex, aSlice, aLen, BN, BW, BS, Int.cast_ofNat_Int, spl, splice, bind, ↓reduceIte, simprocAttr]
      refine hD _ ?_
      clear hD hK D K
      refine AW_reg TB (fun D K hD hK => ?_)
      simp only [AwS, TS, AwD, aval, aIndex, aSlice, aLen, BN, BW, BS, Int.cast_ofNat_Int, spl, splice, bind, ↓reduceIte, simprocAttr]
      refine hD _ ?_
      clear hD hK D K
      refine AW_reg TB (fun D K hD hK => ?_)
      simp only [AwS, TS, AwD, aval, aIndex, aSlice, aLen, BN, BW, BS, Int.cast_ofNat_Int, spl, splice, bind, ↓reduceIte, simprocAttr]
      refine hD _ ?_
      clear hD hK D K
      refine AW_seqk (fun K2 hK2 => ?_)
      refine AW_reg TB (fun D K hD hK => ?_)
      simp only [AwS, TS, AwD, aval, aIndex, aSlice, aLen, BN, BW, BS, Int.cast_ofNat_Int, spl, splice, bind, ↓reduceIte, simprocAttr]
      refine hD _ ?_
      clear hD hK D K
      refine AW_block ?_
      refine AW_loop (rc3F kv kk h b) (fun i => i ≤ 64) (fun i => 64 - i) hE 0 [(0, 0)] (by omega) ?_ ?_
      · refine ⟨rfl, by simp [rc3F, alook, AV.map, AVs.map, hKm, hhm, bws_map, wws_map, rep_map, zW, H8.cs, rnds], ⟨rfl, rfl⟩, ?_, ?_, by simp [rc3F], by simp [rc3F, nmap], ?_⟩
        · simp [rc3F, alook, AV.map, AVs.map, nmap, AVs_map_append, ivs_map, yvs_map, hKm, hhm, bws_map, wws_map, rep_map, zW, H8.cs, rnds]
        · simp [rc3F, blook, AV.map, AVs.map, nmap, AVs_map_append, ivs_map, yvs_map, hKm, hhm, bws_map, wws_map, rep_map, zW, H8.cs, rnds]
        · intro k hk
          have hk2 : k < 0 := hk
          omega
      intro i hi
      simp only [rc3F]
      have hrn : rnds h KS (sched b 64) (i + 1) = rnd (rnds h KS (sched b 64) i) (KS.getD i 0) ((sched b 64).getD i 0) := rfl
      have hcomp : i = 64 → comp h b = (rnds h KS (sched b 64) i).add h := by
        rintro rfl
        rfl
      refine AW_seq ?_
      refine AW_reg TB (fun D K hD hK => ?_)
      simp only [AwS, TS, AwD, aval, aIndex, aSlice, aLen, BN, BW, BS, Int.cast_ofNat_Int, spl, splice, bind, ↓reduceIte, simprocAttr]
      refine hD _ ?_
      clear hD hK D K
      refine AW_cond rfl (fun hi1 => AW_skip ?_) (fun hi1 => AW_exit ?_)
      · have hlt : i < 64 := by
          have : (i : Int) < 64 := by simpa using hi1
          omega
        have w1 : IntKind.i64.wrap ((i : Int) + 1) = (i : Int) + 1 := wrap_i64 (by omega) (by omega)
        have d1 : (0 ≤ (i : Int) ∧ (i : Int) < 64) = True := eq_true (by omega)
        have gK : (List.drop i (KS.map ww))[0]? = some (ww (KS.getD i 0)) := by
          have h6 : KS.length = 64 := KS_len
          simp [show i < KS.length by omega]
        have gW := wget (sched b 64) i (by rw [sched_len]; omega)
        simp only [rnd, T1, T2, rx3] at hrn
        generalize rnds h KS (sched b 64) i = v at *
        generalize KS.getD i 0 = kk at *
        generalize (sched b 64).getD i 0 = ww1 at *
        simp only [seqQ]
        refine AW_seqk (fun K3 hK3 => ?_)
        refine AW_block ?_
        refine AW_dreg TB mx ([[], [], [1], [], [3, 2, 1], [2, 1, 4, 3], [], [6, 4, 3, 2, 1], [5, 2, 1, 4, 3, 7, 6], [0, 8, 5, 2, 1, 4, 3, 7, 6], [], [], [10, 11], [], [13], [], [14, 13, 15], [12, 10, 11, 16, 14, 13, 15], [9, 0, 8, 5, 2, 1, 4, 3, 7, 6, 17, 12, 10, 11, 16, 14, 13, 15], [], [], [19, 20], [21, 19, 20], [18, 9, 0, 8, 5, 2, 1, 4, 3, 7, 6, 17, 12, 10, 11, 16, 14, 13, 15, 22, 21, 19, 20], [], [], [24, 25], [26, 24, 25], [23, 18, 9, 0, 8, 5, 2, 1, 4, 3, 7, 6, 17, 12, 10, 11, 16, 14, 13, 15, 22, 21, 19, 20, 27, 26, 24, 25], [28, 23, 18, 9, 0, 8, 5, 2, 1, 4, 3, 7, 6, 17, 12, 10, 11, 16, 14, 13, 15, 22, 21, 19, 20, 27, 26, 24, 25]]) (by kernel_rfl) (by kernel_rfl) (fun D K hD hK => ?_)
        simp only [AwS, TS, AwD, aval, aIndex, aSlice, aLen, BN, BW, BS, Int.cast_ofNat_Int, spl, splice, bind, ↓reduceIte, simprocAttr, Op.operands, Call.operands, List.toList_toArray, List.size_toArray, cmp, List.getD_cons_zero, List.getD_cons_succ, Array.toList_append, Option.toArray, List.append_toArray,]
        refine hK _ _ _ _ ?_
        clear hD hK D K
        refine DL_callP rfl rfl rfl rfl rfl en_125 (rot_spec v.e 6 (by omega) (by omega)) [] ?_ (by simp) rfl rfl rfl ?_
        · simp [evs, St.ev, cav, alook, lendA, lentBx, lendC, blook, AVs.map, AV.map, ioMap]
        refine DL_rest TB rfl (fun D K hD hK => ?_)
        simp only [AwS, TS, AwD, aval, aIndex, aSlice, aLen, BN, BW, BS, Int.cast_ofNat_Int, spl, splice, bind, ↓reduceIte, simprocAttr, Op.operands, Call.operands, List.toList_toArray, List.size_toArray, cmp, List.getD_cons_zero, List.getD_cons_succ, Array.toList_append, Option.toArray, List.append_toArray]
        refine hK _ _ _ _ ?_
        clear hD hK D K
        refine DL_callP rfl rfl rfl rfl rfl en_125 (rot_spec v.e 11 (by omega) (by omega)) [] ?_ (by simp) rfl rfl rfl ?_
        · simp [evs, St.ev, cav, alook, lendA, lentBx, lendC, blook, AVs.map, AV.map, ioMap]
        refine DL_rest TB rfl (fun D K hD hK => ?_)
        simp only [AwS, TS, AwD, aval, aIndex, aSlice, aLen, BN, BW, BS, Int.cast_ofNat_Int, spl, splice, bind, ↓reduceIte, simprocAttr, Op.operands, Call.operands, List.toList_toArray, List.size_toArray, cmp, List.getD_cons_zero, List.getD_cons_succ, Array.toList_append, Option.toArray, List.append_toArray]
        refine hK _ _ _ _ ?_
        clear hD hK D K
        refine DL_callP rfl rfl rfl rfl rfl en_125 (rot_spec v.e 25 (by omega) (by omega)) [] ?_ (by simp) rfl rfl rfl ?_
        · simp [evs, St.ev, cav, alook, lendA, lentBx, lendC, blook, AVs.map, AV.map, ioMap]
        refine DL_rest TB rfl (fun D K hD hK => ?_)
        simp only [AwS, TS, AwD, aval, aIndex, aSlice, aLen, BN, BW, BS, Int.cast_ofNat_Int, spl, splice, bind, ↓reduceIte, simprocAttr, Op.operands, Call.operands, List.toList_toArray, List.size_toArray, cmp, List.getD_cons_zero, List.getD_cons_succ, Array.toList_append, Option.toArray, List.append_toArray, d1, gK, gW, Int.toNat_natCast, Nat.mul_one]
        refine hD _ ?_
        clear hD hK D K
        refine AW_reg TB (fun D K hD hK => ?_)
        simp only [AwS, TS, AwD, aval, aIndex, aSlice, aLen, BN, BW, BS, Int.cast_ofNat_Int, spl, splice, bind, ↓reduceIte, simprocAttr]
        refine hK _ _ ?_
        clear hD hK D K
        refine AL_callP rfl rfl rfl rfl en_125 (rot_spec v.a 2 (by omega) (by omega)) [] ?_ (by simp) rfl rfl ?_
        · simp [evs, St.ev, cav, alook, lendA, lentBx, lendC, blook, AVs.map, AV.map, ioMap]
        refine AL_runR TB _ _ (fun D K hD hK => ?_)
        simp only [AwS, TS, AwD, aval, aIndex, aSlice, aLen, BN, BW, BS, Int.cast_ofNat_Int, spl, splice, bind, ↓reduceIte, simprocAttr]
        refine hK _ _ ?_
        clear hD hK D K
        refine AL_callP rfl rfl rfl rfl en_125 (rot_spec v.a 13 (by omega) (by omega)) [] ?_ (by simp) rfl rfl ?_
        · simp [evs, St.ev, cav, alook, lendA, lentBx, lendC, blook, AVs.map, AV.map, ioMap]
        refine AL_runR TB _ _ (fun D K hD hK => ?_)
        simp only [AwS, TS, AwD, aval, aIndex, aSlice, aLen, BN, BW, BS, Int.cast_ofNat_Int, spl, splice, bind, ↓reduceIte, simprocAttr]
        refine hK _ _ ?_
        clear hD hK D K
        refine AL_callP rfl rfl rfl rfl en_125 (rot_spec v.a 22 (by omega) (by omega)) [] ?_ (by simp) rfl rfl ?_
        · simp [evs, St.ev, cav, alook, lendA, lentBx, lendC, blook, AVs.map, AV.map, ioMap]
        refine AL_runR TB _ _ (fun D K hD hK => ?_)
        simp only [AwS, TS, AwD, aval, aIndex, aSlice, aLen, BN, BW, BS, Int.cast_ofNat_Int, spl, splice, bind, ↓reduceIte, simprocAttr]
        refine hD _ ?_
        clear hD hK D K
        refine AW_reg TB (fun D K hD hK => ?_)
        simp only [AwS, TS, AwD, aval, aIndex, aSlice, aLen, BN, BW, BS, Int.cast_ofNat_Int, spl, splice, bind, ↓reduceIte, simprocAttr]
        refine hD _ ?_
        clear hD hK D K
        refine AW_reg TB (fun D K hD hK => ?_)
        simp only [AwS, TS, AwD, aval, aIndex, aSlice, aLen, BN, BW, BS, Int.cast_ofNat_Int, spl, splice, bind, ↓reduceIte, simprocAttr]
        refine hD _ ?_
        clear hD hK D K
        refine AW_reg TB (fun D K hD hK => ?_)
        simp only [AwS, TS, AwD, aval, aIndex, aSlice, aLen, BN, BW, BS, Int.cast_ofNat_Int, spl, splice, bind, ↓reduceIte, simprocAttr]
        refine hD _ ?_
        clear hD hK D K
        refine AW_reg TB (fun D K hD hK => ?_)
        simp only [AwS, TS, AwD, aval, aIndex, aSlice, aLen, BN, BW, BS, Int.cast_ofNat_Int, spl, splice, bind, ↓reduceIte, simprocAttr]
        refine hD _ ?_
        clear hD hK D K
        refine AW_reg TB (fun D K hD hK => ?_)
        simp only [AwS, TS, AwD, aval, aIndex, aSlice, aLen, BN, BW, BS, Int.cast_ofNat_Int, spl, splice, bind, ↓reduceIte, simprocAttr]
        refine hD _ ?_
        clear hD hK D K
        refine AW_reg TB (fun D K hD hK => ?_)
        simp only [AwS, TS, AwD, aval, aIndex, aSlice, aLen, BN, BW, BS, Int.cast_ofNat_Int, spl, splice, bind, ↓reduceIte, simprocAttr]
        refine hD _ ?_
        clear hD hK D K
        refine AW_reg TB (fun D K hD hK => ?_)
        simp only [AwS, TS, AwD, aval, aIndex, aSlice, aLen, BN, BW, BS, Int.cast_ofNat_Int, spl, splice, bind, ↓reduceIte, simprocAttr]
        refine hD _ ?_
        clear hD hK D K
        refine AW_regl TB (fun D K hD hK => ?_)
        simp only [AwS, TS, AwD, aval, aIndex, aSlice, aLen, BN, BW, BS, Int.cast_ofNat_Int, spl, splice, bind, ↓reduceIte, simprocAttr]
        refine hD _ ?_
        clear hD hK D K
        simp only [blockQ]
        refine hK3 _ ?_
        refine AW_regl TB (fun D K hD hK => ?_)
        simp only [AwS, TS, AwD, aval, aIndex, aSlice, aLen, BN, BW, BS, Int.cast_ofNat_Int, spl, splice, bind, ↓reduceIte, simprocAttr, w1]
        refine hD _ ?_
        clear hD hK D K
        refine ⟨i + 1, [(0, 0)], by omega, by dsimp only; omega, ?_⟩
        refine ⟨rfl, by simp [rc3F, alook, AV.map, AVs.map, hKm, hhm, bws_map, wws_map, hrn], ⟨rfl, rfl⟩, ?_, ?_, by simp [rc3F], by simp [rc3F, nmap], ?_⟩
        · simp [rc3F, alook, AV.map, AVs.map, nmap, AVs_map_append, ivs_map, yvs_map, hKm, hhm, bws_map, wws_map, hrn]
        · simp [rc3F, blook, AV.map, AVs.map, nmap, AVs_map_append, ivs_map, yvs_map, hKm, hhm, bws_map, wws_map, hrn]
        · intro k hk
          have hk2 : k < 0 := hk
          omega
      · have hge : i = 64 := by
          have : ¬ (i : Int) < 64 := by simpa using hi1
          omega
        generalize rnds h KS (sched b 64) i = v at *
        refine hK2 _ ?_
        simp only [H8.cs]
        refine AW_dreg TB mx ([[], [0], [1, 0], [], [2, 1, 0, 3], [], [5], [6, 5], [], [7, 6, 5, 8], [], [10], [11, 10], [], [12, 11, 10, 13], [], [15], [16, 15], [], [17, 16, 15, 18], [], [20], [21, 20], [], [22, 21, 20, 23], [], [25], [26, 25], [], [27, 26, 25, 28], [], [30], [31, 30], [], [32, 31, 30, 33], [], [35], [36, 35], [], [37, 36, 35, 38], [4, 2, 1, 0, 3, 9, 7, 6, 5, 8, 14, 12, 11, 10, 13, 19, 17, 16, 15, 18, 24, 22, 21, 20, 23, 29, 27, 26, 25, 28, 34, 32, 31, 30, 33, 39, 37, 36, 35, 38], [40, 4, 2, 1, 0, 3, 9, 7, 6, 5, 8, 14, 12, 11, 10, 13, 19, 17, 16, 15, 18, 24, 22, 21, 20, 23, 29, 27, 26, 25, 28, 34, 32, 31, 30, 33, 39, 37, 36, 35, 38]]) (by kernel_rfl) (by kernel_rfl) (fun D K hD hK => ?_)
        simp only [AwS, TS, AwD, aval, aIndex, aSlice, aLen, BN, BW, BS, Int.cast_ofNat_Int, spl, splice, bind, ↓reduceIte, simprocAttr, Op.operands, Call.operands, List.toList_toArray, List.size_toArray, cmp, List.getD_cons_zero, List.getD_cons_succ, Array.toList_append, Option.toArray, List.append_toArray,]
        refine hD _ ?_
        clear hD hK D K
        refine AW_ret ?_
        simp only [Ret]
        refine ret_sl _ _ _ _ _ rfl rfl rfl (fun f => by simp [AVs.map, AV.map]) ?_
        show Out.ret _ [] [[ww (h.a + v.a), ww (h.b + v.b), ww (h.c + v.c), ww (h.d + v.d), ww (h.e + v.e), ww (h.f + v.f), ww (h.g + v.g), ww (h.h + v.h)]] = _
        rw [UInt32.add_comm h.a, UInt32.add_comm h.b, UInt32.add_comm h.c, UInt32.add_comm h.d, UInt32.add_comm h.e, UInt32.add_comm h.f, UInt32.add_comm h.g, UInt32.add_comm h.h, hcomp hge]
        rfl
end Go.Proofs.YtgbpgplkhifgiaaDoor

/- The walks of bootchainref02's Sum. No condition. -/
set_option linter.unusedVariables false
set_option linter.unusedSimpArgs false
set_option maxRecDepth 100000
namespace Go.Proofs.YtgbpgplkhifgiaaDoor
open Go Go.RowKit

def rpadF (k : Bool) (b : List UInt8) (i : Nat) : St := { nt := 74, nx := 2, tm := [(3, .sl 1 0 (padC b i).length 1 (some 5)), (2, .ptr 0 0), (0, .ds k b.length (b.map bw))], bx := [(0, some (zB 32)), (1, some ((padC b i).map bw))], gl := [], df := [] }

/-- The bits of the length, as far as they are there: j bytes are missing. -/
def rbitF (k : Bool) (b : List UInt8) (q : List UInt8 × Nat) : St := { nt := 74, nx := 2, tm := [(5, iv ((q.2 : Int) - 1)), (4, dw (8 * wordOf b.length)), (3, .sl 1 0 q.1.length 1 (some 5)), (2, .ptr 0 0)], bx := [(0, some (zB 32)), (1, some (q.1.map bw))], gl := [], df := [] }

theorem d_shr_n (x : UInt64) (n : Nat) (k : IntKind) : aBin .shr (.int .u64 (x.toNat : Int)) (.int k ((n : Nat) : Int)) = some (.int .u64 ((shr64 x n).toNat : Int)) := d_shr x k n

abbrev firstS : ByteArray := ⟨#[54, 97, 48, 57, 101, 54, 54, 55, 98, 98, 54, 55, 97, 101, 56, 53, 51, 99, 54, 101, 102, 51, 55, 50, 97, 53, 52, 102, 102, 53, 51, 97, 53, 49, 48, 101, 53, 50, 55, 102, 57, 98, 48, 53, 54, 56, 56, 99, 49, 102, 56, 51, 100, 57, 97, 98, 53, 98, 101, 48, 99, 100, 49, 57]⟩
abbrev constS : ByteArray := ⟨(((List.append [52, 50, 56, 97, 50, 102, 57, 56, 55, 49, 51, 55, 52, 52, 57, 49, 98, 53, 99, 48, 102, 98, 99, 102, 101, 57, 98, 53, 100, 98, 97, 53, 51, 57, 53, 54, 99, 50, 53, 98, 53, 57, 102, 49, 49, 49, 102, 49, 57, 50, 51, 102, 56, 50, 97, 52, 97, 98, 49, 99, 53, 101, 100, 53] [100, 56, 48, 55, 97, 97, 57, 56, 49, 50, 56, 51, 53, 98, 48, 49, 50, 52, 51, 49, 56, 53, 98, 101, 53, 53, 48, 99, 55, 100, 99, 51, 55, 50, 98, 101, 53, 100, 55, 52, 56, 48, 100, 101, 98, 49, 102, 101, 57, 98, 100, 99, 48, 54, 97, 55, 99, 49, 57, 98, 102, 49, 55, 52]).append (List.append [101, 52, 57, 98, 54, 57, 99, 49, 101, 102, 98, 101, 52, 55, 56, 54, 48, 102, 99, 49, 57, 100, 99, 54, 50, 52, 48, 99, 97, 49, 99, 99, 50, 100, 101, 57, 50, 99, 54, 102, 52, 97, 55, 52, 56, 52, 97, 97, 53, 99, 98, 48, 97, 57, 100, 99, 55, 54, 102, 57, 56, 56, 100, 97] [57, 56, 51, 101, 53, 49, 53, 50, 97, 56, 51, 49, 99, 54, 54, 100, 98, 48, 48, 51, 50, 55, 99, 56, 98, 102, 53, 57, 55, 102, 99, 55, 99, 54, 101, 48, 48, 98, 102, 51, 100, 53, 97, 55, 57, 49, 52, 55, 48, 54, 99, 97, 54, 51, 53, 49, 49, 52, 50, 57, 50, 57, 54, 55])).append ((List.append [50, 55, 98, 55, 48, 97, 56, 53, 50, 101, 49, 98, 50, 49, 51, 56, 52, 100, 50, 99, 54, 100, 102, 99, 53, 51, 51, 56, 48, 100, 49, 51, 54, 53, 48, 97, 55, 51, 53, 52, 55, 54, 54, 97, 48, 97, 98, 98, 56, 49, 99, 50, 99, 57, 50, 101, 57, 50, 55, 50, 50, 99, 56, 53] [97, 50, 98, 102, 101, 56, 97, 49, 97, 56, 49, 97, 54, 54, 52, 98, 99, 50, 52, 98, 56, 98, 55, 48, 99, 55, 54, 99, 53, 49, 97, 51, 100, 49, 57, 50, 101, 56, 49, 57, 100, 54, 57, 57, 48, 54, 50, 52, 102, 52, 48, 101, 51, 53, 56, 53, 49, 48, 54, 97, 97, 48, 55, 48]).append (List.append [49, 57, 97, 52, 99, 49, 49, 54, 49, 101, 51, 55, 54, 99, 48, 56, 50, 55, 52, 56, 55, 55, 52, 99, 51, 52, 98, 48, 98, 99, 98, 53, 51, 57, 49, 99, 48, 99, 98, 51, 52, 101, 100, 56, 97, 97, 52, 97, 53, 98, 57, 99, 99, 97, 52, 102, 54, 56, 50, 101, 54, 102, 102, 51] [55, 52, 56, 102, 56, 50, 101, 101, 55, 56, 97, 53, 54, 51, 54, 102, 56, 52, 99, 56, 55, 56, 49, 52, 56, 99, 99, 55, 48, 50, 48, 56, 57, 48, 98, 101, 102, 102, 102, 97, 97, 52, 53, 48, 54, 99, 101, 98, 98, 101, 102, 57, 97, 51, 102, 55, 99, 54, 55, 49, 55, 56, 102, 50]))).toArray⟩
theorem first_words : wordsL firstS.data.toList 8 = HS.l := by decide
theorem const_words : wordsL constS.data.toList 64 = KS := by decide +kernel
theorem const_len : 8 * 64 ≤ constS.data.toList.length := by decide +kernel

def rcmF (b : List UInt8) (j : Nat) : St := { nt := 74, nx := 4, tm := [(8, iv ((64 * j : Nat) : Int)), (7, .sl 3 0 64 1 (some 25)), (6, .sl 2 0 8 1 (some 25)), (3, .sl 1 0 (padS b).length 1 (some 5)), (2, .ptr 0 0)], bx := [(0, some (zB 32)), (1, some ((padS b).map bw)), (2, some (foldC HS (padS b) j).cs), (3, some (KS.map ww))], gl := [], df := [] }

theorem foldC_succ (h : H8) (m : List UInt8) (j : Nat) : foldC h m (j + 1) = comp (foldC h m j) ((m.drop (64 * j)).take 64) := rfl
theorem shr64_32 (x : UInt32) (n : Nat) : (shr64 x.toUInt64 n).toUInt8 = (shr32 x n).toUInt8 := by
  apply UInt8.toNat_inj.1
  have := lt32 x
  have h1 : x.toUInt64.toNat = x.toNat := by simp
  have h2 : x.toNat / 2 ^ n ≤ x.toNat := Nat.div_le_self _ _
  have a1 : x.toNat / 2 ^ n % 2 ^ 64 = x.toNat / 2 ^ n := Nat.mod_eq_of_lt (by generalize x.toNat / 2 ^ n = q at *; omega)
  have a2 : x.toNat / 2 ^ n % 2 ^ 32 = x.toNat / 2 ^ n := Nat.mod_eq_of_lt (by generalize x.toNat / 2 ^ n = q at *; omega)
  simp only [shr64, shr32, UInt64.toNat_toUInt8, UInt32.toNat_toUInt8, UInt64.toNat_ofNat', UInt32.toNat_ofNat', h1]
  rw [a1, a2]
theorem outS_get (h : H8) (i : Nat) (hi : i < 32) : (outS h.l).getD i 0 = (shr32 (h.l.getD (i / 4) 0) (24 - 8 * (i % 4))).toUInt8 := by
  have e : ∀ x : UInt32, stB x.toUInt64 4 = [(shr32 x 24).toUInt8, (shr32 x 16).toUInt8, (shr32 x 8).toUInt8, (shr32 x 0).toUInt8] := by
    intro x
    simp only [stB, shr64_32]
  have e2 : outS h.l = [(shr32 h.a 24).toUInt8, (shr32 h.a 16).toUInt8, (shr32 h.a 8).toUInt8, (shr32 h.a 0).toUInt8, (shr32 h.b 24).toUInt8, (shr32 h.b 16).toUInt8, (shr32 h.b 8).toUInt8, (shr32 h.b 0).toUInt8,
      (shr32 h.c 24).toUInt8, (shr32 h.c 16).toUInt8, (shr32 h.c 8).toUInt8, (shr32 h.c 0).toUInt8, (shr32 h.d 24).toUInt8, (shr32 h.d 16).toUInt8, (shr32 h.d 8).toUInt8, (shr32 h.d 0).toUInt8,
      (shr32 h.e 24).toUInt8, (shr32 h.e 16).toUInt8, (shr32 h.e 8).toUInt8, (shr32 h.e 0).toUInt8, (shr32 h.f 24).toUInt8, (shr32 h.f 16).toUInt8, (shr32 h.f 8).toUInt8, (shr32 h.f 0).toUInt8,
      (shr32 h.g 24).toUInt8, (shr32 h.g 16).toUInt8, (shr32 h.g 8).toUInt8, (shr32 h.g 0).toUInt8, (shr32 h.h 24).toUInt8, (shr32 h.h 16).toUInt8, (shr32 h.h 8).toUInt8, (shr32 h.h 0).toUInt8] := by
    simp only [outS, H8.l, List.flatMap_cons, List.flatMap_nil, e, List.cons_append, List.nil_append]
  rw [e2]
  have hc : i = 0 ∨ i = 1 ∨ i = 2 ∨ i = 3 ∨ i = 4 ∨ i = 5 ∨ i = 6 ∨ i = 7 ∨ i = 8 ∨ i = 9 ∨ i = 10 ∨ i = 11 ∨ i = 12 ∨ i = 13 ∨ i = 14 ∨ i = 15 ∨ i = 16 ∨ i = 17 ∨ i = 18 ∨ i = 19 ∨ i = 20 ∨ i = 21 ∨ i = 22 ∨ i = 23 ∨ i = 24 ∨ i = 25 ∨ i = 26 ∨ i = 27 ∨ i = 28 ∨ i = 29 ∨ i = 30 ∨ i = 31 := by omega
  rcases hc with rfl | rfl | rfl | rfl | rfl | rfl | rfl | rfl | rfl | rfl | rfl | rfl | rfl | rfl | rfl | rfl | rfl | rfl | rfl | rfl | rfl | rfl | rfl | rfl | rfl | rfl | rfl | rfl | rfl | rfl | rfl | rfl <;> rfl

theorem zB_set (w : List UInt8) (n : Nat) (x : UInt8) (hw : w.length < n) : ((w.map bw) ++ zB (n - w.length)).set w.length (bw x) = (w ++ [x]).map bw ++ zB (n - (w.length + 1)) := by
  rw [List.set_append_right _ _ (by simp), show n - w.length = (n - (w.length + 1)) + 1 by omega]
  simp [zB, List.replicate_succ]

def routF (h : H8) (i : Nat) : St := { nt := 74, nx := 3, tm := [(10, iv (i : Nat)), (9, .ptr 2 0), (6, .sl 1 0 8 1 (some 25)), (2, .ptr 0 0)], bx := [(0, some (zB 32)), (1, some h.cs), (2, some (((outS h.l).take i).map bw ++ zB (32 - i)))], gl := [], df := [] }

theorem rsum_spec (b : List UInt8) (k : Bool) (hl : b.length ≤ 100000000) : Spec Tryd.prog [] 73 [.ds k b.length (b.map bw)] [] (fun o => o = .ret (.agg ((sum b).map bw)) [] []) := by
  refine spec_of TB 74 [.cell 2 128] Tryd.func73 rfl rfl rfl (Nat.le_of_ble_eq_true rfl) ?_
  intro X w0 E0 hE hX
  have hX0 : ∀ g, ¬ X g := fun g hg => by obtain ⟨q, hq, _⟩ := hX g hg; simp at hq
  simp only [idx, List.map_nil, List.length_nil]
  have c0 : (b.length ≤ 4294967296) = True := eq_true (by omega)
  have c1 : (b.length + 1 ≤ 4294967296) = True := eq_true (by omega)
  have tk : List.take b.length (b.map bw) = b.map bw := List.take_of_length_le (by simp)
  refine AW_reg TB (fun D K hD hK => ?_)
  simp only [AwS, TS, AwD, aval, aIndex, aSlice, aLen, BN, BW, BS, Int.cast_ofNat_Int, spl, splice, bind, ↓reduceIte, simprocAttr, zB_eq]
  refine hD _ ?_
  clear hD hK D K
  refine AW_reg TB (fun D K hD hK => ?_)
  simp only [AwS, TS, AwD, aval, aIndex, aSlice, aLen, BN, BW, BS, Int.cast_ofNat_Int, spl, splice, bind, ↓reduceIte, simprocAttr, c0, c1, tk, bws_cell]
  refine hD _ ?_
  clear hD hK D K
  refine AW_seqk (fun K0 hK0 => ?_)
  refine AW_block ?_
  refine AW_loop (rpadF k b) (fun i => i ≤ padN b.length) (fun i => padN b.length - i) hE 0 [(0, 0), (1, 40)] (by omega) ?_ ?_
  · refine ⟨rfl, by simp [rpadF, alook, AV.map, AVs.map, bws_map, padC, zB, rep_map], ⟨rfl, rfl⟩, ?_, ?_, by simp [rpadF], by simp [rpadF, nmap], ?_⟩
    · simp [rpadF, alook, AV.map, AVs.map, nmap, AVs_map_append, ivs_map, yvs_map, bws_map, padC, zB, rep_map]
    · simp [rpadF, blook, AV.map, AVs.map, nmap, AVs_map_append, ivs_map, yvs_map, bws_map, padC, zB, rep_map]
    · intro k hk
      have hk2 : k < 0 := hk
      omega
  intro i hi
  simp only [rpadF]
  have hcl := padC_len b i
  generalize hc : padC b i = c at hcl
  have hcm : (c.length : Int).tmod 64 = ((c.length % 64 : Nat) : Int) := rfl
  refine AW_seq ?_
  refine AW_reg TB (fun D K hD hK => ?_)
  simp only [AwS, TS, AwD, aval, aIndex, aSlice, aLen, BN, BW, BS, Int.cast_ofNat_Int, spl, splice, bind, ↓reduceIte, simprocAttr, hcm]
  refine hD _ ?_
  clear hD hK D K
  refine AW_cond rfl (fun hi1 => AW_skip ?_) (fun hi1 => AW_exit ?_)
  · have hne : c.length % 64 ≠ 56 := by
      intro h56
      rw [h56] at hi1
      simp at hi1
    have hlt : i < padN b.length := by
      rcases Nat.lt_or_ge i (padN b.length) with h1 | h1
      · exact h1
      · exfalso
        have : i = padN b.length := by omega
        apply hne
        rw [hcl, this]
        simp only [padN]
        omega
    have hp : padN b.length < 64 := by simp only [padN]; omega
    simp only [seqQ]
    refine AW_block ?_
    have c2 : (c.length ≤ 4294967295) = True := eq_true (by omega)
    refine AW_regl TB (fun D K hD hK => ?_)
    simp only [AwS, TS, AwD, aval, aIndex, aSlice, aLen, BN, BW, BS, Int.cast_ofNat_Int, spl, splice, bind, ↓reduceIte, simprocAttr, c2]
    refine hD _ ?_
    clear hD hK D K
    simp only [blockQ, loopQ]
    refine ⟨i + 1, [(0, 0), (1, 50)], by omega, by dsimp only; omega, ?_⟩
    refine ⟨rfl, by simp [rpadF, alook, AV.map, AVs.map, bws_map, zB, rep_map, padC_succ, hc], ⟨rfl, rfl⟩, ?_, ?_, by simp [rpadF], by simp [rpadF, nmap], ?_⟩
    · simp [rpadF, alook, AV.map, AVs.map, nmap, AVs_map_append, ivs_map, yvs_map, bws_map, zB, rep_map, padC_succ, hc]
    · simp [rpadF, blook, AV.map, AVs.map, nmap, AVs_map_append, ivs_map, yvs_map, bws_map, zB, rep_map, padC_succ, hc]
    · intro k hk
      have hk2 : k < 0 := hk
      omega
  · have heq : c.length % 64 = 56 := by
      have h1 : ¬ (¬ ((c.length % 64 : Nat) : Int) = 56) := by simpa using hi1
      omega
    have hi2 : i = padN b.length := by
      simp only [padN] at hi ⊢
      omega
    have hm : padS b = c ++ stB (8 * wordOf b.length) 8 := by
      rw [← hc, hi2]
      rfl
    have hp : padN b.length < 64 := by simp only [padN]; omega
    refine hK0 _ ?_
    refine AW_reg TB (fun D K hD hK => ?_)
    simp only [AwS, TS, AwD, aval, aIndex, aSlice, aLen, BN, BW, BS, Int.cast_ofNat_Int, spl, splice, bind, ↓reduceIte, simprocAttr, c_i_64, d_mul_8]
    refine hD _ ?_
    clear hD hK D K
    refine AW_seqk (fun K1 hK1 => ?_)
    refine AW_reg TB (fun D K hD hK => ?_)
    simp only [AwS, TS, AwD, aval, aIndex, aSlice, aLen, BN, BW, BS, Int.cast_ofNat_Int, spl, splice, bind, ↓reduceIte, simprocAttr]
    refine hD _ ?_
    clear hD hK D K
    refine AW_block ?_
    refine AW_loop (rbitF k b) (fun q => q.2 ≤ 8 ∧ q.1 ++ stB (8 * wordOf b.length) q.2 = padS b) (fun q => q.2) hE (c, 8) [(0, 0), (1, 1)] ⟨by omega, by rw [hm]⟩ ?_ ?_
    · refine ⟨rfl, by simp [rbitF, alook, AV.map, AVs.map, bws_map, zB, rep_map], ⟨rfl, rfl⟩, ?_, ?_, by simp [rbitF], by simp [rbitF, nmap], ?_⟩
      · simp [rbitF, alook, AV.map, AVs.map, nmap, AVs_map_append, ivs_map, yvs_map, bws_map, zB, rep_map]
      · simp [rbitF, blook, AV.map, AVs.map, nmap, AVs_map_append, ivs_map, yvs_map, bws_map, zB, rep_map]
      · intro k hk
        have hk2 : k < 0 := hk
        omega
    rintro ⟨a, j⟩ ⟨hj, ha⟩
    simp only at hj ha
    simp only [rbitF]
    have hml : (padS b).length = c.length + 8 := by rw [hm]; simp [stB_len]
    have hal : a.length ≤ (padS b).length := by rw [← ha]; simp
    refine AW_seq ?_
    refine AW_reg TB (fun D K hD hK => ?_)
    simp only [AwS, TS, AwD, aval, aIndex, aSlice, aLen, BN, BW, BS, Int.cast_ofNat_Int, spl, splice, bind, ↓reduceIte, simprocAttr]
    refine hD _ ?_
    clear hD hK D K
    refine AW_cond rfl (fun hi1 => AW_skip ?_) (fun hi1 => AW_exit ?_)
    · obtain ⟨j, rfl⟩ : ∃ j', j = j' + 1 := by
        have : (j : Int) - 1 ≥ 0 := by simpa using hi1
        exact ⟨j - 1, by omega⟩
      have u1 : ((j + 1 : Nat) : Int) - 1 = ((j : Nat) : Int) := by omega
      have u2 : IntKind.i64.wrap (8 * ((j : Nat) : Int)) = ((8 * j : Nat) : Int) := by rw [wrap_i64 (by omega) (by omega)]; omega
      have u3 : IntKind.i64.wrap (((j : Nat) : Int) - 1) = ((j : Nat) : Int) - 1 := wrap_i64 (by omega) (by omega)
      have c2 : (a.length ≤ 4294967295) = True := eq_true (by omega)
      have hst : stB (8 * wordOf b.length) (j + 1) = (shr64 (8 * wordOf b.length) (8 * j)).toUInt8 :: stB (8 * wordOf b.length) j := rfl
      rw [hst] at ha
      simp only [seqQ, u1]
      refine AW_seqk (fun K2 hK2 => ?_)
      refine AW_block ?_
      refine AW_regl TB (fun D K hD hK => ?_)
      simp only [AwS, TS, AwD, aval, aIndex, aSlice, aLen, BN, BW, BS, Int.cast_ofNat_Int, spl, splice, bind, ↓reduceIte, simprocAttr, u2, d_shr_n, c_64_8, c2]
      refine hD _ ?_
      clear hD hK D K
      simp only [blockQ]
      refine hK2 _ ?_
      refine AW_regl TB (fun D K hD hK => ?_)
      simp only [AwS, TS, AwD, aval, aIndex, aSlice, aLen, BN, BW, BS, Int.cast_ofNat_Int, spl, splice, bind, ↓reduceIte, simprocAttr, u3]
      refine hD _ ?_
      clear hD hK D K
      refine ⟨(a ++ [(shr64 (8 * wordOf b.length) (8 * j)).toUInt8], j), [(0, 0), (1, 74)], ⟨by dsimp only; omega, by rw [← ha]; simp⟩, by dsimp only; omega, ?_⟩
      refine ⟨rfl, by simp [rbitF, alook, AV.map, AVs.map, bws_map, zB, rep_map], ⟨rfl, rfl⟩, ?_, ?_, by simp [rbitF], by simp [rbitF, nmap], ?_⟩
      · simp [rbitF, alook, AV.map, AVs.map, nmap, AVs_map_append, ivs_map, yvs_map, bws_map, zB, rep_map]
      · simp [rbitF, blook, AV.map, AVs.map, nmap, AVs_map_append, ivs_map, yvs_map, bws_map, zB, rep_map]
      · intro k hk
        have hk2 : k < 0 := hk
        omega
    · have hj0 : j = 0 := by
        have : ¬ (j : Int) - 1 ≥ 0 := by simpa using hi1
        omega
      subst hj0
      have ham : a = padS b := by rw [← ha]; simp [stB]
      subst ham
      have hm64 := padS_len b
      refine hK1 _ ?_
      refine AW_reg TB (fun D K hD hK => ?_)
      simp only [AwS, TS, AwD, aval, aIndex, aSlice, aLen, BN, BW, BS, Int.cast_ofNat_Int, spl, splice, bind, ↓reduceIte, simprocAttr]
      refine hK _ _ ?_
      clear hD hK D K
      refine AL_call rfl rfl rfl rfl en_107 (words_spec firstS 8 (by decide) (by omega)) [] [] rfl (by simp) (by simp) ?_ (by simp) (by simp) (by simp) (fun x io' nb hR _ => ?_) (fun v io2 hR _ => by simp at hR)
      · simp [evs, St.ev, cav, alook, lendA, lentBx, lendC, blook, AVs.map, AV.map, ioMap]
        trace_state
      simp only [Out.ret.injEq] at hR
      obtain ⟨rfl, rfl, rfl⟩ := hR
      refine ⟨rfl, by simp, ?_⟩
      rw [first_words]
      refine AL_runR TB _ _ (fun D K hD hK => ?_)
      simp only [AwS, TS, AwD, aval, aIndex, aSlice, aLen, BN, BW, BS, Int.cast_ofNat_Int, spl, splice, bind, ↓reduceIte, simprocAttr, wws_map]
      refine hD _ ?_
      clear hD hK D K
      refine AW_reg TB (fun D K hD hK => ?_)
      simp only [AwS, TS, AwD, aval, aIndex, aSlice, aLen, BN, BW, BS, Int.cast_ofNat_Int, spl, splice, bind, ↓reduceIte, simprocAttr]
      refine hK _ _ ?_
      clear hD hK D K
      refine AL_call rfl rfl rfl rfl en_107 (words_spec constS 64 const_len (by omega)) [] [] rfl (by simp) (by simp) rfl (by simp) (by simp) (by simp) (fun x io' nb hR _ => ?_) (fun v io2 hR _ => by simp at hR)
      simp only [Out.ret.injEq] at hR
      obtain ⟨rfl, rfl, rfl⟩ := hR
      refine ⟨rfl, by simp, ?_⟩
      rw [const_words]
      refine AL_runR TB _ _ (fun D K hD hK => ?_)
      simp only [AwS, TS, AwD, aval, aIndex, aSlice, aLen, BN, BW, BS, Int.cast_ofNat_Int, spl, splice, bind, ↓reduceIte, simprocAttr, wws_map]
      refine hD _ ?_
      clear hD hK D K
      refine AW_seqk (fun K2 hK2 => ?_)
      refine AW_reg TB (fun D K hD hK => ?_)
      simp only [AwS, TS, AwD, aval, aIndex, aSlice, aLen, BN, BW, BS, Int.cast_ofNat_Int, spl, splice, bind, ↓reduceIte, simprocAttr]
      refine hD _ ?_
      clear hD hK D K
      refine AW_block ?_
      refine AW_loop (rcmF b) (fun j => 64 * j ≤ (padS b).length) (fun j => (padS b).length - 64 * j) hE 0 [(0, 0), (1, 1), (2, 18), (3, 34)] (by omega) ?_ ?_
      · refine ⟨rfl, by simp [rcmF, foldC, alook, AV.map, AVs.map, bws_map, wws_map, zB, rep_map, H8.cs, H8.l], ⟨rfl, rfl⟩, ?_, ?_, by simp [rcmF, foldC], by simp [rcmF, foldC, nmap], ?_⟩
        · simp [rcmF, foldC, alook, AV.map, AVs.map, nmap, AVs_map_append, ivs_map, yvs_map, bws_map, wws_map, zB, rep_map, H8.cs, H8.l]
        · simp [rcmF, foldC, blook, AV.map, AVs.map, nmap, AVs_map_append, ivs_map, yvs_map, bws_map, wws_map, zB, rep_map, H8.cs, H8.l]
        · intro k hk
          have hk2 : k < 0 := hk
          omega
      intro j hj
      simp only [rcmF]
      have hfs := foldC_succ HS (padS b) j
      have hsum : 64 * j = (padS b).length → sum b = outS (foldC HS (padS b) j).l := by
        intro h
        unfold sum sumH
        rw [show (padS b).length / 64 = j by omega]
      have hVm : ∀ (v : H8) (f : Nat → Nat), AVs.map f v.cs = v.cs := fun v f => wws_map f v.l
      generalize hmS : padS b = m at *
      generalize foldC HS m j = V at *
      refine AW_seq ?_
      refine AW_reg TB (fun D K hD hK => ?_)
      simp only [AwS, TS, AwD, aval, aIndex, aSlice, aLen, BN, BW, BS, Int.cast_ofNat_Int, spl, splice, bind, ↓reduceIte, simprocAttr]
      refine hD _ ?_
      clear hD hK D K
      refine AW_cond rfl (fun hi1 => AW_skip ?_) (fun hi1 => AW_exit ?_)
      · have hlt : 64 * j < m.length := by
          have : (((64 * j : Nat) : Int) < (m.length : Int)) := of_decide_eq_true hi1
          omega
        have hj64 : 64 * j + 64 ≤ m.length := by omega
        have u1 : IntKind.i64.wrap (((64 * j : Nat) : Int) + 64) = ((64 * j + 64 : Nat) : Int) := by rw [wrap_i64 (by omega) (by omega)]; omega
        have u2 : ((64 * (j + 1) : Nat) : Int) = ((64 * j + 64 : Nat) : Int) := by omega
        have y1 : (0 ≤ ((64 * j : Nat) : Int)) = True := eq_true (by omega)
        have y2 : (0 ≤ ((64 * j + 64 : Nat) : Int)) = True := eq_true (by omega)
        have y3 : (64 * j ≤ 64 * j + 64) = True := eq_true (by omega)
        have y4 : (64 * j + 64 ≤ m.length) = True := eq_true (by omega)
        have y5 : 64 * j + 64 - 64 * j = 64 := by omega
        have l64 : ((m.drop (64 * j)).take 64).length = 64 := by simp; omega
        have cs := rcomp_spec false false false V ((m.drop (64 * j)).take 64) l64
        rw [← hfs] at cs
        have lk : List.take 64 (KS.map ww) = KS.map ww := List.take_of_length_le (by simp [KS_len])
        have lv : List.take 8 V.cs = V.cs := rfl
        have lcV : ∀ f, List.map (lendC f) V.cs = V.cs := fun f => rfl
        have lcK : ∀ f, List.map (lendC f) (KS.map ww) = KS.map ww := fun f => by rw [List.map_map]; rfl
        have lcB : ∀ f (l : List UInt8), List.map (lendC f) (l.map bw) = l.map bw := fun f l => lendC_bws f l
        simp only [seqQ]
        refine AW_seqk (fun K3 hK3 => ?_)
        refine AW_block ?_
        refine AW_regl TB (fun D K hD hK => ?_)
        simp only [AwS, TS, AwD, aval, aIndex, aSlice, aLen, BN, BW, BS, Int.cast_ofNat_Int, spl, splice, bind, ↓reduceIte, simprocAttr, u1, y1, y2, y3, y4, y5, implies_true, Int.toNat_natCast]
        refine hK _ _ ?_
        clear hD hK D K
        refine AL_call rfl rfl rfl rfl en_108 cs [] [2, 1, 3] rfl (by simp) (by simp) ?_ (by simp) (by simp [blook]) (by simp) (fun x io' nb hR _ => ?_) (fun v io2 hR _ => by simp at hR)
        · simp [evs, St.ev, cav, alook, lendA, lentBx, lendC, blook, AVs.map, AV.map, ioMap, lv, lk, lcV, lcK, bws_slice, -List.map_map, lcB, hVm, wws_map, bws_map, -List.map_take, -List.map_drop]
        simp only [Out.ret.injEq] at hR
        obtain ⟨rfl, rfl, rfl⟩ := hR
        refine ⟨by simp [keptAll, AV.kept, AVs.kept, H8.cs], by simp, ?_⟩
        refine AL_runR TB _ _ (fun D K hD hK => ?_)
        simp only [AwS, TS, AwD, aval, aIndex, aSlice, aLen, BN, BW, BS, Int.cast_ofNat_Int, spl, splice, bind, ↓reduceIte, simprocAttr, hVm]
        refine hD _ ?_
        clear hD hK D K
        simp only [blockQ]
        refine hK3 _ ?_
        refine AW_regl TB (fun D K hD hK => ?_)
        simp only [AwS, TS, AwD, aval, aIndex, aSlice, aLen, BN, BW, BS, Int.cast_ofNat_Int, spl, splice, bind, ↓reduceIte, simprocAttr, u1]
        refine hD _ ?_
        clear hD hK D K
        refine ⟨j + 1, [(0, 0), (1, 1), (2, 92), (3, 3)], by omega, by dsimp only; omega, ?_⟩
        refine ⟨rfl, by simp [rcmF, alook, AV.map, AVs.map, bws_map, wws_map, zB, rep_map, hVm, u2, hmS], ⟨rfl, rfl⟩, ?_, ?_, by simp [rcmF], by simp [rcmF, nmap], ?_⟩
        · simp [rcmF, alook, AV.map, AVs.map, nmap, AVs_map_append, ivs_map, yvs_map, bws_map, wws_map, zB, rep_map, hVm, u2, hmS]
        · simp [rcmF, blook, AV.map, AVs.map, nmap, AVs_map_append, ivs_map, yvs_map, bws_map, wws_map, zB, rep_map, hVm, u2, hmS]
        · intro k hk
          have hk2 : k < 0 := hk
          omega
      · have hge : 64 * j = m.length := by
          have : ¬ (((64 * j : Nat) : Int) < (m.length : Int)) := of_decide_eq_false hi1
          omega
        refine hK2 _ ?_
        have hge0 := hge
        refine AW_reg TB (fun D K hD hK => ?_)
        simp only [AwS, TS, AwD, aval, aIndex, aSlice, aLen, BN, BW, BS, Int.cast_ofNat_Int, spl, splice, bind, ↓reduceIte, simprocAttr]
        refine hD _ ?_
        clear hD hK D K
        refine AW_seqk (fun K3 hK3 => ?_)
        refine AW_reg TB (fun D K hD hK => ?_)
        simp only [AwS, TS, AwD, aval, aIndex, aSlice, aLen, BN, BW, BS, Int.cast_ofNat_Int, spl, splice, bind, ↓reduceIte, simprocAttr]
        refine hD _ ?_
        clear hD hK D K
        refine AW_block ?_
        have e9 : ((outS V.l).take 0).map bw ++ zB (32 - 0) = zB 32 := rfl
        refine AW_loop (routF V) (fun i => i ≤ 32) (fun i => 32 - i) hE 0 [(0, 0), (1, 2), (2, 44)] (by omega) ?_ ?_
        · refine ⟨rfl, by simp [routF, e9, alook, AV.map, AVs.map, bws_map, wws_map, zB, rep_map, hVm, List.replicate], ⟨rfl, rfl⟩, ?_, ?_, by simp [routF, e9], by simp [routF, e9, nmap], ?_⟩
          · simp [routF, e9, alook, AV.map, AVs.map, nmap, AVs_map_append, ivs_map, yvs_map, bws_map, wws_map, zB, rep_map, hVm, List.replicate]
          · simp [routF, e9, blook, AV.map, AVs.map, nmap, AVs_map_append, ivs_map, yvs_map, bws_map, wws_map, zB, rep_map, hVm, List.replicate]
          · intro k hk
            have hk2 : k < 0 := hk
            omega
        intro i hi
        simp only [routF]
        have hol : (outS V.l).length = 32 := by rw [outS_len]; rfl
        refine AW_seq ?_
        refine AW_reg TB (fun D K hD hK => ?_)
        simp only [AwS, TS, AwD, aval, aIndex, aSlice, aLen, BN, BW, BS, Int.cast_ofNat_Int, spl, splice, bind, ↓reduceIte, simprocAttr]
        refine hD _ ?_
        clear hD hK D K
        refine AW_cond rfl (fun hi1 => AW_skip ?_) (fun hi1 => AW_exit ?_)
        · have hlt : i < 32 := by
            have : (i : Int) < 32 := by simpa using hi1
            omega
          have w1 : IntKind.i64.wrap ((i : Int) + 1) = (i : Int) + 1 := wrap_i64 (by omega) (by omega)
          have u1 : IntKind.i64.wrap ((i : Int).tdiv 4) = ((i / 4 : Nat) : Int) := by
            rw [show (4 : Int) = ((4 : Nat) : Int) from rfl, ← Int.ofNat_tdiv, wrap_i64 (by omega) (by omega)]
          have u2 : (i : Int).tmod 4 = ((i % 4 : Nat) : Int) := by
            rw [show (4 : Int) = ((4 : Nat) : Int) from rfl, ← Int.ofNat_tmod]
          have u3 : IntKind.i64.wrap (8 * ((i % 4 : Nat) : Int)) = ((8 * (i % 4) : Nat) : Int) := by rw [wrap_i64 (by omega) (by omega)]; omega
          have u4 : IntKind.i64.wrap (24 - ((8 * (i % 4) : Nat) : Int)) = ((24 - 8 * (i % 4) : Nat) : Int) := by rw [wrap_i64 (by omega) (by omega)]; omega
          have y1 : (0 ≤ ((i / 4 : Nat) : Int) ∧ ((i / 4 : Nat) : Int) < 8) = True := eq_true (by omega)
          have y2 : (0 ≤ (i : Int) ∧ (i : Int) < 32) = True := eq_true (by omega)
          have y3 : (i + 1 ≤ 32) = True := eq_true (by omega)
          have gV := wget V.l (i / 4) (show i / 4 < 8 by omega)
          have gV2 : V.cs[i / 4]? = some (ww (V.l.getD (i / 4) 0)) := gV
          have og := outS_get V i hlt
          have hts : (outS V.l).take (i + 1) = (outS V.l).take i ++ [(outS V.l).getD i 0] := by
            rw [List.take_succ_eq_append_getElem (by omega), List.getD_eq_getElem?_getD, List.getElem?_eq_getElem (by omega)]
            rfl
          have htl : ((outS V.l).take i).length = i := by simp; omega
          have hset := zB_set ((outS V.l).take i) 32 ((shr32 (V.l.getD (i / 4) 0) (24 - 8 * (i % 4))).toUInt8) (by omega)
          rw [htl, ← og, ← hts] at hset
          have hcl : (((outS V.l).take i).map bw ++ zB (32 - i)).length = 32 := by simp [zB, htl]; omega
          rw [og] at hset
          generalize V.l.getD (i / 4) 0 = X0 at *
          simp only [seqQ]
          refine AW_seqk (fun K4 hK4 => ?_)
          refine AW_block ?_
          refine AW_regl TB (fun D K hD hK => ?_)
          simp only [AwS, TS, AwD, aval, aIndex, aSlice, aLen, BN, BW, BS, Int.cast_ofNat_Int, spl, splice, bind, ↓reduceIte, simprocAttr, u1, u2, u3, u4, y1, y2, y3, gV2, c_32_8, hset, hcl, Int.toNat_natCast, Nat.mul_one]
          refine hD _ ?_
          clear hD hK D K
          simp only [blockQ]
          refine hK4 _ ?_
          refine AW_regl TB (fun D K hD hK => ?_)
          simp only [AwS, TS, AwD, aval, aIndex, aSlice, aLen, BN, BW, BS, Int.cast_ofNat_Int, spl, splice, bind, ↓reduceIte, simprocAttr, w1]
          refine hD _ ?_
          clear hD hK D K
          refine ⟨i + 1, [(0, 0), (1, 1), (2, 2)], by omega, by dsimp only; omega, ?_⟩
          refine ⟨rfl, by simp [routF, alook, AV.map, AVs.map, bws_map, wws_map, zB, rep_map, hVm, -List.map_take], ⟨rfl, rfl⟩, ?_, ?_, by simp [routF], by simp [routF, nmap], ?_⟩
          · simp [routF, alook, AV.map, AVs.map, nmap, AVs_map_append, ivs_map, yvs_map, bws_map, wws_map, zB, rep_map, hVm, -List.map_take]
          · simp [routF, blook, AV.map, AVs.map, nmap, AVs_map_append, ivs_map, yvs_map, bws_map, wws_map, zB, rep_map, hVm, -List.map_take]
          · intro k hk
            have hk2 : k < 0 := hk
            omega
        · have hge : i = 32 := by
            have : ¬ (i : Int) < 32 := by simpa using hi1
            omega
          subst hge
          refine hK3 _ ?_
          rw [hsum hge0]
          have ht : (outS V.l).take 32 = outS V.l := List.take_of_length_le (by omega)
          have z0 : zB (32 - 32) = [] := rfl
          simp only [ht, z0, List.append_nil]
          generalize outS V.l = O at *
          have zl : (O.map bw).length = 32 := by simp [hol]
          have zt : List.take 32 (O.map bw) = O.map bw := List.take_of_length_le (by omega)
          have zs : spl (zB 32) 0 (O.map bw) = O.map bw := spl_all (by simp [zB, hol]) (by simp [hol])
          have zz : (zB 32).length = 32 := by simp [zB]
          refine AW_reg TB (fun D K hD hK => ?_)
          simp only [AwS, TS, AwD, aval, aIndex, aSlice, aLen, BN, BW, BS, Int.cast_ofNat_Int, spl, splice, bind, ↓reduceIte, simprocAttr, zl, zt, zs, zz, bws_cell, -spl]
          refine hD _ ?_
          clear hD hK D K
          refine AW_ret ?_
          simp only [Ret]
          refine retp (.agg (O.map bw)) rfl ?_ (by simp only [AV.map, bws_map]) rfl
          simp only [resOf, resAll, resAV, AwS, TS, AwD, aval, aIndex, aSlice, aLen, BN, BW, BS, Int.cast_ofNat_Int, spl, splice, bind, ↓reduceIte, simprocAttr, zl, zt]
end Go.Proofs.YtgbpgplkhifgiaaDoor

/- The walks of bootchainref02's short, Digest and All. No condition. -/
set_option linter.unusedVariables false
set_option linter.unusedSimpArgs false
set_option maxRecDepth 100000
namespace Go.Proofs.YtgbpgplkhifgiaaDoor
open Go Go.RowKit

def rshF (h : List UInt8) (i : Nat) : St := { nt := 16, nx := 3, tm := [(4, iv (i : Nat)), (3, .ptr 2 0), (2, .ptr 1 0), (1, .ptr 0 0)], bx := [(0, some (h.map bw)), (1, some (zB 16)), (2, some ((h.take i).map bw ++ zB (16 - i)))], gl := [], df := [] }

theorem takeS (l : List UInt8) (i : Nat) (h : i < l.length) : l.take (i + 1) = l.take i ++ [l.getD i 0] := by
  rw [List.take_succ_eq_append_getElem h, List.getD_eq_getElem?_getD, List.getElem?_eq_getElem h]
  rfl
theorem bget (l : List UInt8) (i : Nat) (h : i < l.length) : (l.map bw)[i]? = some (bw (l.getD i 0)) := by simp [List.getElem?_eq_getElem h]

theorem rshort_spec (h : List UInt8) (hl : h.length = 32) : Spec Tryd.prog [] 72 [.agg (h.map bw)] [] (fun o => o = .ret (.agg ((h.take 16).map bw)) [] []) := by
  refine spec_of TB 16 [.cell 2 23] Tryd.func72 rfl rfl rfl (Nat.le_of_ble_eq_true rfl) ?_
  intro X w0 E0 hE hX
  have hml : (h.map bw).length = 32 := by simp [hl]
  simp only [idx, List.map_nil, List.length_nil]
  refine AW_reg TB (fun D K hD hK => ?_)
  simp only [AwS, TS, AwD, aval, aIndex, aSlice, aLen, BN, BW, BS, Int.cast_ofNat_Int, spl, splice, bind, ↓reduceIte, simprocAttr, hml]
  refine hD _ ?_
  clear hD hK D K
  refine AW_reg TB (fun D K hD hK => ?_)
  simp only [AwS, TS, AwD, aval, aIndex, aSlice, aLen, BN, BW, BS, Int.cast_ofNat_Int, spl, splice, bind, ↓reduceIte, simprocAttr]
  refine hD _ ?_
  clear hD hK D K
  refine AW_seqk (fun K0 hK0 => ?_)
  refine AW_reg TB (fun D K hD hK => ?_)
  simp only [AwS, TS, AwD, aval, aIndex, aSlice, aLen, BN, BW, BS, Int.cast_ofNat_Int, spl, splice, bind, ↓reduceIte, simprocAttr]
  refine hD _ ?_
  clear hD hK D K
  refine AW_block ?_
  have e9 : (h.take 0).map bw ++ zB (16 - 0) = zB 16 := rfl
  refine AW_loop (rshF h) (fun i => i ≤ 16) (fun i => 16 - i) hE 0 [(0, 0), (1, 8), (2, 24)] (by omega) ?_ ?_
  · refine ⟨rfl, by simp [rshF, e9, alook, AV.map, AVs.map, bws_map, zB, rep_map, List.replicate], ⟨rfl, rfl⟩, ?_, ?_, by simp [rshF, e9], by simp [rshF, e9, nmap], ?_⟩
    · simp [rshF, e9, alook, AV.map, AVs.map, nmap, AVs_map_append, ivs_map, yvs_map, bws_map, zB, rep_map, List.replicate]
    · simp [rshF, e9, blook, AV.map, AVs.map, nmap, AVs_map_append, ivs_map, yvs_map, bws_map, zB, rep_map, List.replicate]
    · intro k hk
      have hk2 : k < 0 := hk
      omega
  intro i hi
  simp only [rshF]
  refine AW_seq ?_
  refine AW_reg TB (fun D K hD hK => ?_)
  simp only [AwS, TS, AwD, aval, aIndex, aSlice, aLen, BN, BW, BS, Int.cast_ofNat_Int, spl, splice, bind, ↓reduceIte, simprocAttr]
  refine hD _ ?_
  clear hD hK D K
  refine AW_cond rfl (fun hi1 => AW_skip ?_) (fun hi1 => AW_exit ?_)
  · have hlt : i < 16 := by
      have : (i : Int) < 16 := by simpa using hi1
      omega
    have w1 : IntKind.i64.wrap ((i : Int) + 1) = (i : Int) + 1 := wrap_i64 (by omega) (by omega)
    have y2 : (0 ≤ (i : Int) ∧ (i : Int) < 32) = True := eq_true (by omega)
    have y1 : (0 ≤ (i : Int) ∧ (i : Int) < 16) = True := eq_true (by omega)
    have y3 : (i + 1 ≤ 16) = True := eq_true (by omega)
    have gV := bget h i (by omega)
    have hts := takeS h i (by omega)
    have htl : (h.take i).length = i := by simp; omega
    have hset := zB_set (h.take i) 16 (h.getD i 0) (by omega)
    rw [htl, ← hts] at hset
    have hcl : ((h.take i).map bw ++ zB (16 - i)).length = 16 := by simp [zB, htl]; omega
    generalize h.getD i 0 = x at *
    simp only [seqQ]
    refine AW_seqk (fun K1 hK1 => ?_)
    refine AW_block ?_
    refine AW_regl TB (fun D K hD hK => ?_)
    simp only [AwS, TS, AwD, aval, aIndex, aSlice, aLen, BN, BW, BS, Int.cast_ofNat_Int, spl, splice, bind, ↓reduceIte, simprocAttr, y1, y2, y3, gV, hset, hcl, Int.toNat_natCast, Nat.mul_one]
    refine hD _ ?_
    clear hD hK D K
    simp only [blockQ]
    refine hK1 _ ?_
    refine AW_regl TB (fun D K hD hK => ?_)
    simp only [AwS, TS, AwD, aval, aIndex, aSlice, aLen, BN, BW, BS, Int.cast_ofNat_Int, spl, splice, bind, ↓reduceIte, simprocAttr, w1]
    refine hD _ ?_
    clear hD hK D K
    refine ⟨i + 1, [(0, 0), (1, 1), (2, 2)], by omega, by dsimp only; omega, ?_⟩
    refine ⟨rfl, by simp [rshF, alook, AV.map, AVs.map, bws_map, zB, rep_map, -List.map_take], ⟨rfl, rfl⟩, ?_, ?_, by simp [rshF], by simp [rshF, nmap], ?_⟩
    · simp [rshF, alook, AV.map, AVs.map, nmap, AVs_map_append, ivs_map, yvs_map, bws_map, zB, rep_map, -List.map_take]
    · simp [rshF, blook, AV.map, AVs.map, nmap, AVs_map_append, ivs_map, yvs_map, bws_map, zB, rep_map, -List.map_take]
    · intro k hk
      have hk2 : k < 0 := hk
      omega
  · have hge : i = 16 := by
      have : ¬ (i : Int) < 16 := by simpa using hi1
      omega
    subst hge
    refine hK0 _ ?_
    have z0 : zB (16 - 16) = [] := rfl
    have hol : (h.take 16).length = 16 := by simp; omega
    simp only [z0, List.append_nil]
    generalize h.take 16 = O at *
    have zl : (O.map bw).length = 16 := by simp [hol]
    have zt : List.take 16 (O.map bw) = O.map bw := List.take_of_length_le (by omega)
    have zs : spl (zB 16) 0 (O.map bw) = O.map bw := spl_all (by simp [zB, hol]) (by simp [hol])
    have zz : (zB 16).length = 16 := by simp [zB]
    refine AW_reg TB (fun D K hD hK => ?_)
    simp only [AwS, TS, AwD, aval, aIndex, aSlice, aLen, BN, BW, BS, Int.cast_ofNat_Int, spl, splice, bind, ↓reduceIte, simprocAttr, zl, zt, zs, zz, bws_cell, -spl]
    refine hD _ ?_
    clear hD hK D K
    refine AW_ret ?_
    simp only [Ret]
    refine retp (.agg (O.map bw)) rfl ?_ (by simp only [AV.map, bws_map]) rfl
    simp only [resOf, resAll, resAV, AwS, TS, AwD, aval, aIndex, aSlice, aLen, BN, BW, BS, Int.cast_ofNat_Int, spl, splice, bind, ↓reduceIte, simprocAttr, zl, zt]

def rdgF (k : Bool) (ps : List (Bool × List UInt8)) (b : List UInt8) (i : Nat) : St :=
  { nt := 27, nx := 2, tm := [(6, iv (i : Nat)), (1, .ds k ps.length (ps.map pA)), (5, .sl 0 0 (b ++ wAll (ps.take i)).length 1 (some 5)), (4, .ptr 1 0)], bx := [(0, some ((b ++ wAll (ps.take i)).map bw)), (1, some (zB 16))], gl := [], df := [] }

theorem rdigest_spec (tag : Int) (k : Bool) (ps : List (Bool × List UInt8)) (hn : ps.length ≤ 1000) (hl : (wAll ps).length ≤ 10000000) :
    Spec Tryd.prog [] 30 [iv tag, .ds k ps.length (ps.map pA)] [] (fun o => o = .ret (.agg ((dig (byteOf tag) ps).map bw)) [] []) := by
  refine spec_of TB 27 [.cell 4 23] Tryd.func30 rfl rfl rfl (Nat.le_of_ble_eq_true rfl) ?_
  intro X w0 E0 hE hX
  simp only [idx, List.map_nil, List.length_nil]
  refine AW_reg TB (fun D K hD hK => ?_)
  simp only [AwS, TS, AwD, aval, aIndex, aSlice, aLen, BN, BW, BS, Int.cast_ofNat_Int, spl, splice, bind, ↓reduceIte, simprocAttr]
  refine hD _ ?_
  clear hD hK D K
  refine AW_reg TB (fun D K hD hK => ?_)
  simp only [AwS, TS, AwD, aval, aIndex, aSlice, aLen, BN, BW, BS, Int.cast_ofNat_Int, spl, splice, bind, ↓reduceIte, simprocAttr, c_i_8]
  refine hD _ ?_
  clear hD hK D K
  refine AW_seqk (fun K0 hK0 => ?_)
  refine AW_reg TB (fun D K hD hK => ?_)
  simp only [AwS, TS, AwD, aval, aIndex, aSlice, aLen, BN, BW, BS, Int.cast_ofNat_Int, spl, splice, bind, ↓reduceIte, simprocAttr]
  refine hD _ ?_
  clear hD hK D K
  refine AW_block ?_
  refine AW_loop (rdgF k ps [byteOf tag]) (fun i => i ≤ ps.length) (fun i => ps.length - i) hE 0 [(0, 24), (1, 0)] (by omega) ?_ ?_
  · refine ⟨rfl, by simp [rdgF, alook, AV.map, AVs.map, bws_map, pAs_map, wAll, zB, rep_map], ⟨rfl, rfl⟩, ?_, ?_, by simp [rdgF], by simp [rdgF, nmap], ?_⟩
    · simp [rdgF, alook, AV.map, AVs.map, nmap, AVs_map_append, ivs_map, yvs_map, bws_map, pAs_map, wAll, zB, rep_map]
    · simp [rdgF, blook, AV.map, AVs.map, nmap, AVs_map_append, ivs_map, yvs_map, bws_map, pAs_map, wAll, zB, rep_map]
    · intro k hk
      have hk2 : k < 0 := hk
      omega
  intro i hi
  simp only [rdgF]
  have hfin : i = ps.length → dig (byteOf tag) ps = (sum ([byteOf tag] ++ wAll (ps.take i))).take 16 := by
    rintro rfl
    rw [List.take_length]
    rfl
  have htl := wAll_take_le ps i
  generalize hc : [byteOf tag] ++ wAll (ps.take i) = c at *
  have hcl0 : c.length ≤ 10000001 := by rw [← hc]; simp; omega
  refine AW_seq ?_
  refine AW_reg TB (fun D K hD hK => ?_)
  simp only [AwS, TS, AwD, aval, aIndex, aSlice, aLen, BN, BW, BS, Int.cast_ofNat_Int, spl, splice, bind, ↓reduceIte, simprocAttr]
  refine hD _ ?_
  clear hD hK D K
  refine AW_cond rfl (fun h => AW_skip ?_) (fun h => AW_exit ?_)
  · have hlt : i < ps.length := by simpa using h
    have c1 : (0 ≤ (i : Int) ∧ (i : Int) < ps.length) = True := eq_true (by omega)
    have c2 : (List.drop i (ps.map pA))[0]? = some (.ds ps[i].1 ps[i].2.length (ps[i].2.map bw)) := by simp [hlt, pA]
    have w1 : IntKind.i64.wrap ((i : Int) + 1) = (i : Int) + 1 := wrap_i64 (by omega) (by omega)
    have hpl := part_le ps i hlt
    have htl1 := wAll_take_le ps (i + 1)
    have hsu := wAll_succ ps i hlt
    have hcl : c.length + (wBytes ps[i].2).length ≤ 100000000 := by
      rw [← hc]
      rw [hsu] at htl1
      simp at htl1 ⊢
      omega
    simp only [seqQ]
    refine AW_seqk (fun K1 hK1 => ?_)
    refine AW_block ?_
    refine AW_regl TB (fun D K hD hK => ?_)
    simp only [AwS, TS, AwD, aval, aIndex, aSlice, aLen, BN, BW, BS, Int.cast_ofNat_Int, spl, splice, bind, ↓reduceIte, simprocAttr, c1, Int.toNat_natCast, Nat.mul_one, c2, bws_take, bytesOf_bw]
    refine hK _ _ ?_
    clear hD hK D K
    refine AL_callD rfl rfl rfl rfl en_71 (rbytes_spec ps[i].2 (by omega)) [] [] rfl (by simp) (by simp) ?_ (by simp) (by simp) rfl (by simp) ?_
    · simp [evs, St.ev, cav, alook, lendA, lentBx, lendC, blook, AVs.map, AV.map, ioMap, strOf]
    have c3 : (c.length + (wBytes ps[i].2).length ≤ 4294967296) = True := eq_true (by omega)
    have tk : List.take (wBytes ps[i].2).length ((wBytes ps[i].2).map bw) = (wBytes ps[i].2).map bw := List.take_of_length_le (by simp)
    refine AL_runR TB _ _ (fun D K hD hK => ?_)
    simp only [AwS, TS, AwD, aval, aIndex, aSlice, aLen, BN, BW, BS, Int.cast_ofNat_Int, spl, splice, bind, ↓reduceIte, simprocAttr, bws_map, bws_take, bws_cell, c3, tk]
    refine hD _ ?_
    clear hD hK D K
    simp only [blockQ]
    refine hK1 _ ?_
    refine AW_regl TB (fun D K hD hK => ?_)
    simp only [AwS, TS, AwD, aval, aIndex, aSlice, aLen, BN, BW, BS, Int.cast_ofNat_Int, spl, splice, bind, ↓reduceIte, simprocAttr, w1]
    refine hD _ ?_
    clear hD hK D K
    have hc2 : [byteOf tag] ++ wAll (ps.take (i + 1)) = c ++ wBytes ps[i].2 := by rw [hsu, ← List.append_assoc, hc]
    refine ⟨i + 1, [(0, 90), (1, 1)], by omega, by dsimp only; omega, ?_⟩
    refine ⟨rfl, by simp [rdgF, alook, AV.map, AVs.map, bws_map, pAs_map, hc2, zB, rep_map], ⟨rfl, rfl⟩, ?_, ?_, by simp [rdgF], by simp [rdgF, nmap], ?_⟩
    · simp [rdgF, alook, AV.map, AVs.map, nmap, AVs_map_append, ivs_map, yvs_map, bws_map, pAs_map, hc2, zB, rep_map]
    · simp [rdgF, blook, AV.map, AVs.map, nmap, AVs_map_append, ivs_map, yvs_map, bws_map, pAs_map, hc2, zB, rep_map]
    · intro k hk
      have hk2 : k < 0 := hk
      omega
  · have hge : i = ps.length := by
      have : ¬ i < ps.length := by simpa using h
      omega
    refine hK0 _ ?_
    rw [hfin hge]
    have hsl := sum_len c
    have rs := rsum_spec c false (by omega)
    have rh := rshort_spec (sum c) hsl
    generalize sum c = h1 at *
    have hol : (h1.take 16).length = 16 := by simp; omega
    generalize h1.take 16 = O at *
    have zl : (O.map bw).length = 16 := by simp [hol]
    have zt : List.take 16 (O.map bw) = O.map bw := List.take_of_length_le (by omega)
    have zs : spl (zB 16) 0 (O.map bw) = O.map bw := spl_all (by simp [zB, hol]) (by simp [hol])
    have zz : (zB 16).length = 16 := by simp [zB]
    refine AW_reg TB (fun D K hD hK => ?_)
    simp only [AwS, TS, AwD, aval, aIndex, aSlice, aLen, BN, BW, BS, Int.cast_ofNat_Int, spl, splice, bind, ↓reduceIte, simprocAttr]
    refine hK _ _ ?_
    clear hD hK D K
    refine AL_callPW rfl (.inl rfl) rfl rfl en_73 rs [0] ?_ (by simp [blook]) (by simp [AV.kept, bws_kept]) (by simp only [AV.map, bws_map]) ?_
    · simp [evs, St.ev, cav, alook, lendA, lentBx, lendC, blook, AVs.map, AV.map, ioMap, bws_map, -List.map_map, lendC_bws, bws_take]
    refine AL_runR TB _ _ (fun D K hD hK => ?_)
    simp only [AwS, TS, AwD, aval, aIndex, aSlice, aLen, BN, BW, BS, Int.cast_ofNat_Int, spl, splice, bind, ↓reduceIte, simprocAttr]
    refine hK _ _ ?_
    clear hD hK D K
    refine AL_callPW rfl (.inl rfl) rfl rfl en_72 rh [] ?_ (by simp) rfl (by simp only [AV.map, bws_map]) ?_
    · simp [evs, St.ev, cav, alook, lendA, lentBx, lendC, blook, AVs.map, AV.map, ioMap, bws_map]
    refine AL_runR TB _ _ (fun D K hD hK => ?_)
    simp only [AwS, TS, AwD, aval, aIndex, aSlice, aLen, BN, BW, BS, Int.cast_ofNat_Int, spl, splice, bind, ↓reduceIte, simprocAttr, zl, zt, zs, zz, bws_cell, -spl]
    refine hD _ ?_
    clear hD hK D K
    refine AW_ret ?_
    simp only [Ret]
    refine retp (.agg (O.map bw)) rfl ?_ (by simp only [AV.map, bws_map]) rfl
    simp only [resOf, resAll, resAV, AwS, TS, AwD, aval, aIndex, aSlice, aLen, BN, BW, BS, Int.cast_ofNat_Int, spl, splice, bind, ↓reduceIte, simprocAttr, zl, zt]

def rallF (h : List UInt8) (i : Nat) : St := { nt := 16, nx := 2, tm := [(4, iv (i : Nat)), (3, .sl 1 0 (h.take i).length 1 (some 5)), (1, .ptr 0 0)], bx := [(0, some (h.map bw)), (1, some ((h.take i).map bw))], gl := [], df := [] }

theorem rall_spec (h : List UInt8) (hl : h.length = 32) : Spec Tryd.prog [] 162 [.agg (h.map bw)] [] (fun o => o = .ret (.sl 0 0 32 1 (some 5)) [] [h.map bw]) := by
  refine spec_of TB 16 [.tmp 2] Tryd.func162 rfl rfl rfl (Nat.le_of_ble_eq_true rfl) ?_
  intro X w0 E0 hE hX
  have hml : (h.map bw).length = 32 := by simp [hl]
  simp only [idx, List.map_nil, List.length_nil]
  refine AW_reg TB (fun D K hD hK => ?_)
  simp only [AwS, TS, AwD, aval, aIndex, aSlice, aLen, BN, BW, BS, Int.cast_ofNat_Int, spl, splice, bind, ↓reduceIte, simprocAttr, hml]
  refine hD _ ?_
  clear hD hK D K
  refine AW_reg TB (fun D K hD hK => ?_)
  simp only [AwS, TS, AwD, aval, aIndex, aSlice, aLen, BN, BW, BS, Int.cast_ofNat_Int, spl, splice, bind, ↓reduceIte, simprocAttr]
  refine hD _ ?_
  clear hD hK D K
  refine AW_seqk (fun K0 hK0 => ?_)
  refine AW_reg TB (fun D K hD hK => ?_)
  simp only [AwS, TS, AwD, aval, aIndex, aSlice, aLen, BN, BW, BS, Int.cast_ofNat_Int, spl, splice, bind, ↓reduceIte, simprocAttr]
  refine hD _ ?_
  clear hD hK D K
  refine AW_block ?_
  refine AW_loop (rallF h) (fun i => i ≤ 32) (fun i => 32 - i) hE 0 [(0, 0), (1, 16)] (by omega) ?_ ?_
  · refine ⟨rfl, by simp [rallF, alook, AV.map, AVs.map, bws_map], ⟨rfl, rfl⟩, ?_, ?_, by simp [rallF], by simp [rallF, nmap], ?_⟩
    · simp [rallF, alook, AV.map, AVs.map, nmap, AVs_map_append, ivs_map, yvs_map, bws_map]
    · simp [rallF, blook, AV.map, AVs.map, nmap, AVs_map_append, ivs_map, yvs_map, bws_map]
    · intro k hk
      have hk2 : k < 0 := hk
      omega
  intro i hi
  simp only [rallF]
  refine AW_seq ?_
  refine AW_reg TB (fun D K hD hK => ?_)
  simp only [AwS, TS, AwD, aval, aIndex, aSlice, aLen, BN, BW, BS, Int.cast_ofNat_Int, spl, splice, bind, ↓reduceIte, simprocAttr]
  refine hD _ ?_
  clear hD hK D K
  refine AW_cond rfl (fun hi1 => AW_skip ?_) (fun hi1 => AW_exit ?_)
  · have hlt : i < 32 := by
      have : (i : Int) < 32 := by simpa using hi1
      omega
    have w1 : IntKind.i64.wrap ((i : Int) + 1) = (i : Int) + 1 := wrap_i64 (by omega) (by omega)
    have y2 : (0 ≤ (i : Int) ∧ (i : Int) < 32) = True := eq_true (by omega)
    have gV := bget h i (by omega)
    have hts := takeS h i (by omega)
    have htl : (h.take i).length = i := by simp; omega
    have htl2 : (h.take (i + 1)).length = i + 1 := by simp; omega
    have c3 : (i ≤ 4294967295) = True := eq_true (by omega)
    generalize h.getD i 0 = x at *
    generalize h.take i = T at *
    simp only [seqQ, htl]
    refine AW_seqk (fun K1 hK1 => ?_)
    refine AW_block ?_
    refine AW_regl TB (fun D K hD hK => ?_)
    simp only [AwS, TS, AwD, aval, aIndex, aSlice, aLen, BN, BW, BS, Int.cast_ofNat_Int, spl, splice, bind, ↓reduceIte, simprocAttr, y2, gV, c3, htl, Int.toNat_natCast, Nat.mul_one]
    refine hD _ ?_
    clear hD hK D K
    simp only [blockQ]
    refine hK1 _ ?_
    refine AW_regl TB (fun D K hD hK => ?_)
    simp only [AwS, TS, AwD, aval, aIndex, aSlice, aLen, BN, BW, BS, Int.cast_ofNat_Int, spl, splice, bind, ↓reduceIte, simprocAttr, w1]
    refine hD _ ?_
    clear hD hK D K
    refine ⟨i + 1, [(0, 0), (1, 58)], by omega, by dsimp only; omega, ?_⟩
    refine ⟨rfl, by simp [rallF, alook, AV.map, AVs.map, bws_map, hts, htl], ⟨rfl, rfl⟩, ?_, ?_, by simp [rallF], by simp [rallF, nmap], ?_⟩
    · simp [rallF, alook, AV.map, AVs.map, nmap, AVs_map_append, ivs_map, yvs_map, bws_map, hts, htl]
    · simp [rallF, blook, AV.map, AVs.map, nmap, AVs_map_append, ivs_map, yvs_map, bws_map, hts, htl]
    · intro k hk
      have hk2 : k < 0 := hk
      omega
  · have hge : i = 32 := by
      have : ¬ (i : Int) < 32 := by simpa using hi1
      omega
    subst hge
    refine hK0 _ ?_
    have t32 : h.take 32 = h := List.take_of_length_le (by omega)
    simp only [t32, hl]
    refine AW_reg TB (fun D K hD hK => ?_)
    simp only [AwS, TS, AwD, aval, aIndex, aSlice, aLen, BN, BW, BS, Int.cast_ofNat_Int, spl, splice, bind, ↓reduceIte, simprocAttr]
    refine hD _ ?_
    clear hD hK D K
    refine AW_ret ?_
    simp only [Ret]
    exact ret_sl _ _ _ _ _ rfl rfl rfl (fun f => bws_map f _) rfl

end Go.Proofs.YtgbpgplkhifgiaaDoor
