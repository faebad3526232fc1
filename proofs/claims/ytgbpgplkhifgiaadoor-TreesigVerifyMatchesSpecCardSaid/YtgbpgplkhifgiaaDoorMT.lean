/- The walks of short, wire.Int, wire.Bytes, join and Digest. No condition. -/
import Derived.Test.YtgbpgplkhifgiaaDoorMS
import Derived.Lib.MakeNoZero
import Derived.Laws.Externs
set_option linter.unusedVariables false
set_option linter.unusedSimpArgs false
set_option maxRecDepth 100000
namespace Go.Proofs.YtgbpgplkhifgiaaDoor
open Go Go.RowKit

theorem short_spec (h : List UInt8) (hl : h.length = 32) : Spec Tryd.prog [] 110 [.agg (h.map bw)] [] (fun o => o = .ret (.agg ((h.take 16).map bw)) [] []) := by
  refine spec_of TB 6 [.cell 2 23] Tryd.func110 rfl rfl rfl (Nat.le_of_ble_eq_true rfl) ?_
  intro X w0 E0 hE hX
  simp only [idx, List.map_nil, List.length_nil]
  have l1 : (h.map bw).length = 32 := by simp [hl]
  refine AW_reg TB (fun D K hD hK => ?_)
  simp only [AwS, TS, AwD, aval, aIndex, aSlice, aLen, BN, BW, BS, Int.cast_ofNat_Int, spl, splice, bind, ↓reduceIte, simprocAttr]
  refine hD _ ?_
  clear hD hK D K
  have n1 : ((1 : Nat) ≠ 0) = True := by simp
  have q0 : List.take 16 (h.map bw) = (h.take 16).map bw := by rw [List.map_take]
  have q1 : spl (List.replicate 16 (.val (.int .u8 0))) 0 ((h.take 16).map bw) = (h.take 16).map bw := spl_all (by simp [hl]) (by simp [hl])
  simp only [List.replicate] at q1
  have q3 : ((h.take 16).map bw).length = 16 := by simp [hl]
  refine AW_reg TB (fun D K hD hK => ?_)
  simp only [AwS, TS, AwD, aval, aIndex, aSlice, aLen, BN, BW, BS, Int.cast_ofNat_Int, spl, splice, bind, ↓reduceIte, simprocAttr, l1, q0, q1, q3, n1, bws_cell, implies_true, -spl]
  refine hD _ ?_
  clear hD hK D K
  refine AW_ret ?_
  simp only [Ret]
  refine retp (.agg ((h.take 16).map bw)) rfl ?_ (by simp only [AV.map, bws_map]) rfl
  have q2 : List.take 16 ((h.take 16).map bw) = (h.take 16).map bw := List.take_of_length_le (by simp [hl])
  simp only [resOf, resAll, resAV, AwS, TS, AwD, aval, aIndex, aSlice, aLen, BN, BW, BS, Int.cast_ofNat_Int, spl, splice, bind, ↓reduceIte, simprocAttr, q2, q3]

/-- The groups of seven bits. -/
def vint (u : UInt64) : List UInt8 := if h : u.toNat < 128 then [u.toUInt8] else (u.toUInt8 ||| 128) :: vint (shr64 u 7)
termination_by u.toNat
decreasing_by
  simp only [shr64]
  rw [UInt64.toNat_ofNat', Nat.mod_eq_of_lt (Nat.lt_of_le_of_lt (Nat.div_le_self _ _) (lt64 u))]
  omega

theorem vint_lt {u : UInt64} (h : u.toNat < 128) : vint u = [u.toUInt8] := by rw [vint, dif_pos h]
theorem vint_ge {u : UInt64} (h : ¬ u.toNat < 128) : vint u = (u.toUInt8 ||| 128) :: vint (shr64 u 7) := by rw [vint, dif_neg h]

theorem shr7_lt {u : UInt64} (h : ¬ u.toNat < 128) : (shr64 u 7).toNat < u.toNat := by
  simp only [shr64]
  rw [UInt64.toNat_ofNat', Nat.mod_eq_of_lt (Nat.lt_of_le_of_lt (Nat.div_le_self _ _) (lt64 u))]
  omega

/-- The number that stands for an integer. -/
def zig (n : Int) : UInt64 := if n < 0 then ~~~ (shl64 (wordOf n) 1) else shl64 (wordOf n) 1
def wInt (n : Int) : List UInt8 := vint (zig n)

theorem b_or_128 (x : UInt8) : binI .or .u8 (x.toNat : Int) 128 = some (.int .u8 ((x ||| 128).toNat : Int)) := b_or x 128

theorem vint_len : ∀ (n : Nat) (u : UInt64), u.toNat < 2 ^ (7 * (n + 1)) → (vint u).length ≤ n + 1
  | 0, u, h => by rw [vint_lt (by simpa using h)]; simp
  | n + 1, u, h => by
    by_cases h1 : u.toNat < 128
    · rw [vint_lt h1]; simp
    · rw [vint_ge h1]
      have h2 : (shr64 u 7).toNat < 2 ^ (7 * (n + 1)) := by
        simp only [shr64]
        rw [UInt64.toNat_ofNat', Nat.mod_eq_of_lt (Nat.lt_of_le_of_lt (Nat.div_le_self _ _) (lt64 u))]
        rw [Nat.div_lt_iff_lt_mul (by omega)]
        rw [show 7 * (n + 1 + 1) = 7 * (n + 1) + 7 by omega, Nat.pow_add] at h
        exact h
      have := vint_len n _ h2
      simp
      omega

theorem wInt_len (n : Int) : (wInt n).length ≤ 10 := vint_len 9 _ (Nat.lt_of_lt_of_le (lt64 _) (by decide))

def wiF (n : Int) (q : List UInt8 × UInt64) : St := { nt := 28, nx := 1, tm := [(4, .sl 0 0 q.1.length 1 (some 5)), (3, dw q.2)], bx := [(0, some (q.1.map bw))], gl := [], df := [] }

theorem wint_spec (n : Int) (h1 : -9223372036854775808 ≤ n) (h2 : n < 9223372036854775808) : Spec Tryd.prog [] 105 [iv n] [] (fun o => o = .ret (.sl 0 0 (wInt n).length 1 (some 5)) [] [(wInt n).map bw]) := by
  refine spec_of TB 28 [.tmp 2] Tryd.func105 rfl rfl rfl (Nat.le_of_ble_eq_true rfl) ?_
  intro X w0 E0 hE hX
  simp only [idx, List.map_nil, List.length_nil]
  refine AW_reg TB (fun D K hD hK => ?_)
  simp only [AwS, TS, AwD, aval, aIndex, aSlice, aLen, BN, BW, BS, Int.cast_ofNat_Int, spl, splice, bind, ↓reduceIte, simprocAttr]
  refine hD _ ?_
  clear hD hK D K
  refine AW_scope ?_
  refine AW_reg TB (fun D K hD hK => ?_)
  simp only [AwS, TS, AwD, aval, aIndex, aSlice, aLen, BN, BW, BS, Int.cast_ofNat_Int, spl, splice, bind, ↓reduceIte, simprocAttr, c_i_64]
  refine hD _ ?_
  clear hD hK D K
  refine AW_seqk (fun K1 hK1 => ?_)
  refine AW_reg TB (fun D K hD hK => ?_)
  simp only [AwS, TS, AwD, aval, aIndex, aSlice, aLen, BN, BW, BS, Int.cast_ofNat_Int, spl, splice, bind, ↓reduceIte, simprocAttr]
  refine hD _ ?_
  clear hD hK D K
  refine AW_cond rfl (fun hn => ?_) (fun hn => AW_skip ?_)
  · have hzig : zig n = ~~~ (shl64 (wordOf n) 1) := by simp only [zig]; rw [if_pos (by simpa using hn)]
    refine AW_regl TB (fun D K hD hK => ?_)
    simp only [AwS, TS, AwD, aval, aIndex, aSlice, aLen, BN, BW, BS, Int.cast_ofNat_Int, spl, splice, bind, ↓reduceIte, simprocAttr]
    refine hD _ ?_
    clear hD hK D K
    refine hK1 _ ?_
    refine AW_reg TB (fun D K hD hK => ?_)
    simp only [AwS, TS, AwD, aval, aIndex, aSlice, aLen, BN, BW, BS, Int.cast_ofNat_Int, spl, splice, bind, ↓reduceIte, simprocAttr]
    refine hD _ ?_
    clear hD hK D K
    refine AW_seq (AW_label ?_)
    simp only [seqQ]
    refine AW_seqk (fun K2 hK2 => ?_)
    refine AW_block ?_
    refine AW_loop (wiF n) (fun q => q.1 ++ vint q.2 = wInt n) (fun q => q.2.toNat) hE ([], zig n) [(0, 80)] rfl ?_ ?_
    · refine ⟨rfl, by simp [wiF, alook, AV.map, AVs.map, bws_map, hzig], ⟨rfl, rfl⟩, ?_, ?_, by simp [wiF], by simp [wiF, nmap], ?_⟩
      · simp [wiF, alook, AV.map, AVs.map, nmap, AVs_map_append, ivs_map, yvs_map, bws_map, hzig]
      · simp [wiF, blook, AV.map, AVs.map, nmap, AVs_map_append, ivs_map, yvs_map, bws_map, hzig]
      · intro k hk
        have hk2 : k < 0 := hk
        omega
    rintro ⟨c, u⟩ hc
    simp only at hc
    simp only [wiF]
    have hwl := wInt_len n
    refine AW_block ?_
    refine AW_seq ?_
    refine AW_reg TB (fun D K hD hK => ?_)
    simp only [AwS, TS, AwD, aval, aIndex, aSlice, aLen, BN, BW, BS, Int.cast_ofNat_Int, spl, splice, bind, ↓reduceIte, simprocAttr]
    refine hD _ ?_
    clear hD hK D K
    refine AW_cond rfl (fun h => ?_) (fun h => AW_skip ?_)
    · have hlt : u.toNat < 128 := by
        have : (u.toNat : Int) < 128 := by simpa using h
        omega
      rw [vint_lt hlt] at hc
      have hcl : c.length + 1 = (wInt n).length := by rw [← hc]; simp
      have c1 : (c.length + 1 ≤ 4294967296) = True := by simp; omega
      refine AW_reg TB (fun D K hD hK => ?_)
      simp only [AwS, TS, AwD, aval, aIndex, aSlice, aLen, BN, BW, BS, Int.cast_ofNat_Int, spl, splice, bind, ↓reduceIte, simprocAttr, c_64_8, c1]
      refine hD _ ?_
      clear hD hK D K
      refine AW_exit ?_
      refine hK2 _ ?_
      refine AW_reg TB (fun D K hD hK => ?_)
      simp only [AwS, TS, AwD, aval, aIndex, aSlice, aLen, BN, BW, BS, Int.cast_ofNat_Int, spl, splice, bind, ↓reduceIte, simprocAttr]
      refine hD _ ?_
      clear hD hK D K
      refine AW_ret ?_
      simp only [Ret, scopeQ]
      exact ret_sl _ _ _ _ _ rfl rfl rfl (fun f => by rw [AVs_map_append, bws_map]; rfl) (by rw [← hc]; simp)
    · have hge : ¬ u.toNat < 128 := by
        have : ¬ (u.toNat : Int) < 128 := by simpa using h
        omega
      rw [vint_ge hge] at hc
      have hcl : c.length + 1 ≤ (wInt n).length := by rw [← hc]; simp
      have c1 : (c.length + 1 ≤ 4294967296) = True := by simp; omega
      simp only [seqQ]
      refine AW_reg TB (fun D K hD hK => ?_)
      simp only [AwS, TS, AwD, aval, aIndex, aSlice, aLen, BN, BW, BS, Int.cast_ofNat_Int, spl, splice, bind, ↓reduceIte, simprocAttr, c_64_8, c1, b_or_128]
      refine hD _ ?_
      clear hD hK D K
      refine AW_regl TB (fun D K hD hK => ?_)
      simp only [AwS, TS, AwD, aval, aIndex, aSlice, aLen, BN, BW, BS, Int.cast_ofNat_Int, spl, splice, bind, ↓reduceIte, simprocAttr]
      refine hD _ ?_
      clear hD hK D K
      refine ⟨(c ++ [u.toUInt8 ||| 128], shr64 u 7), [(0, 57)], by rw [← hc]; simp, shr7_lt hge, ?_⟩
      refine ⟨rfl, by simp [wiF, alook, AV.map, AVs.map, bws_map], ⟨rfl, rfl⟩, ?_, ?_, by simp [wiF], by simp [wiF, nmap], ?_⟩
      · simp [wiF, alook, AV.map, AVs.map, nmap, AVs_map_append, ivs_map, yvs_map, bws_map]
      · simp [wiF, blook, AV.map, AVs.map, nmap, AVs_map_append, ivs_map, yvs_map, bws_map]
      · intro k hk
        have hk2 : k < 0 := hk
        omega
  · have hzig : zig n = shl64 (wordOf n) 1 := by simp only [zig]; rw [if_neg (by simpa using hn)]
    refine hK1 _ ?_
    refine AW_reg TB (fun D K hD hK => ?_)
    simp only [AwS, TS, AwD, aval, aIndex, aSlice, aLen, BN, BW, BS, Int.cast_ofNat_Int, spl, splice, bind, ↓reduceIte, simprocAttr]
    refine hD _ ?_
    clear hD hK D K
    refine AW_seq (AW_label ?_)
    simp only [seqQ]
    refine AW_seqk (fun K2 hK2 => ?_)
    refine AW_block ?_
    refine AW_loop (wiF n) (fun q => q.1 ++ vint q.2 = wInt n) (fun q => q.2.toNat) hE ([], zig n) [(0, 56)] rfl ?_ ?_
    · refine ⟨rfl, by simp [wiF, alook, AV.map, AVs.map, bws_map, hzig], ⟨rfl, rfl⟩, ?_, ?_, by simp [wiF], by simp [wiF, nmap], ?_⟩
      · simp [wiF, alook, AV.map, AVs.map, nmap, AVs_map_append, ivs_map, yvs_map, bws_map, hzig]
      · simp [wiF, blook, AV.map, AVs.map, nmap, AVs_map_append, ivs_map, yvs_map, bws_map, hzig]
      · intro k hk
        have hk2 : k < 0 := hk
        omega
    rintro ⟨c, u⟩ hc
    simp only at hc
    simp only [wiF]
    have hwl := wInt_len n
    refine AW_block ?_
    refine AW_seq ?_
    refine AW_reg TB (fun D K hD hK => ?_)
    simp only [AwS, TS, AwD, aval, aIndex, aSlice, aLen, BN, BW, BS, Int.cast_ofNat_Int, spl, splice, bind, ↓reduceIte, simprocAttr]
    refine hD _ ?_
    clear hD hK D K
    refine AW_cond rfl (fun h => ?_) (fun h => AW_skip ?_)
    · have hlt : u.toNat < 128 := by
        have : (u.toNat : Int) < 128 := by simpa using h
        omega
      rw [vint_lt hlt] at hc
      have hcl : c.length + 1 = (wInt n).length := by rw [← hc]; simp
      have c1 : (c.length + 1 ≤ 4294967296) = True := by simp; omega
      refine AW_reg TB (fun D K hD hK => ?_)
      simp only [AwS, TS, AwD, aval, aIndex, aSlice, aLen, BN, BW, BS, Int.cast_ofNat_Int, spl, splice, bind, ↓reduceIte, simprocAttr, c_64_8, c1]
      refine hD _ ?_
      clear hD hK D K
      refine AW_exit ?_
      refine hK2 _ ?_
      refine AW_reg TB (fun D K hD hK => ?_)
      simp only [AwS, TS, AwD, aval, aIndex, aSlice, aLen, BN, BW, BS, Int.cast_ofNat_Int, spl, splice, bind, ↓reduceIte, simprocAttr]
      refine hD _ ?_
      clear hD hK D K
      refine AW_ret ?_
      simp only [Ret, scopeQ]
      exact ret_sl _ _ _ _ _ rfl rfl rfl (fun f => by rw [AVs_map_append, bws_map]; rfl) (by rw [← hc]; simp)
    · have hge : ¬ u.toNat < 128 := by
        have : ¬ (u.toNat : Int) < 128 := by simpa using h
        omega
      rw [vint_ge hge] at hc
      have hcl : c.length + 1 ≤ (wInt n).length := by rw [← hc]; simp
      have c1 : (c.length + 1 ≤ 4294967296) = True := by simp; omega
      simp only [seqQ]
      refine AW_reg TB (fun D K hD hK => ?_)
      simp only [AwS, TS, AwD, aval, aIndex, aSlice, aLen, BN, BW, BS, Int.cast_ofNat_Int, spl, splice, bind, ↓reduceIte, simprocAttr, c_64_8, c1, b_or_128]
      refine hD _ ?_
      clear hD hK D K
      refine AW_regl TB (fun D K hD hK => ?_)
      simp only [AwS, TS, AwD, aval, aIndex, aSlice, aLen, BN, BW, BS, Int.cast_ofNat_Int, spl, splice, bind, ↓reduceIte, simprocAttr]
      refine hD _ ?_
      clear hD hK D K
      refine ⟨(c ++ [u.toUInt8 ||| 128], shr64 u 7), [(0, 57)], by rw [← hc]; simp, shr7_lt hge, ?_⟩
      refine ⟨rfl, by simp [wiF, alook, AV.map, AVs.map, bws_map], ⟨rfl, rfl⟩, ?_, ?_, by simp [wiF], by simp [wiF, nmap], ?_⟩
      · simp [wiF, alook, AV.map, AVs.map, nmap, AVs_map_append, ivs_map, yvs_map, bws_map]
      · simp [wiF, blook, AV.map, AVs.map, nmap, AVs_map_append, ivs_map, yvs_map, bws_map]
      · intro k hk
        have hk2 : k < 0 := hk
        omega

end Go.Proofs.YtgbpgplkhifgiaaDoor

/- The walks of wire.Bytes, join and Digest. No condition. -/
set_option linter.unusedVariables false
set_option linter.unusedSimpArgs false
set_option maxRecDepth 100000
namespace Go.Proofs.YtgbpgplkhifgiaaDoor
open Go Go.RowKit

theorem lendC_bws (f : Nat → Option (List AV)) (l : List UInt8) : List.map (lendC f) (l.map bw) = l.map bw := by
  rw [List.map_map]; rfl

def strOf (p : List UInt8) : ByteArray := ⟨p.toArray⟩
theorem str_size (p : List UInt8) : (strOf p).size = p.length := by simp [strOf, ByteArray.size]
theorem str_data (p : List UInt8) : (strOf p).data.toList = p := by simp [strOf]
theorem bytesOf_bw (p : List UInt8) : bytesOf (p.map bw) = some p := by
  induction p with
  | nil => rfl
  | cons x p ih => simp [bytesOf, ih]

def wBytes (p : List UInt8) : List UInt8 := wInt p.length ++ p
theorem wBytes_len (p : List UInt8) : (wBytes p).length ≤ p.length + 10 := by
  have := wInt_len p.length
  simp [wBytes]; omega

theorem wbytes_spec (p : List UInt8) (hl : p.length ≤ 100000000) : Spec Tryd.prog [] 127 [sv (strOf p)] [] (fun o => o = .ret (.sl 0 0 (wBytes p).length 1 (some 5)) [] [(wBytes p).map bw]) := by
  refine spec_of TB 8 [.tmp 2] Tryd.func127 rfl rfl rfl (Nat.le_of_ble_eq_true rfl) ?_
  intro X w0 E0 hE hX
  simp only [idx, List.map_nil, List.length_nil]
  have hw := wInt_len p.length
  refine AW_reg TB (fun D K hD hK => ?_)
  simp only [AwS, TS, AwD, aval, aIndex, aSlice, aLen, BN, BW, BS, Int.cast_ofNat_Int, spl, splice, bind, ↓reduceIte, simprocAttr]
  refine hD _ ?_
  clear hD hK D K
  refine AW_reg TB (fun D K hD hK => ?_)
  simp only [AwS, TS, AwD, aval, aIndex, aSlice, aLen, BN, BW, BS, Int.cast_ofNat_Int, spl, splice, bind, ↓reduceIte, simprocAttr, str_size]
  refine hK _ _ ?_
  clear hD hK D K
  refine AL_callD rfl rfl rfl rfl en_105 (wint_spec p.length (by omega) (by omega)) [] [] rfl (by simp) (by simp) ?_ (by simp) (by simp) rfl (by simp) ?_
  · simp [evs, St.ev, cav, alook, lendA, lentBx, lendC, blook, AVs.map, AV.map, ioMap]
  have c1 : ((wInt p.length).length + p.length ≤ 4294967296) = True := by simp; omega
  refine AL_runR TB _ _ (fun D K hD hK => ?_)
  simp only [AwS, TS, AwD, aval, aIndex, aSlice, aLen, BN, BW, BS, Int.cast_ofNat_Int, spl, splice, bind, ↓reduceIte, simprocAttr, bws_map, str_size, str_data, u8_bw, bws_cell, c1]
  refine hD _ ?_
  clear hD hK D K
  refine AW_ret ?_
  simp only [Ret]
  exact ret_sl _ _ _ _ _ rfl rfl rfl (fun f => by rw [AVs_map_append, bws_map, bws_map]) (by simp [wBytes])

/-- A part that is handed to join. -/
def pA (p : Bool × List UInt8) : AV := .ds p.1 p.2.length (p.2.map bw)
theorem pAs_map (f : Nat → Nat) (ps : List (Bool × List UInt8)) : AVs.map f (ps.map pA) = ps.map pA := AVs_map_map (fun p => by simp only [pA, AV.map, bws_map]) ps
def wAll (ps : List (Bool × List UInt8)) : List UInt8 := ps.flatMap fun p => wBytes p.2

def joinF (k : Bool) (ps : List (Bool × List UInt8)) (b : List UInt8) (i : Nat) : St :=
  { nt := 20, nx := 1, tm := [(9, iv i), (8, iv ps.length), (7, .ds k ps.length (ps.map pA)), (0, .sl 0 0 (b ++ wAll (ps.take i)).length 1 (some 5))], bx := [(0, some ((b ++ wAll (ps.take i)).map bw))], gl := [], df := [] }

theorem wAll_succ (ps : List (Bool × List UInt8)) (i : Nat) (h : i < ps.length) : wAll (ps.take (i + 1)) = wAll (ps.take i) ++ wBytes ps[i].2 := by
  unfold wAll
  rw [List.take_succ_eq_append_getElem h, List.flatMap_append]
  simp

theorem wAll_take_le (ps : List (Bool × List UInt8)) (i : Nat) : (wAll (ps.take i)).length ≤ (wAll ps).length := by
  have h : wAll ps = wAll (ps.take i) ++ wAll (ps.drop i) := by
    unfold wAll
    rw [← List.flatMap_append, List.take_append_drop]
  rw [h]
  simp

theorem part_le (ps : List (Bool × List UInt8)) (i : Nat) (h : i < ps.length) : ps[i].2.length ≤ (wAll ps).length := by
  have h1 := wAll_take_le ps (i + 1)
  rw [wAll_succ ps i h] at h1
  simp [wBytes] at h1
  omega

theorem join_spec (b : List UInt8) (k : Bool) (ps : List (Bool × List UInt8)) (hn : ps.length ≤ 1000) (hl : b.length + (wAll ps).length ≤ 100000000) :
    SpecV (Calls Tryd.prog 112) [] [.sl 0 0 b.length 1 (some 5), .ds k ps.length (ps.map pA)] [] [b.map bw] (fun o => o = .ret (.sl 0 0 (b ++ wAll ps).length 1 (some 5)) [] [(b ++ wAll ps).map bw]) := by
  refine spec_ofV TB 20 [.tmp 4] Tryd.func112 rfl rfl rfl (Nat.le_of_ble_eq_true rfl) ?_
  intro X w0 E0 hro hE
  simp only [idx, List.map_cons, List.map_nil, List.length_cons, List.length_nil, List.nil_append]
  refine AW_reg TB (fun D K hD hK => ?_)
  simp only [AwS, TS, AwD, aval, aIndex, aSlice, aLen, BN, BW, BS, Int.cast_ofNat_Int, spl, splice, bind, ↓reduceIte, simprocAttr]
  refine hD _ ?_
  clear hD hK D K
  refine AW_seqk (fun K0 hK0 => ?_)
  refine AW_reg TB (fun D K hD hK => ?_)
  simp only [AwS, TS, AwD, aval, aIndex, aSlice, aLen, BN, BW, BS, Int.cast_ofNat_Int, spl, splice, bind, ↓reduceIte, simprocAttr]
  refine hD _ ?_
  clear hD hK D K
  refine AW_block ?_
  refine AW_loop (joinF k ps b) (fun i => i ≤ ps.length) (fun i => ps.length - i) hE 0 [(0, 0)] (by omega) ?_ ?_
  · refine ⟨rfl, by simp [joinF, alook, AV.map, AVs.map, bws_map, pAs_map, wAll], ⟨rfl, rfl⟩, ?_, ?_, by simp [joinF], by simp [joinF, nmap], ?_⟩
    · simp [joinF, alook, AV.map, AVs.map, nmap, AVs_map_append, ivs_map, yvs_map, bws_map, pAs_map, wAll]
    · simp [joinF, blook, AV.map, AVs.map, nmap, AVs_map_append, ivs_map, yvs_map, bws_map, pAs_map, wAll]
    · intro k hk
      have hk2 : k < 0 := hk
      omega
  intro i hi
  simp only [joinF]
  generalize hc : b ++ wAll (ps.take i) = c
  refine AW_reg TB (fun D K hD hK => ?_)
  simp only [AwS, TS, AwD, aval, aIndex, aSlice, aLen, BN, BW, BS, Int.cast_ofNat_Int, spl, splice, bind, ↓reduceIte, simprocAttr]
  refine hD _ ?_
  clear hD hK D K
  refine AW_seq (AW_cond rfl (fun h => AW_skip ?_) (fun h => AW_exit ?_))
  · have hlt : i < ps.length := by simpa using h
    have c1 : (0 ≤ (i : Int) ∧ (i : Int) < ps.length) = True := by simp; omega
    have c2 : (List.drop i (ps.map pA))[0]? = some (.ds ps[i].1 ps[i].2.length (ps[i].2.map bw)) := by simp [hlt, pA]
    have w1 : IntKind.i64.wrap ((i : Int) + 1) = (i : Int) + 1 := wrap_i64 (by omega) (by omega)
    have hpl := part_le ps i hlt
    have htl := wAll_take_le ps (i + 1)
    have hsu := wAll_succ ps i hlt
    have hcl : c.length + (wBytes ps[i].2).length ≤ 100000000 := by
      rw [← hc]
      rw [hsu] at htl
      simp at htl ⊢
      omega
    refine AW_seqk (fun K1 hK1 => ?_)
    refine AW_block ?_
    refine AW_reg TB (fun D K hD hK => ?_)
    simp only [AwS, TS, AwD, aval, aIndex, aSlice, aLen, BN, BW, BS, Int.cast_ofNat_Int, spl, splice, bind, ↓reduceIte, simprocAttr, c1, Int.toNat_natCast, Nat.mul_one, c2]
    refine hD _ ?_
    clear hD hK D K
    refine AW_regl TB (fun D K hD hK => ?_)
    simp only [AwS, TS, AwD, aval, aIndex, aSlice, aLen, BN, BW, BS, Int.cast_ofNat_Int, spl, splice, bind, ↓reduceIte, simprocAttr, bws_take, bytesOf_bw]
    refine hK _ _ ?_
    clear hD hK D K
    refine AL_callD rfl rfl rfl rfl en_127 (wbytes_spec ps[i].2 (by omega)) [] [] rfl (by simp) (by simp) ?_ (by simp) (by simp) rfl (by simp) ?_
    · simp [evs, St.ev, cav, alook, lendA, lentBx, lendC, blook, AVs.map, AV.map, ioMap, strOf]
    have c3 : (c.length + (wBytes ps[i].2).length ≤ 4294967296) = True := by simp; omega
    refine AL_runR TB _ _ (fun D K hD hK => ?_)
    simp only [AwS, TS, AwD, aval, aIndex, aSlice, aLen, BN, BW, BS, Int.cast_ofNat_Int, spl, splice, bind, ↓reduceIte, simprocAttr, bws_map, bws_take, bws_cell, c3]
    refine hD _ ?_
    clear hD hK D K
    refine hK1 _ ?_
    refine AW_regl TB (fun D K hD hK => ?_)
    simp only [AwS, TS, AwD, aval, aIndex, aSlice, aLen, BN, BW, BS, Int.cast_ofNat_Int, spl, splice, bind, ↓reduceIte, simprocAttr]
    refine hD _ ?_
    clear hD hK D K
    have hc2 : b ++ wAll (ps.take (i + 1)) = c ++ wBytes ps[i].2 := by rw [hsu, ← List.append_assoc, hc]
    refine ⟨i + 1, [(0, 65)], by omega, by dsimp only; omega, ?_⟩
    refine ⟨rfl, by simp [joinF, alook, AV.map, AVs.map, bws_map, pAs_map, hc2, w1], ⟨rfl, rfl⟩, ?_, ?_, by simp [joinF], by simp [joinF, nmap], ?_⟩
    · simp [joinF, alook, AV.map, AVs.map, nmap, AVs_map_append, ivs_map, yvs_map, bws_map, pAs_map, hc2, w1]
    · simp [joinF, blook, AV.map, AVs.map, nmap, AVs_map_append, ivs_map, yvs_map, bws_map, pAs_map, hc2, w1]
    · intro k hk
      have hk2 : k < 0 := hk
      omega
  · have hge : i = ps.length := by
      have : ¬ i < ps.length := by simpa using h
      omega
    subst hge
    refine hK0 _ ?_
    rw [List.take_length] at hc
    subst hc
    refine AW_reg TB (fun D K hD hK => ?_)
    simp only [AwS, TS, AwD, aval, aIndex, aSlice, aLen, BN, BW, BS, Int.cast_ofNat_Int, spl, splice, bind, ↓reduceIte, simprocAttr]
    refine hD _ ?_
    clear hD hK D K
    refine AW_ret ?_
    simp only [RetX]
    exact ret_sl _ _ _ _ _ rfl rfl rfl (fun f => bws_map f _) (by simp)

def dig (t : UInt8) (ps : List (Bool × List UInt8)) : List UInt8 := (sum (t :: wAll ps)).take 16
theorem dig_len (t : UInt8) (ps : List (Bool × List UInt8)) : (dig t ps).length = 16 := by simp [dig, sum_len]

theorem digest_spec (tag : Int) (k : Bool) (ps : List (Bool × List UInt8)) (hn : ps.length ≤ 1000) (hl : (wAll ps).length ≤ 10000000) :
    Spec Tryd.prog glS 81 [iv tag, .ds k ps.length (ps.map pA)] [] (fun o => o = .ret (.agg ((dig (byteOf tag) ps).map bw)) [] []) := by
  refine spec_of TB 12 [.cell 4 23] Tryd.func81 rfl rfl rfl (Nat.le_of_ble_eq_true rfl) ?_
  intro X w0 E0 hE hX
  simp only [idx, List.map_nil, List.length_nil]
  refine AW_reg TB (fun D K hD hK => ?_)
  simp only [AwS, TS, AwD, aval, aIndex, aSlice, aLen, BN, BW, BS, Int.cast_ofNat_Int, spl, splice, bind, ↓reduceIte, simprocAttr]
  refine hD _ ?_
  clear hD hK D K
  refine AW_reg TB (fun D K hD hK => ?_)
  simp only [AwS, TS, AwD, aval, aIndex, aSlice, aLen, BN, BW, BS, Int.cast_ofNat_Int, spl, splice, bind, ↓reduceIte, simprocAttr, c_i_8]
  refine hK _ _ ?_
  clear hD hK D K
  refine AL_callV rfl (.inl rfl) rfl rfl en_112 (join_spec [byteOf tag] k ps hn (by simp; omega)) [] [24] [] rfl rfl (by simp) (by simp) ?_ (hio_of ?_) (by simp) (by simp) (fun x io' nb hR _ => ?_)
  · simp [evs, St.ev, cav, alook, lendA, lentBx, lendC, blook, AVs.map, AV.map, ioMap, pAs_map]
  · simp [blook, AVs.map, AV.map]
  simp only [Out.ret.injEq] at hR
  obtain ⟨rfl, rfl, rfl⟩ := hR
  refine ⟨rfl, by simp, ?_⟩
  have hcs : [byteOf tag] ++ wAll ps = byteOf tag :: wAll ps := rfl
  rw [hcs]
  have hd : dig (byteOf tag) ps = (sum (byteOf tag :: wAll ps)).take 16 := rfl
  have hl2 : (byteOf tag :: wAll ps).length ≤ 100000000 := by simp; omega
  generalize byteOf tag :: wAll ps = q at hd hl2
  simp only [St.behindG]
  refine AL_runR TB _ _ (fun D K hD hK => ?_)
  simp only [AwS, TS, AwD, aval, aIndex, aSlice, aLen, BN, BW, BS, Int.cast_ofNat_Int, spl, splice, bind, ↓reduceIte, simprocAttr, bws_map]
  refine hK _ _ ?_
  clear hD hK D K
  refine AL_callG rfl rfl rfl rfl en_111 (sum_spec q false hl2) [40] ?_ (by simp [blook]) rfl (by simp only [AV.map, bws_map]) (by simp [alook, AV.map, cs_map, wws_map]) ?_
  · simp [evs, St.ev, cav, alook, lendA, lentBx, lendC, blook, AVs.map, AV.map, ioMap, bws_map, -List.map_map, lendC_bws, bws_take]
  have hsl := sum_len q
  generalize sum q = h at hsl hd
  refine AL_runR TB _ _ (fun D K hD hK => ?_)
  simp only [AwS, TS, AwD, aval, aIndex, aSlice, aLen, BN, BW, BS, Int.cast_ofNat_Int, spl, splice, bind, ↓reduceIte, simprocAttr]
  refine hK _ _ ?_
  clear hD hK D K
  refine AL_callP rfl rfl rfl rfl en_110 (short_spec h hsl) [] ?_ (by simp) rfl (by simp only [AV.map, bws_map]) ?_
  · simp [evs, St.ev, cav, alook, lendA, lentBx, lendC, blook, AVs.map, AV.map, ioMap, bws_map]
  rw [← hd]
  have hdl := dig_len (byteOf tag) ps
  generalize dig (byteOf tag) ps = d at hdl
  have q1 : spl (List.replicate 16 (.val (.int .u8 0))) 0 (d.map bw) = d.map bw := spl_all (by simp [hdl]) (by simp [hdl])
  simp only [List.replicate] at q1
  have q3 : (d.map bw).length = 16 := by simp [hdl]
  have q2 : List.take 16 (d.map bw) = d.map bw := List.take_of_length_le (by simp [hdl])
  refine AL_runR TB _ _ (fun D K hD hK => ?_)
  simp only [AwS, TS, AwD, aval, aIndex, aSlice, aLen, BN, BW, BS, Int.cast_ofNat_Int, spl, splice, bind, ↓reduceIte, simprocAttr, q1, q2, q3, bws_cell, -spl]
  refine hD _ ?_
  clear hD hK D K
  refine AW_ret ?_
  simp only [Ret]
  refine retp (.agg (d.map bw)) rfl ?_ (by simp only [AV.map, bws_map]) rfl
  simp only [resOf, resAll, resAV, AwS, TS, AwD, aval, aIndex, aSlice, aLen, BN, BW, BS, Int.cast_ofNat_Int, spl, splice, bind, ↓reduceIte, simprocAttr, q2, q3]

end Go.Proofs.YtgbpgplkhifgiaaDoor

/- The walks of bits.Mul, bytes.Repeat. No condition. -/
set_option linter.unusedVariables false
set_option linter.unusedSimpArgs false
set_option maxRecDepth 100000
namespace Go.Proofs.YtgbpgplkhifgiaaDoor
open Go Go.RowKit

abbrev dz (n : Int) : AV := .val (.int .u64 n)

theorem mul64_spec : Spec Tryd.prog [] 166 [dz 1, dz 64] [] (fun o => o = .ret (.tup [dz 0, dz 64]) [] []) := by
  refine spec_of TB 51 [.tmp 4, .tmp 5] Tryd.func166 rfl rfl rfl (Nat.le_of_ble_eq_true rfl) ?_
  intro X w0 E0 hE hX
  simp only [idx, List.map_nil, List.length_nil]
  have b1 : IntKind.u64.wrap ((BitVec.ofInt IntKind.u64.bits 1 &&& BitVec.ofInt IntKind.u64.bits 4294967295).toNat : Int) = 1 := by decide
  have b2 : IntKind.u64.wrap ((BitVec.ofInt IntKind.u64.bits 64 &&& BitVec.ofInt IntKind.u64.bits 4294967295).toNat : Int) = 64 := by decide
  have b3 : IntKind.u64.wrap ((BitVec.ofInt IntKind.u64.bits 0 &&& BitVec.ofInt IntKind.u64.bits 4294967295).toNat : Int) = 0 := by decide
  have f1 : Int.fdiv 1 (2 ^ min (Int.toNat 32) IntKind.u64.bits) = 0 := by decide
  have f2 : Int.fdiv 64 (2 ^ min (Int.toNat 32) IntKind.u64.bits) = 0 := by decide
  have f3 : Int.fdiv 0 (2 ^ min (Int.toNat 32) IntKind.u64.bits) = 0 := by decide
  have m1 : IntKind.u64.wrap 64 = 64 := by decide
  have m0 : IntKind.u64.wrap 0 = 0 := by decide
  have f4 : min (32 : Nat) IntKind.u64.bits = 32 := by decide
  have f5 : Int.fdiv 1 (2 ^ (32 : Nat)) = 0 := by decide
  have f6 : Int.fdiv 64 (2 ^ (32 : Nat)) = 0 := by decide
  have f7 : Int.fdiv 0 (2 ^ (32 : Nat)) = 0 := by decide
  refine AW_reg TB (fun D K hD hK => ?_)
  simp only [AwS, TS, binI, runR, runD, ostep, ostepB, aop, aopB, dstOk, aeff, aval, St.ev, alook, blook, aBox, AV.known, cav, St.app, tput, evs, evp, allKnown, gslot, min2, max2, AV.cs, AV.cell, loadC, aField, aIndex, TD.elem, TD.isAgg, TD.isInt, aSlice, keepGr, aBound, aLen, aBuild, aFill, placesOf, bytesOf, aBin, aEql, TI.one, eqS, eqL, fits, srcOf, dstOf, killK, replZ, spl, splice, AV.tops, Tk.foot, addFoot, fine, apart, disj, St.behind, St.behindB, zipIo, newIo, gMap, ioMap, AV.map, AVs.map, nmap, ↓reduceIte, Nat.reduceAdd, Nat.reduceMul, Nat.reduceSub, Nat.reduceMod, Nat.reduceDiv, Nat.reduceEqDiff, Nat.reduceLT, Nat.reduceLeDiff, Nat.reduceBEq, Nat.reduceBNe, Int.reduceAdd, Int.reduceMul, Int.reduceSub, Int.reduceNeg, Int.reduceLT, Int.reduceLE, Int.reduceEq, Int.reduceToNat, reduceCtorEq, bind]
  refine hD _ ?_
  clear hD hK D K
  refine AW_reg TB (fun D K hD hK => ?_)
  simp only [AwS, TS, binI, runR, runD, ostep, ostepB, aop, aopB, dstOk, aeff, aval, St.ev, alook, blook, aBox, AV.known, cav, St.app, tput, evs, evp, allKnown, gslot, min2, max2, AV.cs, AV.cell, loadC, aField, aIndex, TD.elem, TD.isAgg, TD.isInt, aSlice, keepGr, aBound, aLen, aBuild, aFill, placesOf, bytesOf, aBin, aEql, TI.one, eqS, eqL, fits, srcOf, dstOf, killK, replZ, spl, splice, AV.tops, Tk.foot, addFoot, fine, apart, disj, St.behind, St.behindB, zipIo, newIo, gMap, ioMap, AV.map, AVs.map, nmap, ↓reduceIte, Nat.reduceAdd, Nat.reduceMul, Nat.reduceSub, Nat.reduceMod, Nat.reduceDiv, Nat.reduceEqDiff, Nat.reduceLT, Nat.reduceLeDiff, Nat.reduceBEq, Nat.reduceBNe, Int.reduceAdd, Int.reduceMul, Int.reduceSub, Int.reduceNeg, Int.reduceLT, Int.reduceLE, Int.reduceEq, Int.reduceToNat, reduceCtorEq, bind, b1]
  refine hD _ ?_
  clear hD hK D K
  refine AW_reg TB (fun D K hD hK => ?_)
  simp only [AwS, TS, binI, runR, runD, ostep, ostepB, aop, aopB, dstOk, aeff, aval, St.ev, alook, blook, aBox, AV.known, cav, St.app, tput, evs, evp, allKnown, gslot, min2, max2, AV.cs, AV.cell, loadC, aField, aIndex, TD.elem, TD.isAgg, TD.isInt, aSlice, keepGr, aBound, aLen, aBuild, aFill, placesOf, bytesOf, aBin, aEql, TI.one, eqS, eqL, fits, srcOf, dstOf, killK, replZ, spl, splice, AV.tops, Tk.foot, addFoot, fine, apart, disj, St.behind, St.behindB, zipIo, newIo, gMap, ioMap, AV.map, AVs.map, nmap, ↓reduceIte, Nat.reduceAdd, Nat.reduceMul, Nat.reduceSub, Nat.reduceMod, Nat.reduceDiv, Nat.reduceEqDiff, Nat.reduceLT, Nat.reduceLeDiff, Nat.reduceBEq, Nat.reduceBNe, Int.reduceAdd, Int.reduceMul, Int.reduceSub, Int.reduceNeg, Int.reduceLT, Int.reduceLE, Int.reduceEq, Int.reduceToNat, reduceCtorEq, bind, f1, f4, f5]
  refine hD _ ?_
  clear hD hK D K
  refine AW_reg TB (fun D K hD hK => ?_)
  simp only [AwS, TS, binI, runR, runD, ostep, ostepB, aop, aopB, dstOk, aeff, aval, St.ev, alook, blook, aBox, AV.known, cav, St.app, tput, evs, evp, allKnown, gslot, min2, max2, AV.cs, AV.cell, loadC, aField, aIndex, TD.elem, TD.isAgg, TD.isInt, aSlice, keepGr, aBound, aLen, aBuild, aFill, placesOf, bytesOf, aBin, aEql, TI.one, eqS, eqL, fits, srcOf, dstOf, killK, replZ, spl, splice, AV.tops, Tk.foot, addFoot, fine, apart, disj, St.behind, St.behindB, zipIo, newIo, gMap, ioMap, AV.map, AVs.map, nmap, ↓reduceIte, Nat.reduceAdd, Nat.reduceMul, Nat.reduceSub, Nat.reduceMod, Nat.reduceDiv, Nat.reduceEqDiff, Nat.reduceLT, Nat.reduceLeDiff, Nat.reduceBEq, Nat.reduceBNe, Int.reduceAdd, Int.reduceMul, Int.reduceSub, Int.reduceNeg, Int.reduceLT, Int.reduceLE, Int.reduceEq, Int.reduceToNat, reduceCtorEq, bind, b2]
  refine hD _ ?_
  clear hD hK D K
  refine AW_reg TB (fun D K hD hK => ?_)
  simp only [AwS, TS, binI, runR, runD, ostep, ostepB, aop, aopB, dstOk, aeff, aval, St.ev, alook, blook, aBox, AV.known, cav, St.app, tput, evs, evp, allKnown, gslot, min2, max2, AV.cs, AV.cell, loadC, aField, aIndex, TD.elem, TD.isAgg, TD.isInt, aSlice, keepGr, aBound, aLen, aBuild, aFill, placesOf, bytesOf, aBin, aEql, TI.one, eqS, eqL, fits, srcOf, dstOf, killK, replZ, spl, splice, AV.tops, Tk.foot, addFoot, fine, apart, disj, St.behind, St.behindB, zipIo, newIo, gMap, ioMap, AV.map, AVs.map, nmap, ↓reduceIte, Nat.reduceAdd, Nat.reduceMul, Nat.reduceSub, Nat.reduceMod, Nat.reduceDiv, Nat.reduceEqDiff, Nat.reduceLT, Nat.reduceLeDiff, Nat.reduceBEq, Nat.reduceBNe, Int.reduceAdd, Int.reduceMul, Int.reduceSub, Int.reduceNeg, Int.reduceLT, Int.reduceLE, Int.reduceEq, Int.reduceToNat, reduceCtorEq, bind, f2, f4, f6]
  refine hD _ ?_
  clear hD hK D K
  refine AW_reg TB (fun D K hD hK => ?_)
  simp only [AwS, TS, binI, runR, runD, ostep, ostepB, aop, aopB, dstOk, aeff, aval, St.ev, alook, blook, aBox, AV.known, cav, St.app, tput, evs, evp, allKnown, gslot, min2, max2, AV.cs, AV.cell, loadC, aField, aIndex, TD.elem, TD.isAgg, TD.isInt, aSlice, keepGr, aBound, aLen, aBuild, aFill, placesOf, bytesOf, aBin, aEql, TI.one, eqS, eqL, fits, srcOf, dstOf, killK, replZ, spl, splice, AV.tops, Tk.foot, addFoot, fine, apart, disj, St.behind, St.behindB, zipIo, newIo, gMap, ioMap, AV.map, AVs.map, nmap, ↓reduceIte, Nat.reduceAdd, Nat.reduceMul, Nat.reduceSub, Nat.reduceMod, Nat.reduceDiv, Nat.reduceEqDiff, Nat.reduceLT, Nat.reduceLeDiff, Nat.reduceBEq, Nat.reduceBNe, Int.reduceAdd, Int.reduceMul, Int.reduceSub, Int.reduceNeg, Int.reduceLT, Int.reduceLE, Int.reduceEq, Int.reduceToNat, reduceCtorEq, bind, m1]
  refine hD _ ?_
  clear hD hK D K
  refine AW_reg TB (fun D K hD hK => ?_)
  simp only [AwS, TS, binI, runR, runD, ostep, ostepB, aop, aopB, dstOk, aeff, aval, St.ev, alook, blook, aBox, AV.known, cav, St.app, tput, evs, evp, allKnown, gslot, min2, max2, AV.cs, AV.cell, loadC, aField, aIndex, TD.elem, TD.isAgg, TD.isInt, aSlice, keepGr, aBound, aLen, aBuild, aFill, placesOf, bytesOf, aBin, aEql, TI.one, eqS, eqL, fits, srcOf, dstOf, killK, replZ, spl, splice, AV.tops, Tk.foot, addFoot, fine, apart, disj, St.behind, St.behindB, zipIo, newIo, gMap, ioMap, AV.map, AVs.map, nmap, ↓reduceIte, Nat.reduceAdd, Nat.reduceMul, Nat.reduceSub, Nat.reduceMod, Nat.reduceDiv, Nat.reduceEqDiff, Nat.reduceLT, Nat.reduceLeDiff, Nat.reduceBEq, Nat.reduceBNe, Int.reduceAdd, Int.reduceMul, Int.reduceSub, Int.reduceNeg, Int.reduceLT, Int.reduceLE, Int.reduceEq, Int.reduceToNat, reduceCtorEq, bind, m0, f4, f5, f6, f7]
  refine hD _ ?_
  clear hD hK D K
  refine AW_reg TB (fun D K hD hK => ?_)
  simp only [AwS, TS, binI, runR, runD, ostep, ostepB, aop, aopB, dstOk, aeff, aval, St.ev, alook, blook, aBox, AV.known, cav, St.app, tput, evs, evp, allKnown, gslot, min2, max2, AV.cs, AV.cell, loadC, aField, aIndex, TD.elem, TD.isAgg, TD.isInt, aSlice, keepGr, aBound, aLen, aBuild, aFill, placesOf, bytesOf, aBin, aEql, TI.one, eqS, eqL, fits, srcOf, dstOf, killK, replZ, spl, splice, AV.tops, Tk.foot, addFoot, fine, apart, disj, St.behind, St.behindB, zipIo, newIo, gMap, ioMap, AV.map, AVs.map, nmap, ↓reduceIte, Nat.reduceAdd, Nat.reduceMul, Nat.reduceSub, Nat.reduceMod, Nat.reduceDiv, Nat.reduceEqDiff, Nat.reduceLT, Nat.reduceLeDiff, Nat.reduceBEq, Nat.reduceBNe, Int.reduceAdd, Int.reduceMul, Int.reduceSub, Int.reduceNeg, Int.reduceLT, Int.reduceLE, Int.reduceEq, Int.reduceToNat, reduceCtorEq, bind, b3]
  refine hD _ ?_
  clear hD hK D K
  refine AW_reg TB (fun D K hD hK => ?_)
  simp only [AwS, TS, binI, runR, runD, ostep, ostepB, aop, aopB, dstOk, aeff, aval, St.ev, alook, blook, aBox, AV.known, cav, St.app, tput, evs, evp, allKnown, gslot, min2, max2, AV.cs, AV.cell, loadC, aField, aIndex, TD.elem, TD.isAgg, TD.isInt, aSlice, keepGr, aBound, aLen, aBuild, aFill, placesOf, bytesOf, aBin, aEql, TI.one, eqS, eqL, fits, srcOf, dstOf, killK, replZ, spl, splice, AV.tops, Tk.foot, addFoot, fine, apart, disj, St.behind, St.behindB, zipIo, newIo, gMap, ioMap, AV.map, AVs.map, nmap, ↓reduceIte, Nat.reduceAdd, Nat.reduceMul, Nat.reduceSub, Nat.reduceMod, Nat.reduceDiv, Nat.reduceEqDiff, Nat.reduceLT, Nat.reduceLeDiff, Nat.reduceBEq, Nat.reduceBNe, Int.reduceAdd, Int.reduceMul, Int.reduceSub, Int.reduceNeg, Int.reduceLT, Int.reduceLE, Int.reduceEq, Int.reduceToNat, reduceCtorEq, bind, f3, f4, f7]
  refine hD _ ?_
  clear hD hK D K
  refine AW_reg TB (fun D K hD hK => ?_)
  simp only [AwS, TS, binI, runR, runD, ostep, ostepB, aop, aopB, dstOk, aeff, aval, St.ev, alook, blook, aBox, AV.known, cav, St.app, tput, evs, evp, allKnown, gslot, min2, max2, AV.cs, AV.cell, loadC, aField, aIndex, TD.elem, TD.isAgg, TD.isInt, aSlice, keepGr, aBound, aLen, aBuild, aFill, placesOf, bytesOf, aBin, aEql, TI.one, eqS, eqL, fits, srcOf, dstOf, killK, replZ, spl, splice, AV.tops, Tk.foot, addFoot, fine, apart, disj, St.behind, St.behindB, zipIo, newIo, gMap, ioMap, AV.map, AVs.map, nmap, ↓reduceIte, Nat.reduceAdd, Nat.reduceMul, Nat.reduceSub, Nat.reduceMod, Nat.reduceDiv, Nat.reduceEqDiff, Nat.reduceLT, Nat.reduceLeDiff, Nat.reduceBEq, Nat.reduceBNe, Int.reduceAdd, Int.reduceMul, Int.reduceSub, Int.reduceNeg, Int.reduceLT, Int.reduceLE, Int.reduceEq, Int.reduceToNat, reduceCtorEq, bind, m0]
  refine hD _ ?_
  clear hD hK D K
  refine AW_reg TB (fun D K hD hK => ?_)
  simp only [AwS, TS, binI, runR, runD, ostep, ostepB, aop, aopB, dstOk, aeff, aval, St.ev, alook, blook, aBox, AV.known, cav, St.app, tput, evs, evp, allKnown, gslot, min2, max2, AV.cs, AV.cell, loadC, aField, aIndex, TD.elem, TD.isAgg, TD.isInt, aSlice, keepGr, aBound, aLen, aBuild, aFill, placesOf, bytesOf, aBin, aEql, TI.one, eqS, eqL, fits, srcOf, dstOf, killK, replZ, spl, splice, AV.tops, Tk.foot, addFoot, fine, apart, disj, St.behind, St.behindB, zipIo, newIo, gMap, ioMap, AV.map, AVs.map, nmap, ↓reduceIte, Nat.reduceAdd, Nat.reduceMul, Nat.reduceSub, Nat.reduceMod, Nat.reduceDiv, Nat.reduceEqDiff, Nat.reduceLT, Nat.reduceLeDiff, Nat.reduceBEq, Nat.reduceBNe, Int.reduceAdd, Int.reduceMul, Int.reduceSub, Int.reduceNeg, Int.reduceLT, Int.reduceLE, Int.reduceEq, Int.reduceToNat, reduceCtorEq, bind, m0, f4, f7]
  refine hD _ ?_
  clear hD hK D K
  refine AW_reg TB (fun D K hD hK => ?_)
  simp only [AwS, TS, binI, runR, runD, ostep, ostepB, aop, aopB, dstOk, aeff, aval, St.ev, alook, blook, aBox, AV.known, cav, St.app, tput, evs, evp, allKnown, gslot, min2, max2, AV.cs, AV.cell, loadC, aField, aIndex, TD.elem, TD.isAgg, TD.isInt, aSlice, keepGr, aBound, aLen, aBuild, aFill, placesOf, bytesOf, aBin, aEql, TI.one, eqS, eqL, fits, srcOf, dstOf, killK, replZ, spl, splice, AV.tops, Tk.foot, addFoot, fine, apart, disj, St.behind, St.behindB, zipIo, newIo, gMap, ioMap, AV.map, AVs.map, nmap, ↓reduceIte, Nat.reduceAdd, Nat.reduceMul, Nat.reduceSub, Nat.reduceMod, Nat.reduceDiv, Nat.reduceEqDiff, Nat.reduceLT, Nat.reduceLeDiff, Nat.reduceBEq, Nat.reduceBNe, Int.reduceAdd, Int.reduceMul, Int.reduceSub, Int.reduceNeg, Int.reduceLT, Int.reduceLE, Int.reduceEq, Int.reduceToNat, reduceCtorEq, bind, m1]
  refine hD _ ?_
  clear hD hK D K
  refine AW_ret ?_
  simp only [Ret, blockQ, kQ, loopQ, seqQ, scopeQ, ↓reduceIte]
  exact retp (.tup [dz 0, dz 64]) rfl rfl rfl rfl

theorem mul_spec : Spec Tryd.prog [] 163 [dz 1, dz 64] [] (fun o => o = .ret (.tup [dz 0, dz 64]) [] []) := by
  refine spec_of TB 30 [.tmp 4, .tmp 5] Tryd.func163 rfl rfl rfl (Nat.le_of_ble_eq_true rfl) ?_
  intro X w0 E0 hE hX
  simp only [idx, List.map_nil, List.length_nil]
  refine AW_reg TB (fun D K hD hK => ?_)
  simp only [AwS, TS, binI, runR, runD, ostep, ostepB, aop, aopB, dstOk, aeff, aval, St.ev, alook, blook, aBox, AV.known, cav, St.app, tput, evs, evp, allKnown, gslot, min2, max2, AV.cs, AV.cell, loadC, aField, aIndex, TD.elem, TD.isAgg, TD.isInt, aSlice, keepGr, aBound, aLen, aBuild, aFill, placesOf, bytesOf, aBin, aEql, TI.one, eqS, eqL, fits, srcOf, dstOf, killK, replZ, spl, splice, AV.tops, Tk.foot, addFoot, fine, apart, disj, St.behind, St.behindB, zipIo, newIo, gMap, ioMap, AV.map, AVs.map, nmap, ↓reduceIte, Nat.reduceAdd, Nat.reduceMul, Nat.reduceSub, Nat.reduceMod, Nat.reduceDiv, Nat.reduceEqDiff, Nat.reduceLT, Nat.reduceLeDiff, Nat.reduceBEq, Nat.reduceBNe, Int.reduceAdd, Int.reduceMul, Int.reduceSub, Int.reduceNeg, Int.reduceLT, Int.reduceLE, Int.reduceEq, Int.reduceToNat, reduceCtorEq, bind]
  refine hD _ ?_
  clear hD hK D K
  refine AW_seq ?_
  refine AW_false rfl (AW_skip ?_)
  simp only [seqQ]
  refine AW_reg TB (fun D K hD hK => ?_)
  simp only [AwS, TS, binI, runR, runD, ostep, ostepB, aop, aopB, dstOk, aeff, aval, St.ev, alook, blook, aBox, AV.known, cav, St.app, tput, evs, evp, allKnown, gslot, min2, max2, AV.cs, AV.cell, loadC, aField, aIndex, TD.elem, TD.isAgg, TD.isInt, aSlice, keepGr, aBound, aLen, aBuild, aFill, placesOf, bytesOf, aBin, aEql, TI.one, eqS, eqL, fits, srcOf, dstOf, killK, replZ, spl, splice, AV.tops, Tk.foot, addFoot, fine, apart, disj, St.behind, St.behindB, zipIo, newIo, gMap, ioMap, AV.map, AVs.map, nmap, ↓reduceIte, Nat.reduceAdd, Nat.reduceMul, Nat.reduceSub, Nat.reduceMod, Nat.reduceDiv, Nat.reduceEqDiff, Nat.reduceLT, Nat.reduceLeDiff, Nat.reduceBEq, Nat.reduceBNe, Int.reduceAdd, Int.reduceMul, Int.reduceSub, Int.reduceNeg, Int.reduceLT, Int.reduceLE, Int.reduceEq, Int.reduceToNat, reduceCtorEq, bind]
  refine hK _ _ ?_
  clear hD hK D K
  refine AL_callP rfl rfl rfl rfl en_166 mul64_spec [] ?_ (by simp) rfl rfl ?_
  · simp [evs, St.ev, cav, alook, lendA, lentBx, lendC, blook, AVs.map, AV.map, ioMap]
  refine AL_runR TB _ _ (fun D K hD hK => ?_)
  simp only [AwS, TS, binI, runR, runD, ostep, ostepB, aop, aopB, dstOk, aeff, aval, St.ev, alook, blook, aBox, AV.known, cav, St.app, tput, evs, evp, allKnown, gslot, min2, max2, AV.cs, AV.cell, loadC, aField, aIndex, TD.elem, TD.isAgg, TD.isInt, aSlice, keepGr, aBound, aLen, aBuild, aFill, placesOf, bytesOf, aBin, aEql, TI.one, eqS, eqL, fits, srcOf, dstOf, killK, replZ, spl, splice, AV.tops, Tk.foot, addFoot, fine, apart, disj, St.behind, St.behindB, zipIo, newIo, gMap, ioMap, AV.map, AVs.map, nmap, ↓reduceIte, Nat.reduceAdd, Nat.reduceMul, Nat.reduceSub, Nat.reduceMod, Nat.reduceDiv, Nat.reduceEqDiff, Nat.reduceLT, Nat.reduceLeDiff, Nat.reduceBEq, Nat.reduceBNe, Int.reduceAdd, Int.reduceMul, Int.reduceSub, Int.reduceNeg, Int.reduceLT, Int.reduceLE, Int.reduceEq, Int.reduceToNat, reduceCtorEq, bind]
  refine hD _ ?_
  clear hD hK D K
  refine AW_reg TB (fun D K hD hK => ?_)
  simp only [AwS, TS, binI, runR, runD, ostep, ostepB, aop, aopB, dstOk, aeff, aval, St.ev, alook, blook, aBox, AV.known, cav, St.app, tput, evs, evp, allKnown, gslot, min2, max2, AV.cs, AV.cell, loadC, aField, aIndex, TD.elem, TD.isAgg, TD.isInt, aSlice, keepGr, aBound, aLen, aBuild, aFill, placesOf, bytesOf, aBin, aEql, TI.one, eqS, eqL, fits, srcOf, dstOf, killK, replZ, spl, splice, AV.tops, Tk.foot, addFoot, fine, apart, disj, St.behind, St.behindB, zipIo, newIo, gMap, ioMap, AV.map, AVs.map, nmap, ↓reduceIte, Nat.reduceAdd, Nat.reduceMul, Nat.reduceSub, Nat.reduceMod, Nat.reduceDiv, Nat.reduceEqDiff, Nat.reduceLT, Nat.reduceLeDiff, Nat.reduceBEq, Nat.reduceBNe, Int.reduceAdd, Int.reduceMul, Int.reduceSub, Int.reduceNeg, Int.reduceLT, Int.reduceLE, Int.reduceEq, Int.reduceToNat, reduceCtorEq, bind]
  refine hD _ ?_
  clear hD hK D K
  refine AW_ret ?_
  simp only [Ret, blockQ, kQ, loopQ, seqQ, scopeQ, ↓reduceIte]
  exact retp (.tup [dz 0, dz 64]) rfl rfl rfl rfl

end Go.Proofs.YtgbpgplkhifgiaaDoor

/- The walk of bytes.Repeat at one byte. No condition. -/
set_option linter.unusedVariables false
set_option linter.unusedSimpArgs false
set_option maxRecDepth 100000
namespace Go.Proofs.YtgbpgplkhifgiaaDoor
open Go Go.RowKit

section
variable {P : Program} {X : Nat → Prop} {w0 : World} {E0 : Env} {T : TypeId → Option TI} {eqt : List TypeId}

/-- A call that lays a new row of whatever bytes. -/
theorem AL_mnz {ops : Array Oper} {o : Oper} {l : List Oper} {σ : St} {Q : Exit → St → Prop} {K : FuncId} {x : Operand} {fty : Array TypeId} {n : Nat} {e : TypeId}
    (ho : o.op = .call ⟨.value (.func K), #[x], fty⟩) (hgd : o.guard = none) (hd : dstOk σ o.dst = true) (hx : σ.ev x = .val (.int .i64 (n : Int)))
    (hcall : ∀ w : World, ∃ cs : Array Value, (callFunc K #[.int .i64 (n : Int)]).run P w = .ok (.value (.slice (some ⟨w.heap.size, 0, none⟩) n cs.size)) (w.drew.drew.alloc (.cells cs e)) ∧ n ≤ cs.size ∧ cs.size ≤ maxLen)
    (h : AL P X w0 E0 ops l (σ.app (σ.nx + 8) o.dst ⟨.sl σ.nx 0 n 1 (some e), [(σ.nx, some (List.replicate n .any))]⟩) Q) : AL P X w0 E0 ops (o :: l) σ Q := by
  intro i hi E a w hg hs
  obtain ⟨hoi, hl⟩ := drop_cons hi
  have ho' : ops[i]? = some o := by simpa using hoi
  simp only [List.length_cons, List.range', wpOpsIn, ho']
  have hw : Region.wanted o (yielded ops a.tmps) = true := by simp [Region.wanted, hgd]
  rw [if_pos hw]
  have hxe := hs.ev x
  rw [hx] at hxe
  simp only [M] at hxe
  obtain ⟨cs, hrun0, hn, hm⟩ := hcall w
  have hrun : (execOp a.eval o).run P w = .ok (.value (.slice (some ⟨w.heap.size, 0, none⟩) n cs.size)) (w.drew.drew.alloc (.cells cs e)) := by
    simp only [execOp, ho, resolve, Act.eval, Deferred.ofValue, Sem.run_bind, Sem.run_pure, Result.andThen_ok, invoke]
    have e1 : (#[] : Array Value) ++ (#[] ++ #[x].map a.eval) ++ #[] = #[.int .i64 (n : Int)] := by simp [hxe]
    simpa [hxe] using hrun0
  refine oper_fr (by rw [ho]; intro c; simp) ?_
  rw [hrun]
  have hlen : (cs.toList.take n).length = n := by simp; omega
  have anyMs : ∀ (vs : List Value), Ms w E (List.replicate vs.length .any) vs := by
    intro vs
    induction vs with
    | nil => rfl
    | cons v vs ih => exact Ms_cons.2 ⟨v, vs, rfl, trivial, ih⟩
  have hms := anyMs (cs.toList.take n)
  rw [hlen] at hms
  have fr := hs.free
  obtain ⟨_, hg2, hs2⟩ := hs.new (d := o.dst) (x := .sl σ.nx 0 n 1 (some e)) (v := .slice (some ⟨w.heap.size, 0, none⟩) n cs.size) (b := σ.nx) (nx := σ.nx + 8) w.drew.drew rfl rfl rfl rfl (dst_lt hd) fr.a fr.p fr.lt fr.n (c := cs) (ty := e) hms
    (by rw [hlen]; exact hn) (fun i hi => by rw [hlen] at hi; rw [List.getElem?_take, if_pos hi]; simp)
    (sl_new (sz := 0) rfl hn (by omega) hm) [(σ.nx, some (List.replicate n .any))] one_bx.1 one_bx.2
  exact h (i + 1) hl _ _ _ (hg.trans hg2) hs2
end

theorem mnz_call (n : Nat) (hn : n ≤ 1000000) (w : World) : ∃ cs : Array Value, (callFunc 164 #[.int .i64 (n : Int)]).run Tryd.prog w = .ok (.value (.slice (some ⟨w.heap.size, 0, none⟩) n cs.size)) (w.drew.drew.alloc (.cells cs 5)) ∧ n ≤ cs.size ∧ cs.size ≤ maxLen := by
  have ht : Tryd.prog.underlying 24 = some (.slice 5) := by kernel_rfl
  obtain ⟨cs, hrun, hle, hmax⟩ := Lib.run_makeNoZero (P := Tryd.prog) w #[3] 24 5 ht n (by omega)
  refine ⟨cs, ?_, hle, hmax (by unfold maxLen; omega)⟩
  rw [run_callFunc_extern Tryd.func164 (by kernel_rfl) (by kernel_rfl) (by kernel_rfl) (e := Extern.BytealgMakeNoZero.makeNoZero #[3] #[24]) (by kernel_rfl), hrun]
  rfl

set_option maxHeartbeats 4000000 in
theorem repeat_spec (x : UInt8) : Spec Tryd.prog [] 160 [.ds false 1 [bw x], iv 64] [] (fun o => o = .ret (.sl 0 0 64 1 (some 5)) [] [(List.replicate 64 x).map bw]) := by
  refine spec_of TB 77 [.tmp 4] Tryd.func160 rfl rfl rfl (Nat.le_of_ble_eq_true rfl) ?_
  intro X w0 E0 hE hX
  simp only [idx, List.map_nil, List.length_nil]
  have u1 : IntKind.u64.wrap 1 = 1 := by decide
  have u64' : IntKind.u64.wrap 64 = 64 := by decide
  have i64' : IntKind.i64.wrap 64 = 64 := by decide
  refine AW_reg TB (fun D K hD hK => ?_)
  simp only [AwS, TS, AwD, aval, aIndex, aSlice, aLen, BN, BW, BS, Int.cast_ofNat_Int, spl, splice, bind, ↓reduceIte, simprocAttr]
  refine hD _ ?_
  clear hD hK D K
  refine AW_seq ?_
  refine AW_reg TB (fun D K hD hK => ?_)
  simp only [AwS, TS, AwD, aval, aIndex, aSlice, aLen, BN, BW, BS, Int.cast_ofNat_Int, spl, splice, bind, ↓reduceIte, simprocAttr]
  refine hD _ ?_
  clear hD hK D K
  refine AW_false rfl (AW_skip ?_)
  simp only [seqQ]
  refine AW_seq ?_
  refine AW_reg TB (fun D K hD hK => ?_)
  simp only [AwS, TS, AwD, aval, aIndex, aSlice, aLen, BN, BW, BS, Int.cast_ofNat_Int, spl, splice, bind, ↓reduceIte, simprocAttr]
  refine hD _ ?_
  clear hD hK D K
  refine AW_false rfl (AW_skip ?_)
  simp only [seqQ]
  refine AW_reg TB (fun D K hD hK => ?_)
  simp only [AwS, TS, AwD, aval, aIndex, aSlice, aLen, BN, BW, BS, Int.cast_ofNat_Int, spl, splice, bind, ↓reduceIte, simprocAttr, u1, u64']
  refine hK _ _ ?_
  clear hD hK D K
  refine AL_callP rfl rfl rfl rfl en_163 mul_spec [] ?_ (by simp) rfl rfl ?_
  · simp [evs, St.ev, cav, alook, lendA, lentBx, lendC, blook, AVs.map, AV.map, ioMap]
  refine AL_runR TB _ _ (fun D K hD hK => ?_)
  simp only [AwS, TS, AwD, aval, aIndex, aSlice, aLen, BN, BW, BS, Int.cast_ofNat_Int, spl, splice, bind, ↓reduceIte, simprocAttr]
  refine hD _ ?_
  clear hD hK D K
  refine AW_seq ?_
  refine AW_reg TB (fun D K hD hK => ?_)
  simp only [AwS, TS, AwD, aval, aIndex, aSlice, aLen, BN, BW, BS, Int.cast_ofNat_Int, spl, splice, bind, ↓reduceIte, simprocAttr]
  refine hD _ ?_
  clear hD hK D K
  simp only [AwS, TS, AwD, aval, aIndex, aSlice, aLen, BN, BW, BS, Int.cast_ofNat_Int, spl, splice, bind, ↓reduceIte, simprocAttr]
  refine AW_false (by simp [St.ev, alook]) (AW_skip ?_)
  simp only [seqQ]
  refine AW_reg TB (fun D K hD hK => ?_)
  simp only [AwS, TS, AwD, aval, aIndex, aSlice, aLen, BN, BW, BS, Int.cast_ofNat_Int, spl, splice, bind, ↓reduceIte, simprocAttr, i64']
  refine hD _ ?_
  clear hD hK D K
  refine AW_seq ?_
  refine AW_reg TB (fun D K hD hK => ?_)
  simp only [AwS, TS, AwD, aval, aIndex, aSlice, aLen, BN, BW, BS, Int.cast_ofNat_Int, spl, splice, bind, ↓reduceIte, simprocAttr]
  refine hD _ ?_
  clear hD hK D K
  refine AW_false rfl (AW_skip ?_)
  simp only [seqQ]
  refine AW_reg TB (fun D K hD hK => ?_)
  simp only [AwS, TS, AwD, aval, aIndex, aSlice, aLen, BN, BW, BS, Int.cast_ofNat_Int, spl, splice, bind, ↓reduceIte, simprocAttr]
  refine hD _ ?_
  clear hD hK D K
  refine AW_seq ?_
  refine AW_reg TB (fun D K hD hK => ?_)
  simp only [AwS, TS, AwD, aval, aIndex, aSlice, aLen, BN, BW, BS, Int.cast_ofNat_Int, spl, splice, bind, ↓reduceIte, simprocAttr]
  refine hD _ ?_
  clear hD hK D K
  refine AW_false rfl (AW_skip ?_)
  simp only [seqQ]
  refine AW_reg TB (fun D K hD hK => ?_)
  simp only [AwS, TS, AwD, aval, aIndex, aSlice, aLen, BN, BW, BS, Int.cast_ofNat_Int, spl, splice, bind, ↓reduceIte, simprocAttr]
  refine hK _ _ ?_
  clear hD hK D K
  refine AL_mnz rfl rfl rfl rfl (mnz_call 64 (by omega)) ?_
  refine AL_runR TB _ _ (fun D K hD hK => ?_)
  simp only [AwS, TS, AwD, aval, aIndex, aSlice, aLen, BN, BW, BS, Int.cast_ofNat_Int, spl, splice, bind, ↓reduceIte, simprocAttr]
  refine hD _ ?_
  clear hD hK D K
  simp only [seqQ]
  have r2 : IntKind.i64.wrap 2 = 2 := by decide
  have r4 : IntKind.i64.wrap 4 = 4 := by decide
  have r8 : IntKind.i64.wrap 8 = 8 := by decide
  have r16 : IntKind.i64.wrap 16 = 16 := by decide
  have r32 : IntKind.i64.wrap 32 = 32 := by decide
  refine AW_reg TB (fun D K hD hK => ?_)
  simp only [AwS, TS, AwD, aval, aIndex, aSlice, aLen, BN, BW, BS, Int.cast_ofNat_Int, spl, splice, bind, ↓reduceIte, simprocAttr, Nat.min_def]
  refine hD _ ?_
  clear hD hK D K
  refine AW_seqk (fun K0 hK0 => ?_)
  refine AW_block ?_
  refine AW_rounds 7 ?_
  refine AR_round (fun K1 hK1 => ?_)
  refine AW_seq ?_
  refine AW_reg TB (fun D K hD hK => ?_)
  simp only [AwS, TS, AwD, aval, aIndex, aSlice, aLen, BN, BW, BS, Int.cast_ofNat_Int, spl, splice, bind, ↓reduceIte, simprocAttr, Nat.min_def, r2, r4, r8, r16, r32, i64']
  refine hD _ ?_
  clear hD hK D K
  refine AW_true rfl (AW_skip ?_)
  simp only [seqQ]
  refine AW_block ?_
  refine AW_keep [7, 8, 9, 10] ?_
  simp only [List.filter_cons, List.filter_nil, AwS, TS, AwD, aval, aIndex, aSlice, aLen, BN, BW, BS, Int.cast_ofNat_Int, spl, splice, bind, ↓reduceIte, simprocAttr, Nat.min_def, r2, r4, r8, r16, r32, i64']
  refine AW_reg TB (fun D K hD hK => ?_)
  simp only [AwS, TS, AwD, aval, aIndex, aSlice, aLen, BN, BW, BS, Int.cast_ofNat_Int, spl, splice, bind, ↓reduceIte, simprocAttr, Nat.min_def, r2, r4, r8, r16, r32, i64']
  refine hD _ ?_
  clear hD hK D K
  refine AW_dregl TB mx ([[], [], [], [1, 2], [], [], [4, 5], [3, 1, 2, 6, 4, 5], [0, 7, 3, 1, 2, 6, 4, 5], [8, 0, 7, 3, 1, 2, 6, 4, 5]]) (by kernel_rfl) (by kernel_rfl) (fun D K hD hK => ?_)
  simp only [AwS, TS, AwD, aval, aIndex, aSlice, aLen, BN, BW, BS, Int.cast_ofNat_Int, spl, splice, bind, ↓reduceIte, simprocAttr, Op.operands, Call.operands, List.toList_toArray, List.size_toArray, cmp, List.getD_cons_zero, List.getD_cons_succ, Array.toList_append, Option.toArray, List.append_toArray,  Nat.min_def, r2, r4, r8, r16, r32, i64']
  refine hD _ ?_
  clear hD hK D K
  simp only [AwS, TS, AwD, aval, aIndex, aSlice, aLen, BN, BW, BS, Int.cast_ofNat_Int, spl, splice, bind, ↓reduceIte, simprocAttr, Nat.min_def, r2, r4, r8, r16, r32, i64']
  refine hK1 _ ?_
  refine AR_round (fun K2 hK2 => ?_)
  refine AW_seq ?_
  refine AW_reg TB (fun D K hD hK => ?_)
  simp only [AwS, TS, AwD, aval, aIndex, aSlice, aLen, BN, BW, BS, Int.cast_ofNat_Int, spl, splice, bind, ↓reduceIte, simprocAttr, Nat.min_def, r2, r4, r8, r16, r32, i64']
  refine hD _ ?_
  clear hD hK D K
  refine AW_true rfl (AW_skip ?_)
  simp only [seqQ]
  refine AW_block ?_
  refine AW_keep [7, 8, 9, 10] ?_
  simp only [List.filter_cons, List.filter_nil, AwS, TS, AwD, aval, aIndex, aSlice, aLen, BN, BW, BS, Int.cast_ofNat_Int, spl, splice, bind, ↓reduceIte, simprocAttr, Nat.min_def, r2, r4, r8, r16, r32, i64']
  refine AW_reg TB (fun D K hD hK => ?_)
  simp only [AwS, TS, AwD, aval, aIndex, aSlice, aLen, BN, BW, BS, Int.cast_ofNat_Int, spl, splice, bind, ↓reduceIte, simprocAttr, Nat.min_def, r2, r4, r8, r16, r32, i64']
  refine hD _ ?_
  clear hD hK D K
  refine AW_dregl TB mx ([[], [], [], [1, 2], [], [], [4, 5], [3, 1, 2, 6, 4, 5], [0, 7, 3, 1, 2, 6, 4, 5], [8, 0, 7, 3, 1, 2, 6, 4, 5]]) (by kernel_rfl) (by kernel_rfl) (fun D K hD hK => ?_)
  simp only [AwS, TS, AwD, aval, aIndex, aSlice, aLen, BN, BW, BS, Int.cast_ofNat_Int, spl, splice, bind, ↓reduceIte, simprocAttr, Op.operands, Call.operands, List.toList_toArray, List.size_toArray, cmp, List.getD_cons_zero, List.getD_cons_succ, Array.toList_append, Option.toArray, List.append_toArray,  Nat.min_def, r2, r4, r8, r16, r32, i64']
  refine hD _ ?_
  clear hD hK D K
  simp only [AwS, TS, AwD, aval, aIndex, aSlice, aLen, BN, BW, BS, Int.cast_ofNat_Int, spl, splice, bind, ↓reduceIte, simprocAttr, Nat.min_def, r2, r4, r8, r16, r32, i64']
  refine hK2 _ ?_
  refine AR_round (fun K3 hK3 => ?_)
  refine AW_seq ?_
  refine AW_reg TB (fun D K hD hK => ?_)
  simp only [AwS, TS, AwD, aval, aIndex, aSlice, aLen, BN, BW, BS, Int.cast_ofNat_Int, spl, splice, bind, ↓reduceIte, simprocAttr, Nat.min_def, r2, r4, r8, r16, r32, i64']
  refine hD _ ?_
  clear hD hK D K
  refine AW_true rfl (AW_skip ?_)
  simp only [seqQ]
  refine AW_block ?_
  refine AW_keep [7, 8, 9, 10] ?_
  simp only [List.filter_cons, List.filter_nil, AwS, TS, AwD, aval, aIndex, aSlice, aLen, BN, BW, BS, Int.cast_ofNat_Int, spl, splice, bind, ↓reduceIte, simprocAttr, Nat.min_def, r2, r4, r8, r16, r32, i64']
  refine AW_reg TB (fun D K hD hK => ?_)
  simp only [AwS, TS, AwD, aval, aIndex, aSlice, aLen, BN, BW, BS, Int.cast_ofNat_Int, spl, splice, bind, ↓reduceIte, simprocAttr, Nat.min_def, r2, r4, r8, r16, r32, i64']
  refine hD _ ?_
  clear hD hK D K
  refine AW_dregl TB mx ([[], [], [], [1, 2], [], [], [4, 5], [3, 1, 2, 6, 4, 5], [0, 7, 3, 1, 2, 6, 4, 5], [8, 0, 7, 3, 1, 2, 6, 4, 5]]) (by kernel_rfl) (by kernel_rfl) (fun D K hD hK => ?_)
  simp only [AwS, TS, AwD, aval, aIndex, aSlice, aLen, BN, BW, BS, Int.cast_ofNat_Int, spl, splice, bind, ↓reduceIte, simprocAttr, Op.operands, Call.operands, List.toList_toArray, List.size_toArray, cmp, List.getD_cons_zero, List.getD_cons_succ, Array.toList_append, Option.toArray, List.append_toArray,  Nat.min_def, r2, r4, r8, r16, r32, i64']
  refine hD _ ?_
  clear hD hK D K
  simp only [AwS, TS, AwD, aval, aIndex, aSlice, aLen, BN, BW, BS, Int.cast_ofNat_Int, spl, splice, bind, ↓reduceIte, simprocAttr, Nat.min_def, r2, r4, r8, r16, r32, i64']
  refine hK3 _ ?_
  refine AR_round (fun K4 hK4 => ?_)
  refine AW_seq ?_
  refine AW_reg TB (fun D K hD hK => ?_)
  simp only [AwS, TS, AwD, aval, aIndex, aSlice, aLen, BN, BW, BS, Int.cast_ofNat_Int, spl, splice, bind, ↓reduceIte, simprocAttr, Nat.min_def, r2, r4, r8, r16, r32, i64']
  refine hD _ ?_
  clear hD hK D K
  refine AW_true rfl (AW_skip ?_)
  simp only [seqQ]
  refine AW_block ?_
  refine AW_keep [7, 8, 9, 10] ?_
  simp only [List.filter_cons, List.filter_nil, AwS, TS, AwD, aval, aIndex, aSlice, aLen, BN, BW, BS, Int.cast_ofNat_Int, spl, splice, bind, ↓reduceIte, simprocAttr, Nat.min_def, r2, r4, r8, r16, r32, i64']
  refine AW_reg TB (fun D K hD hK => ?_)
  simp only [AwS, TS, AwD, aval, aIndex, aSlice, aLen, BN, BW, BS, Int.cast_ofNat_Int, spl, splice, bind, ↓reduceIte, simprocAttr, Nat.min_def, r2, r4, r8, r16, r32, i64']
  refine hD _ ?_
  clear hD hK D K
  refine AW_dregl TB mx ([[], [], [], [1, 2], [], [], [4, 5], [3, 1, 2, 6, 4, 5], [0, 7, 3, 1, 2, 6, 4, 5], [8, 0, 7, 3, 1, 2, 6, 4, 5]]) (by kernel_rfl) (by kernel_rfl) (fun D K hD hK => ?_)
  simp only [AwS, TS, AwD, aval, aIndex, aSlice, aLen, BN, BW, BS, Int.cast_ofNat_Int, spl, splice, bind, ↓reduceIte, simprocAttr, Op.operands, Call.operands, List.toList_toArray, List.size_toArray, cmp, List.getD_cons_zero, List.getD_cons_succ, Array.toList_append, Option.toArray, List.append_toArray,  Nat.min_def, r2, r4, r8, r16, r32, i64']
  refine hD _ ?_
  clear hD hK D K
  simp only [AwS, TS, AwD, aval, aIndex, aSlice, aLen, BN, BW, BS, Int.cast_ofNat_Int, spl, splice, bind, ↓reduceIte, simprocAttr, Nat.min_def, r2, r4, r8, r16, r32, i64']
  refine hK4 _ ?_
  refine AR_round (fun K5 hK5 => ?_)
  refine AW_seq ?_
  refine AW_reg TB (fun D K hD hK => ?_)
  simp only [AwS, TS, AwD, aval, aIndex, aSlice, aLen, BN, BW, BS, Int.cast_ofNat_Int, spl, splice, bind, ↓reduceIte, simprocAttr, Nat.min_def, r2, r4, r8, r16, r32, i64']
  refine hD _ ?_
  clear hD hK D K
  refine AW_true rfl (AW_skip ?_)
  simp only [seqQ]
  refine AW_block ?_
  refine AW_keep [7, 8, 9, 10] ?_
  simp only [List.filter_cons, List.filter_nil, AwS, TS, AwD, aval, aIndex, aSlice, aLen, BN, BW, BS, Int.cast_ofNat_Int, spl, splice, bind, ↓reduceIte, simprocAttr, Nat.min_def, r2, r4, r8, r16, r32, i64']
  refine AW_reg TB (fun D K hD hK => ?_)
  simp only [AwS, TS, AwD, aval, aIndex, aSlice, aLen, BN, BW, BS, Int.cast_ofNat_Int, spl, splice, bind, ↓reduceIte, simprocAttr, Nat.min_def, r2, r4, r8, r16, r32, i64']
  refine hD _ ?_
  clear hD hK D K
  refine AW_dregl TB mx ([[], [], [], [1, 2], [], [], [4, 5], [3, 1, 2, 6, 4, 5], [0, 7, 3, 1, 2, 6, 4, 5], [8, 0, 7, 3, 1, 2, 6, 4, 5]]) (by kernel_rfl) (by kernel_rfl) (fun D K hD hK => ?_)
  simp only [AwS, TS, AwD, aval, aIndex, aSlice, aLen, BN, BW, BS, Int.cast_ofNat_Int, spl, splice, bind, ↓reduceIte, simprocAttr, Op.operands, Call.operands, List.toList_toArray, List.size_toArray, cmp, List.getD_cons_zero, List.getD_cons_succ, Array.toList_append, Option.toArray, List.append_toArray,  Nat.min_def, r2, r4, r8, r16, r32, i64']
  refine hD _ ?_
  clear hD hK D K
  simp only [AwS, TS, AwD, aval, aIndex, aSlice, aLen, BN, BW, BS, Int.cast_ofNat_Int, spl, splice, bind, ↓reduceIte, simprocAttr, Nat.min_def, r2, r4, r8, r16, r32, i64']
  refine hK5 _ ?_
  refine AR_round (fun K6 hK6 => ?_)
  refine AW_seq ?_
  refine AW_reg TB (fun D K hD hK => ?_)
  simp only [AwS, TS, AwD, aval, aIndex, aSlice, aLen, BN, BW, BS, Int.cast_ofNat_Int, spl, splice, bind, ↓reduceIte, simprocAttr, Nat.min_def, r2, r4, r8, r16, r32, i64']
  refine hD _ ?_
  clear hD hK D K
  refine AW_true rfl (AW_skip ?_)
  simp only [seqQ]
  refine AW_block ?_
  refine AW_keep [7, 8, 9, 10] ?_
  simp only [List.filter_cons, List.filter_nil, AwS, TS, AwD, aval, aIndex, aSlice, aLen, BN, BW, BS, Int.cast_ofNat_Int, spl, splice, bind, ↓reduceIte, simprocAttr, Nat.min_def, r2, r4, r8, r16, r32, i64']
  refine AW_reg TB (fun D K hD hK => ?_)
  simp only [AwS, TS, AwD, aval, aIndex, aSlice, aLen, BN, BW, BS, Int.cast_ofNat_Int, spl, splice, bind, ↓reduceIte, simprocAttr, Nat.min_def, r2, r4, r8, r16, r32, i64']
  refine hD _ ?_
  clear hD hK D K
  refine AW_dregl TB mx ([[], [], [], [1, 2], [], [], [4, 5], [3, 1, 2, 6, 4, 5], [0, 7, 3, 1, 2, 6, 4, 5], [8, 0, 7, 3, 1, 2, 6, 4, 5]]) (by kernel_rfl) (by kernel_rfl) (fun D K hD hK => ?_)
  simp only [AwS, TS, AwD, aval, aIndex, aSlice, aLen, BN, BW, BS, Int.cast_ofNat_Int, spl, splice, bind, ↓reduceIte, simprocAttr, Op.operands, Call.operands, List.toList_toArray, List.size_toArray, cmp, List.getD_cons_zero, List.getD_cons_succ, Array.toList_append, Option.toArray, List.append_toArray,  Nat.min_def, r2, r4, r8, r16, r32, i64']
  refine hD _ ?_
  clear hD hK D K
  simp only [AwS, TS, AwD, aval, aIndex, aSlice, aLen, BN, BW, BS, Int.cast_ofNat_Int, spl, splice, bind, ↓reduceIte, simprocAttr, Nat.min_def, r2, r4, r8, r16, r32, i64']
  refine hK6 _ ?_
  refine AR_round (fun K7 hK7 => ?_)
  refine AW_seq ?_
  refine AW_reg TB (fun D K hD hK => ?_)
  simp only [AwS, TS, AwD, aval, aIndex, aSlice, aLen, BN, BW, BS, Int.cast_ofNat_Int, spl, splice, bind, ↓reduceIte, simprocAttr]
  refine hD _ ?_
  clear hD hK D K
  refine AW_false rfl (AW_exit ?_)
  refine hK0 _ ?_
  refine AW_reg TB (fun D K hD hK => ?_)
  simp only [AwS, TS, AwD, aval, aIndex, aSlice, aLen, BN, BW, BS, Int.cast_ofNat_Int, spl, splice, bind, ↓reduceIte, simprocAttr]
  refine hD _ ?_
  clear hD hK D K
  refine AW_ret ?_
  simp only [Ret]
  exact ret_sl _ _ _ _ _ rfl rfl rfl (fun f => bws_map f (List.replicate 64 x)) rfl

end Go.Proofs.YtgbpgplkhifgiaaDoor

/- The walks of HMAC, MAC and Derive. No condition. -/
set_option linter.unusedVariables false
set_option linter.unusedSimpArgs false
set_option maxRecDepth 100000
namespace Go.Proofs.YtgbpgplkhifgiaaDoor
open Go Go.RowKit

def padX (key : List UInt8) (x : UInt8) (i : Nat) : List UInt8 := (key.take i).map (x ^^^ ·) ++ List.replicate (64 - i) x
def padK (key : List UInt8) (x : UInt8) : List UInt8 := padX key x key.length

theorem padX_len (key : List UInt8) (x : UInt8) (i : Nat) (hi : i ≤ key.length) (hk : key.length ≤ 64) : (padX key x i).length = 64 := by
  simp [padX]; omega
theorem padX_get (key : List UInt8) (x : UInt8) (i : Nat) (hi : i < key.length) (hk : key.length ≤ 64) : ((padX key x i).map bw)[i]? = some (bw x) := by
  have h1 : ((key.take i).map (x ^^^ ·)).length = i := by simp; omega
  simp only [padX, List.getElem?_map]
  rw [List.getElem?_append_right (by omega), h1, Nat.sub_self, List.getElem?_replicate, if_pos (by omega)]
  rfl
theorem padX_set (key : List UInt8) (x : UInt8) (i : Nat) (hi : i < key.length) (hk : key.length ≤ 64) : ((padX key x i).map bw).set i (bw (x ^^^ key[i])) = (padX key x (i + 1)).map bw := by
  have h1 : ((key.take i).map (x ^^^ ·)).length = i := by simp; omega
  rw [← List.map_set]
  congr 1
  simp only [padX]
  rw [List.set_append_right _ _ (by omega), h1, Nat.sub_self, show 64 - i = (64 - (i + 1)) + 1 by omega, List.replicate_succ, List.set_cons_zero, List.take_succ_eq_append_getElem hi, List.map_append, List.append_assoc]
  rfl

def padWF (k : Bool) (key : List UInt8) (x : UInt8) (i : Nat) : St :=
  { nt := 26, nx := 2, tm := [(12, iv i), (11, iv key.length), (10, .ds k key.length (key.map bw)), (4, .sl 1 0 64 1 (some 5))], bx := [(0, some [.ds k key.length (key.map bw)]), (1, some ((padX key x i).map bw))], gl := [], df := [] }

theorem pad_spec (x : UInt8) (k : Bool) (key : List UInt8) (hk : key.length ≤ 64) : Spec Tryd.prog [] 159 [bw x, .ptr 0 0] [[.ds k key.length (key.map bw)]]
    (fun o => o = .ret (.sl 1 0 64 1 (some 5)) [[.ds k key.length (key.map bw)]] [(padK key x).map bw]) := by
  refine spec_of TB 26 [.tmp 3] Tryd.func159 rfl rfl rfl (Nat.le_of_ble_eq_true rfl) ?_
  intro X w0 E0 hE hX
  simp only [idx, List.map_cons, List.map_nil, List.length_cons, List.length_nil]
  refine AW_reg TB (fun D K hD hK => ?_)
  simp only [AwS, TS, AwD, aval, aIndex, aSlice, aLen, BN, BW, BS, Int.cast_ofNat_Int, spl, splice, bind, ↓reduceIte, simprocAttr]
  refine hD _ ?_
  clear hD hK D K
  refine AW_reg TB (fun D K hD hK => ?_)
  simp only [AwS, TS, AwD, aval, aIndex, aSlice, aLen, BN, BW, BS, Int.cast_ofNat_Int, spl, splice, bind, ↓reduceIte, simprocAttr]
  refine hK _ _ ?_
  clear hD hK D K
  refine AL_callD rfl rfl rfl rfl en_160 (repeat_spec x) [] [17] rfl (by simp) (by simp) ?_ (by simp) (by simp [blook]) rfl (by simp) ?_
  · simp [evs, St.ev, cav, alook, lendA, lentBx, lendC, blook, AVs.map, AV.map, ioMap]
  have hx0 : (List.replicate 64 x).map bw = (padX key x 0).map bw := by simp [padX]
  rw [hx0]
  refine AL_runR TB _ _ (fun D K hD hK => ?_)
  simp only [AwS, TS, AwD, aval, aIndex, aSlice, aLen, BN, BW, BS, Int.cast_ofNat_Int, spl, splice, bind, ↓reduceIte, simprocAttr, bws_map]
  refine hD _ ?_
  clear hD hK D K
  refine AW_seqk (fun K0 hK0 => ?_)
  refine AW_reg TB (fun D K hD hK => ?_)
  simp only [AwS, TS, AwD, aval, aIndex, aSlice, aLen, BN, BW, BS, Int.cast_ofNat_Int, spl, splice, bind, ↓reduceIte, simprocAttr]
  refine hD _ ?_
  clear hD hK D K
  refine AW_block ?_
  refine AW_loop (padWF k key x) (fun i => i ≤ key.length) (fun i => key.length - i) hE 0 [(0, 0), (1, 25)] (by omega) ?_ ?_
  · refine ⟨rfl, by simp [padWF, alook, AV.map, AVs.map, bws_map], ⟨rfl, rfl⟩, ?_, ?_, by simp [padWF], by simp [padWF, nmap], ?_⟩
    · simp [padWF, alook, AV.map, AVs.map, nmap, AVs_map_append, ivs_map, yvs_map, bws_map]
    · simp [padWF, blook, AV.map, AVs.map, nmap, AVs_map_append, ivs_map, yvs_map, bws_map]
    · intro k hk
      have hk2 : k < 1 := hk
      rcases k with _ | k <;> first | rfl | omega
  intro i hi
  simp only [padWF]
  have g3 := padX_len key x i hi hk
  refine AW_reg TB (fun D K hD hK => ?_)
  simp only [AwS, TS, AwD, aval, aIndex, aSlice, aLen, BN, BW, BS, Int.cast_ofNat_Int, spl, splice, bind, ↓reduceIte, simprocAttr]
  refine hD _ ?_
  clear hD hK D K
  refine AW_seq (AW_cond rfl (fun h => AW_skip ?_) (fun h => AW_exit ?_))
  · have hlt : i < key.length := by simpa using h
    have c1 : (0 ≤ (i : Int) ∧ (i : Int) < key.length) = True := by simp; omega
    have c2 : (List.drop i (key.map bw))[0]? = some (bw key[i]) := by simp [hlt]
    have c4 : (0 ≤ (i : Int) ∧ (i : Int) < 64) = True := by simp; omega
    have c5 : (i + 1 ≤ 64) = True := by simp; omega
    have w1 : IntKind.i64.wrap ((i : Int) + 1) = (i : Int) + 1 := wrap_i64 (by omega) (by omega)
    have g1 := padX_get key x i hlt hk
    have g2 := padX_set key x i hlt hk
    have g4 : ((padX key x i).map bw).length = 64 := by rw [List.length_map]; exact g3
    refine AW_seqk (fun K1 hK1 => ?_)
    refine AW_block ?_
    refine AW_reg TB (fun D K hD hK => ?_)
    simp only [AwS, TS, AwD, aval, aIndex, aSlice, aLen, BN, BW, BS, Int.cast_ofNat_Int, spl, splice, bind, ↓reduceIte, simprocAttr, c1, Int.toNat_natCast, Nat.mul_one, c2]
    refine hD _ ?_
    clear hD hK D K
    refine AW_regl TB (fun D K hD hK => ?_)
    simp only [AwS, TS, AwD, aval, aIndex, aSlice, aLen, BN, BW, BS, Int.cast_ofNat_Int, spl, splice, bind, ↓reduceIte, simprocAttr, c4, c5, g1, g2, g3, g4, Int.toNat_natCast]
    refine hD _ ?_
    clear hD hK D K
    refine hK1 _ ?_
    refine AW_regl TB (fun D K hD hK => ?_)
    simp only [AwS, TS, AwD, aval, aIndex, aSlice, aLen, BN, BW, BS, Int.cast_ofNat_Int, spl, splice, bind, ↓reduceIte, simprocAttr, w1]
    refine hD _ ?_
    clear hD hK D K
    refine ⟨i + 1, [(0, 0), (1, 1)], by omega, by dsimp only; omega, ?_⟩
    refine ⟨rfl, by simp [padWF, alook, AV.map, AVs.map, bws_map], ⟨rfl, rfl⟩, ?_, ?_, by simp [padWF], by simp [padWF, nmap], ?_⟩
    · simp [padWF, alook, AV.map, AVs.map, nmap, AVs_map_append, ivs_map, yvs_map, bws_map]
    · simp [padWF, blook, AV.map, AVs.map, nmap, AVs_map_append, ivs_map, yvs_map, bws_map]
    · intro k hk
      have hk2 : k < 1 := hk
      rcases k with _ | k <;> first | rfl | omega
  · have hge : i = key.length := by
      have : ¬ i < key.length := by simpa using h
      omega
    subst hge
    refine hK0 _ ?_
    refine AW_reg TB (fun D K hD hK => ?_)
    simp only [AwS, TS, AwD, aval, aIndex, aSlice, aLen, BN, BW, BS, Int.cast_ofNat_Int, spl, splice, bind, ↓reduceIte, simprocAttr]
    refine hD _ ?_
    clear hD hK D K
    refine AW_ret ?_
    simp only [Ret]
    refine ⟨.sl 1 0 64 1 (some 5), [[.ds k key.length (key.map bw)]], [(padK key x).map bw], [(0, 0), (1, 1)], rfl, ?_, ?_, rfl⟩
    · simp [resOf, resAll, resAV, alook, blook, AV.known, loadC, AwS, TS, TD.isAgg, AV.map, AVs.map, nmap]
    · refine ⟨rfl, by simp [leftSt], ⟨rfl, rfl⟩, by simp [leftSt], ?_, by simp [leftSt], by simp [leftSt, idx, nmap], ?_⟩
      · simp [leftSt, idx, blook, nmap, AVs.map, AV.map, bws_map, padK]
      · intro q hq
        have hq2 : q < 1 := hq
        rcases q with _ | q <;> first | rfl | omega

end Go.Proofs.YtgbpgplkhifgiaaDoor

/- The walks of HMAC (keys of at most a block), MAC and Derive. No condition. -/
set_option linter.unusedVariables false
set_option linter.unusedSimpArgs false
set_option maxRecDepth 100000
namespace Go.Proofs.YtgbpgplkhifgiaaDoor
open Go Go.RowKit

def hmac (key b : List UInt8) : List UInt8 := sum (padK key 92 ++ sum (padK key 54 ++ b))
theorem hmac_len (key b : List UInt8) : (hmac key b).length = 32 := sum_len _
theorem padK_len (key : List UInt8) (x : UInt8) (hk : key.length ≤ 64) : (padK key x).length = 64 := padX_len key x _ (Nat.le_refl _) hk

theorem hmac_spec (k kb : Bool) (key b : List UInt8) (hk : key.length ≤ 64) (hb : b.length ≤ 10000000) : Spec Tryd.prog glS 146 [.ds k key.length (key.map bw), .ds kb b.length (b.map bw)] [] (fun o => o = .ret (.agg ((hmac key b).map bw)) [] []) := by
  refine spec_of TB 25 [.cell 4 128] Tryd.func146 rfl rfl rfl (Nat.le_of_ble_eq_true rfl) ?_
  intro X w0 E0 hE hX
  simp only [idx, List.map_nil, List.length_nil]
  have c0 : ((key.length : Int) > 64) = False := by simp; omega
  refine AW_reg TB (fun D K hD hK => ?_)
  simp only [AwS, TS, AwD, aval, aIndex, aSlice, aLen, BN, BW, BS, Int.cast_ofNat_Int, spl, splice, bind, ↓reduceIte, simprocAttr]
  refine hD _ ?_
  clear hD hK D K
  refine AW_seq ?_
  refine AW_reg TB (fun D K hD hK => ?_)
  simp only [AwS, TS, AwD, aval, aIndex, aSlice, aLen, BN, BW, BS, Int.cast_ofNat_Int, spl, splice, bind, ↓reduceIte, simprocAttr]
  refine hD _ ?_
  clear hD hK D K
  refine AW_cond rfl (fun h => ?_) (fun h => AW_skip ?_)
  · exact absurd (by simpa using h) (show ¬ (64 : Int) < key.length by omega)
  simp only [seqQ]
  refine AW_reg TB (fun D K hD hK => ?_)
  simp only [AwS, TS, AwD, aval, aIndex, aSlice, aLen, BN, BW, BS, Int.cast_ofNat_Int, spl, splice, bind, ↓reduceIte, simprocAttr]
  refine hD _ ?_
  clear hD hK D K
  refine AW_reg TB (fun D K hD hK => ?_)
  simp only [AwS, TS, AwD, aval, aIndex, aSlice, aLen, BN, BW, BS, Int.cast_ofNat_Int, spl, splice, bind, ↓reduceIte, simprocAttr]
  refine hK _ _ ?_
  clear hD hK D K
  refine AL_callD rfl rfl rfl rfl en_159 (pad_spec 54 k key hk) [0] [] rfl (by simp) (by simp) ?_ (hio_of ?_) (by simp) rfl (by simp) ?_
  · simp [evs, St.ev, cav, alook, lendA, lentBx, lendC, blook, AVs.map, AV.map, ioMap]
  · simp [blook, AVs.map, AV.map, bws_map]
  have p1 := padK_len key 54 hk
  generalize hpa : padK key 54 = pa at p1
  have c1 : (64 + b.length ≤ 4294967296) = True := by simp; omega
  refine AL_runR TB _ _ (fun D K hD hK => ?_)
  simp only [AwS, TS, AwD, aval, aIndex, aSlice, aLen, BN, BW, BS, Int.cast_ofNat_Int, spl, splice, bind, ↓reduceIte, simprocAttr, bws_map, bws_take, bws_cell, c1, p1, List.length_map]
  refine hK _ _ ?_
  clear hD hK D K
  have hq : 64 + b.length = (pa ++ b).length := by simp [p1]
  rw [hq, ← List.map_append]
  have hql : (pa ++ b).length ≤ 100000000 := by simp [p1]; omega
  generalize hqe : pa ++ b = q at hql
  refine AL_callG rfl rfl rfl rfl en_111 (sum_spec q false hql) [80] ?_ (by simp [blook]) rfl (by simp only [AV.map, bws_map]) (by simp [alook, AV.map, cs_map, wws_map]) ?_
  · simp [evs, St.ev, cav, alook, lendA, lentBx, lendC, blook, AVs.map, AV.map, ioMap, bws_map, -List.map_map, lendC_bws, bws_take]
  have hsl := sum_len q
  generalize hse : sum q = h1 at hsl
  have q1 : spl (List.replicate 32 (.val (.int .u8 0))) 0 (h1.map bw) = h1.map bw := spl_all (by simp [hsl]) (by simp [hsl])
  simp only [List.replicate] at q1
  have q2 : List.take 32 (h1.map bw) = h1.map bw := List.take_of_length_le (by simp [hsl])
  have q3 : (h1.map bw).length = 32 := by simp [hsl]
  refine AL_runR TB _ _ (fun D K hD hK => ?_)
  simp only [AwS, TS, AwD, aval, aIndex, aSlice, aLen, BN, BW, BS, Int.cast_ofNat_Int, spl, splice, bind, ↓reduceIte, simprocAttr, q1, q3, bws_cell, -spl]
  refine hD _ ?_
  clear hD hK D K
  have n1 : ((1 : Nat) ≠ 0) = True := by simp
  refine AW_dreg TB mx ([[], [0], [], [1, 0, 2], [3, 1, 0, 2], [4, 3, 1, 0, 2]]) (by kernel_rfl) (by kernel_rfl) (fun D K hD hK => ?_)
  simp only [AwS, TS, AwD, aval, aIndex, aSlice, aLen, BN, BW, BS, Int.cast_ofNat_Int, spl, splice, bind, ↓reduceIte, simprocAttr, Op.operands, Call.operands, List.toList_toArray, List.size_toArray, cmp, List.getD_cons_zero, List.getD_cons_succ, Array.toList_append, Option.toArray, List.append_toArray,]
  refine hK _ _ _ _ ?_
  clear hD hK D K
  refine DL_call rfl rfl rfl rfl rfl en_159 (pad_spec 92 k key hk) (fun out h => h) [0] [] rfl rfl (by simp) (by simp) ?_ (hio_of ?_) (by simp) (by simp) rfl (by simp) rfl ?_
  · simp [evs, St.ev, cav, alook, lendA, lentBx, lendC, blook, AVs.map, AV.map, ioMap]
  · simp [blook, AVs.map, AV.map, bws_map]
  have p2 := padK_len key 92 hk
  generalize hpb : padK key 92 = pb at p2
  refine DL_rest TB rfl (fun D K hD hK => ?_)
  simp only [AwS, TS, AwD, aval, aIndex, aSlice, aLen, BN, BW, BS, Int.cast_ofNat_Int, spl, splice, bind, ↓reduceIte, simprocAttr, Op.operands, Call.operands, List.toList_toArray, List.size_toArray, cmp, List.getD_cons_zero, List.getD_cons_succ, Array.toList_append, Option.toArray, List.append_toArray, bws_map, bws_take, bws_cell, q2, q3, p2, hsl, n1, List.length_map]
  refine hK _ _ _ _ ?_
  clear hD hK D K
  have hlen : (pb ++ h1).length = 96 := by simp [p2, hsl]
  have q5 : List.take 96 (pb.map bw ++ h1.map bw) = pb.map bw ++ h1.map bw := List.take_of_length_le (by simp [p2, hsl])
  have ss := sum_spec (pb ++ h1) false (by omega)
  rw [hlen] at ss
  refine DL_call rfl rfl rfl rfl rfl en_111 ss (fun out h => h) [] [136] rfl rfl (by simp) (by simp) ?_ (by simp) (by simp [blook]) (by simp [alook, AV.map, cs_map, wws_map]) (by simp [keptAll, AV.kept, bws_kept]) (by simp) rfl ?_
  · simp [evs, St.ev, cav, alook, lendA, lentBx, lendC, blook, AVs.map, AV.map, ioMap, bws_map, -List.map_map, lendC_bws, bws_take, q5, AVs_map_append]
  have hres : sum (pb ++ h1) = hmac key b := by rw [hmac, hpa, hpb, hqe, hse]
  rw [hres]
  have hml := hmac_len key b
  generalize hmac key b = m at hml
  have z1 : spl (List.replicate 32 (.val (.int .u8 0))) 0 (m.map bw) = m.map bw := spl_all (by simp [hml]) (by simp [hml])
  simp only [List.replicate] at z1
  have z2 : List.take 32 (m.map bw) = m.map bw := List.take_of_length_le (by simp [hml])
  have z3 : (m.map bw).length = 32 := by simp [hml]
  refine DL_rest TB rfl (fun D K hD hK => ?_)
  simp only [AwS, TS, AwD, aval, aIndex, aSlice, aLen, BN, BW, BS, Int.cast_ofNat_Int, spl, splice, bind, ↓reduceIte, simprocAttr, Op.operands, Call.operands, List.toList_toArray, List.size_toArray, cmp, List.getD_cons_zero, List.getD_cons_succ, Array.toList_append, Option.toArray, List.append_toArray, z1, z2, z3, bws_cell, bws_map, -spl]
  refine hD _ ?_
  clear hD hK D K
  refine AW_ret ?_
  simp only [Ret]
  refine retp (.agg (m.map bw)) rfl ?_ (by simp only [AV.map, bws_map]) rfl
  simp only [resOf, resAll, resAV, AwS, TS, AwD, aval, aIndex, aSlice, aLen, BN, BW, BS, Int.cast_ofNat_Int, spl, splice, bind, ↓reduceIte, simprocAttr, z2, z3]

end Go.Proofs.YtgbpgplkhifgiaaDoor

/- The walks of MAC and Derive. No condition. -/
set_option linter.unusedVariables false
set_option linter.unusedSimpArgs false
set_option maxRecDepth 100000
namespace Go.Proofs.YtgbpgplkhifgiaaDoor
open Go Go.RowKit

def mac (key b : List UInt8) : List UInt8 := (hmac key b).take 16
theorem mac_len (key b : List UInt8) : (mac key b).length = 16 := by simp [mac, hmac_len]


theorem mac_spec (k kb : Bool) (key b : List UInt8) (hk : key.length ≤ 64) (hb : b.length ≤ 10000000) : Spec Tryd.prog glS 126 [.ds k key.length (key.map bw), .ds kb b.length (b.map bw)] [] (fun o => o = .ret (.agg ((mac key b).map bw)) [] []) := by
  refine spec_of TB 9 [.cell 4 23] Tryd.func126 rfl rfl rfl (Nat.le_of_ble_eq_true rfl) ?_
  intro X w0 E0 hE hX
  simp only [idx, List.map_nil, List.length_nil]
  refine AW_reg TB (fun D K hD hK => ?_)
  simp only [AwS, TS, AwD, aval, aIndex, aSlice, aLen, BN, BW, BS, Int.cast_ofNat_Int, spl, splice, bind, ↓reduceIte, simprocAttr]
  refine hD _ ?_
  clear hD hK D K
  refine AW_reg TB (fun D K hD hK => ?_)
  simp only [AwS, TS, AwD, aval, aIndex, aSlice, aLen, BN, BW, BS, Int.cast_ofNat_Int, spl, splice, bind, ↓reduceIte, simprocAttr]
  refine hK _ _ ?_
  clear hD hK D K
  refine AL_callG rfl rfl rfl rfl en_146 (hmac_spec k kb key b hk hb) [] ?_ (by simp) rfl (by simp only [AV.map, bws_map]) (by simp [alook, AV.map, cs_map, wws_map]) ?_
  · simp [evs, St.ev, cav, alook, lendA, lentBx, lendC, blook, AVs.map, AV.map, ioMap, bws_map]
  have hml := hmac_len key b
  have hmd : mac key b = (hmac key b).take 16 := rfl
  generalize hmac key b = h at hml hmd
  refine AL_runR TB _ _ (fun D K hD hK => ?_)
  simp only [AwS, TS, AwD, aval, aIndex, aSlice, aLen, BN, BW, BS, Int.cast_ofNat_Int, spl, splice, bind, ↓reduceIte, simprocAttr]
  refine hK _ _ ?_
  clear hD hK D K
  refine AL_callP rfl rfl rfl rfl en_110 (short_spec h hml) [] ?_ (by simp) rfl (by simp only [AV.map, bws_map]) ?_
  · simp [evs, St.ev, cav, alook, lendA, lentBx, lendC, blook, AVs.map, AV.map, ioMap, bws_map]
  rw [← hmd]
  have hdl : (mac key b).length = 16 := mac_len key b
  generalize mac key b = d at hdl
  have z1 : spl (List.replicate 16 (.val (.int .u8 0))) 0 (d.map bw) = d.map bw := spl_all (by simp [hdl]) (by simp [hdl])
  simp only [List.replicate] at z1
  have z2 : List.take 16 (d.map bw) = d.map bw := List.take_of_length_le (by simp [hdl])
  have z3 : (d.map bw).length = 16 := by simp [hdl]
  refine AL_runR TB _ _ (fun D K hD hK => ?_)
  simp only [AwS, TS, AwD, aval, aIndex, aSlice, aLen, BN, BW, BS, Int.cast_ofNat_Int, spl, splice, bind, ↓reduceIte, simprocAttr, z1, z2, z3, bws_cell, bws_map, -spl]
  refine hD _ ?_
  clear hD hK D K
  refine AW_ret ?_
  simp only [Ret]
  refine retp (.agg (d.map bw)) rfl ?_ (by simp only [AV.map, bws_map]) rfl
  simp only [resOf, resAll, resAV, AwS, TS, AwD, aval, aIndex, aSlice, aLen, BN, BW, BS, Int.cast_ofNat_Int, spl, splice, bind, ↓reduceIte, simprocAttr, z2, z3]

def derive (key label : List UInt8) (ps : List (Bool × List UInt8)) : List UInt8 := mac key (wBytes label ++ wAll ps)

theorem derive_spec (k kp : Bool) (key label : List UInt8) (ps : List (Bool × List UInt8)) (hk : key.length ≤ 64) (hll : label.length ≤ 1000) (hn : ps.length ≤ 1000) (hl : (wAll ps).length ≤ 1000000) :
    Spec Tryd.prog glS 109 [.ds k key.length (key.map bw), sv (strOf label), .ds kp ps.length (ps.map pA)] [] (fun o => o = .ret (.agg ((derive key label ps).map bw)) [] []) := by
  refine spec_of TB 13 [.cell 6 23] Tryd.func109 rfl rfl rfl (Nat.le_of_ble_eq_true rfl) ?_
  intro X w0 E0 hE hX
  have hwb := wBytes_len label
  simp only [idx, List.map_nil, List.length_nil]
  refine AW_reg TB (fun D K hD hK => ?_)
  simp only [AwS, TS, AwD, aval, aIndex, aSlice, aLen, BN, BW, BS, Int.cast_ofNat_Int, spl, splice, bind, ↓reduceIte, simprocAttr]
  refine hD _ ?_
  clear hD hK D K
  refine AW_reg TB (fun D K hD hK => ?_)
  simp only [AwS, TS, AwD, aval, aIndex, aSlice, aLen, BN, BW, BS, Int.cast_ofNat_Int, spl, splice, bind, ↓reduceIte, simprocAttr]
  refine hK _ _ ?_
  clear hD hK D K
  refine AL_callD rfl rfl rfl rfl en_127 (wbytes_spec label (by omega)) [] [] rfl (by simp) (by simp) ?_ (by simp) (by simp) rfl (by simp) ?_
  · simp [evs, St.ev, cav, alook, lendA, lentBx, lendC, blook, AVs.map, AV.map, ioMap, strOf]
  refine AL_runR TB _ _ (fun D K hD hK => ?_)
  simp only [AwS, TS, AwD, aval, aIndex, aSlice, aLen, BN, BW, BS, Int.cast_ofNat_Int, spl, splice, bind, ↓reduceIte, simprocAttr, bws_map]
  refine hK _ _ ?_
  clear hD hK D K
  refine AL_callV rfl (.inl rfl) rfl rfl en_112 (join_spec (wBytes label) kp ps hn (by omega)) [] [24] [] rfl rfl (by simp) (by simp) ?_ (hio_of ?_) (by simp) (by simp) (fun x io' nb hR _ => ?_)
  · simp [evs, St.ev, cav, alook, lendA, lentBx, lendC, blook, AVs.map, AV.map, ioMap, pAs_map]
  · simp [blook, bws_map]
  simp only [Out.ret.injEq] at hR
  obtain ⟨rfl, rfl, rfl⟩ := hR
  refine ⟨rfl, by simp, ?_⟩
  have hd : derive key label ps = mac key (wBytes label ++ wAll ps) := rfl
  have hl2 : (wBytes label ++ wAll ps).length ≤ 10000000 := by simp; omega
  generalize wBytes label ++ wAll ps = q at hd hl2
  simp only [St.behindG]
  refine AL_runR TB _ _ (fun D K hD hK => ?_)
  simp only [AwS, TS, AwD, aval, aIndex, aSlice, aLen, BN, BW, BS, Int.cast_ofNat_Int, spl, splice, bind, ↓reduceIte, simprocAttr, bws_map]
  refine hK _ _ ?_
  clear hD hK D K
  refine AL_callG rfl rfl rfl rfl en_126 (mac_spec k false key q hk hl2) [40] ?_ (by simp [blook]) rfl (by simp only [AV.map, bws_map]) (by simp [alook, AV.map, cs_map, wws_map]) ?_
  · simp [evs, St.ev, cav, alook, lendA, lentBx, lendC, blook, AVs.map, AV.map, ioMap, bws_map, -List.map_map, lendC_bws, bws_take]
  rw [← hd]
  have hdl : (derive key label ps).length = 16 := mac_len _ _
  generalize derive key label ps = d at hdl
  have z1 : spl (List.replicate 16 (.val (.int .u8 0))) 0 (d.map bw) = d.map bw := spl_all (by simp [hdl]) (by simp [hdl])
  simp only [List.replicate] at z1
  have z2 : List.take 16 (d.map bw) = d.map bw := List.take_of_length_le (by simp [hdl])
  have z3 : (d.map bw).length = 16 := by simp [hdl]
  refine AL_runR TB _ _ (fun D K hD hK => ?_)
  simp only [AwS, TS, AwD, aval, aIndex, aSlice, aLen, BN, BW, BS, Int.cast_ofNat_Int, spl, splice, bind, ↓reduceIte, simprocAttr, z1, z2, z3, bws_cell, bws_map, -spl]
  refine hD _ ?_
  clear hD hK D K
  refine AW_ret ?_
  simp only [Ret]
  refine retp (.agg (d.map bw)) rfl ?_ (by simp only [AV.map, bws_map]) rfl
  simp only [resOf, resAll, resAV, AwS, TS, AwD, aval, aIndex, aSlice, aLen, BN, BW, BS, Int.cast_ofNat_Int, spl, splice, bind, ↓reduceIte, simprocAttr, z2, z3]

end Go.Proofs.YtgbpgplkhifgiaaDoor
