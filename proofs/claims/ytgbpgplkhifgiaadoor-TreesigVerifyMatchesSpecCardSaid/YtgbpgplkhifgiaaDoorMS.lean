/- Words and bytes as the walks of the hash read them. No condition. -/
import Derived.Test.YtgbpgplkhifgiaaDoorMC
import Derived.Test.YtgbpgplkhifgiaaDoorMTab
set_option linter.unusedVariables false
set_option linter.unusedSimpArgs false
namespace Go.Proofs.YtgbpgplkhifgiaaDoor
open Go Go.RowKit

abbrev bw (x : UInt8) : AV := .val (.int .u8 (x.toNat : Int))
abbrev ww (x : UInt32) : AV := .val (.int .u32 (x.toNat : Int))
abbrev dw (x : UInt64) : AV := .val (.int .u64 (x.toNat : Int))

theorem bws_map (f : Nat → Nat) (xs : List UInt8) : AVs.map f (xs.map bw) = xs.map bw := AVs_map_map (fun _ => rfl) xs
theorem wws_map (f : Nat → Nat) (xs : List UInt32) : AVs.map f (xs.map ww) = xs.map ww := AVs_map_map (fun _ => rfl) xs

def shl32 (x : UInt32) (n : Nat) : UInt32 := UInt32.ofNat (x.toNat * 2 ^ n)
def shr32 (x : UInt32) (n : Nat) : UInt32 := UInt32.ofNat (x.toNat / 2 ^ n)
def shl64 (x : UInt64) (n : Nat) : UInt64 := UInt64.ofNat (x.toNat * 2 ^ n)
def shr64 (x : UInt64) (n : Nat) : UInt64 := UInt64.ofNat (x.toNat / 2 ^ n)
def wordOf (n : Int) : UInt64 := UInt64.ofNat (n % 18446744073709551616).toNat
def byteOf (n : Int) : UInt8 := UInt8.ofNat (n % 256).toNat

theorem lt32 (x : UInt32) : x.toNat < 4294967296 := x.toNat_lt
theorem lt64 (x : UInt64) : x.toNat < 18446744073709551616 := x.toNat_lt
theorem lt8 (x : UInt8) : x.toNat < 256 := x.toNat_lt

theorem wr32 (n : Nat) : IntKind.u32.wrap (n : Int) = ((n % 4294967296 : Nat) : Int) := by
  simp only [IntKind.wrap, IntKind.signed, IntKind.bits]; simp
theorem wr64 (n : Nat) : IntKind.u64.wrap (n : Int) = ((n % 18446744073709551616 : Nat) : Int) := by
  simp only [IntKind.wrap, IntKind.signed, IntKind.bits]; simp
theorem wr8 (n : Nat) : IntKind.u8.wrap (n : Int) = ((n % 256 : Nat) : Int) := by
  simp only [IntKind.wrap, IntKind.signed, IntKind.bits]; simp

/-! Numbers of one kind -/
theorem n_add (k : IntKind) (a b : Int) : aBin .add (.int k a) (.int k b) = binI .add k a b := by simp [aBin]
theorem n_sub (k : IntKind) (a b : Int) : aBin .sub (.int k a) (.int k b) = binI .sub k a b := by simp [aBin]
theorem n_mul (k : IntKind) (a b : Int) : aBin .mul (.int k a) (.int k b) = binI .mul k a b := by simp [aBin]
theorem n_quo (k : IntKind) (a b : Int) : aBin .quo (.int k a) (.int k b) = binI .quo k a b := by simp [aBin]
theorem n_rem (k : IntKind) (a b : Int) : aBin .rem (.int k a) (.int k b) = binI .rem k a b := by simp [aBin]
theorem n_and (k : IntKind) (a b : Int) : aBin .and (.int k a) (.int k b) = binI .and k a b := by simp [aBin]
theorem n_or (k : IntKind) (a b : Int) : aBin .or (.int k a) (.int k b) = binI .or k a b := by simp [aBin]
theorem n_xor (k : IntKind) (a b : Int) : aBin .xor (.int k a) (.int k b) = binI .xor k a b := by simp [aBin]
theorem n_eql (k : IntKind) (a b : Int) : aBin .eql (.int k a) (.int k b) = some (.bool (decide (a = b))) := by simp [aBin, binI]
theorem n_neq (k : IntKind) (a b : Int) : aBin .neq (.int k a) (.int k b) = some (.bool (!decide (a = b))) := by simp [aBin, binI]
theorem n_lss (k : IntKind) (a b : Int) : aBin .lss (.int k a) (.int k b) = some (.bool (decide (a < b))) := by simp [aBin, binI]
theorem n_leq (k : IntKind) (a b : Int) : aBin .leq (.int k a) (.int k b) = some (.bool (decide (a ≤ b))) := by simp [aBin, binI]
theorem n_gtr (k : IntKind) (a b : Int) : aBin .gtr (.int k a) (.int k b) = some (.bool (decide (a > b))) := by simp [aBin, binI]
theorem n_geq (k : IntKind) (a b : Int) : aBin .geq (.int k a) (.int k b) = some (.bool (decide (a ≥ b))) := by simp [aBin, binI]

theorem i_add (a b : Int) : binI .add .i64 a b = some (.int .i64 (IntKind.i64.wrap (a + b))) := rfl
theorem i_sub (a b : Int) : binI .sub .i64 a b = some (.int .i64 (IntKind.i64.wrap (a - b))) := rfl
theorem i_mul (a b : Int) : binI .mul .i64 a b = some (.int .i64 (IntKind.i64.wrap (a * b))) := rfl
theorem i_quo (a b : Int) : binI .quo .i64 a b = if b = 0 then none else some (.int .i64 (IntKind.i64.wrap (a.tdiv b))) := rfl
theorem i_rem (a b : Int) : binI .rem .i64 a b = if b = 0 then none else some (.int .i64 (a.tmod b)) := rfl
theorem i_shr (a b : Int) (k : IntKind) : aBin .shr (.int .i64 a) (.int k b) = if b < 0 then none else some (.int .i64 (a.fdiv (2 ^ (min b.toNat 64)))) := rfl
theorem i_shl (a b : Int) (k : IntKind) : aBin .shl (.int .i64 a) (.int k b) = if b < 0 then none else some (.int .i64 (IntKind.i64.wrap (a * 2 ^ (min b.toNat 64)))) := rfl

theorem ofInt_nat (w n : Nat) : BitVec.ofInt w (n : Int) = BitVec.ofNat w n := by simp

theorem bv32 (x : UInt32) : BitVec.ofInt 32 (x.toNat : Int) = x.toBitVec := by
  apply BitVec.eq_of_toNat_eq
  have := lt32 x
  simp
theorem bv64 (x : UInt64) : BitVec.ofInt 64 (x.toNat : Int) = x.toBitVec := by
  apply BitVec.eq_of_toNat_eq
  have := lt64 x
  simp
theorem bv8 (x : UInt8) : BitVec.ofInt 8 (x.toNat : Int) = x.toBitVec := by
  apply BitVec.eq_of_toNat_eq
  have := lt8 x
  simp

theorem w_add (x y : UInt32) : binI .add .u32 (x.toNat : Int) (y.toNat : Int) = some (.int .u32 ((x + y).toNat : Int)) := by
  simp only [binI]
  rw [← Int.natCast_add, wr32, UInt32.toNat_add]
theorem w_and (x y : UInt32) : binI .and .u32 (x.toNat : Int) (y.toNat : Int) = some (.int .u32 ((x &&& y).toNat : Int)) := by
  have h : binI .and .u32 (x.toNat : Int) (y.toNat : Int) = some (.int .u32 (IntKind.u32.wrap ((BitVec.ofInt 32 (x.toNat : Int) &&& BitVec.ofInt 32 (y.toNat : Int)).toNat : Int))) := rfl
  rw [h, bv32, bv32, show (x.toBitVec &&& y.toBitVec).toNat = (x &&& y).toNat from rfl, wr32, Nat.mod_eq_of_lt (lt32 _)]
theorem w_or (x y : UInt32) : binI .or .u32 (x.toNat : Int) (y.toNat : Int) = some (.int .u32 ((x ||| y).toNat : Int)) := by
  have h : binI .or .u32 (x.toNat : Int) (y.toNat : Int) = some (.int .u32 (IntKind.u32.wrap ((BitVec.ofInt 32 (x.toNat : Int) ||| BitVec.ofInt 32 (y.toNat : Int)).toNat : Int))) := rfl
  rw [h, bv32, bv32, show (x.toBitVec ||| y.toBitVec).toNat = (x ||| y).toNat from rfl, wr32, Nat.mod_eq_of_lt (lt32 _)]
theorem w_xor (x y : UInt32) : binI .xor .u32 (x.toNat : Int) (y.toNat : Int) = some (.int .u32 ((x ^^^ y).toNat : Int)) := by
  have h : binI .xor .u32 (x.toNat : Int) (y.toNat : Int) = some (.int .u32 (IntKind.u32.wrap ((BitVec.ofInt 32 (x.toNat : Int) ^^^ BitVec.ofInt 32 (y.toNat : Int)).toNat : Int))) := rfl
  rw [h, bv32, bv32, show (x.toBitVec ^^^ y.toBitVec).toNat = (x ^^^ y).toNat from rfl, wr32, Nat.mod_eq_of_lt (lt32 _)]
theorem w_not (x : UInt32) : binI .xor .u32 4294967295 (x.toNat : Int) = some (.int .u32 ((~~~x).toNat : Int)) := by
  have h : (4294967295 : Int) = (((4294967295 : UInt32).toNat : Nat) : Int) := rfl
  rw [h, w_xor]
  first | rfl | (congr 3; done) | (congr 3; apply UInt32.toBitVec_inj.1; simp)
theorem w_shl (x : UInt32) (k : IntKind) (n : Nat) : aBin .shl (.int .u32 (x.toNat : Int)) (.int k (n : Int)) = some (.int .u32 ((shl32 x n).toNat : Int)) := by
  have h : aBin .shl (.int .u32 (x.toNat : Int)) (.int k (n : Int)) = if (n : Int) < 0 then none else some (.int .u32 (IntKind.u32.wrap ((x.toNat : Int) * 2 ^ (min (n : Int).toNat 32)))) := rfl
  rw [h, if_neg (by omega), Int.toNat_natCast]
  have h2 : ((x.toNat : Int) * 2 ^ (min n 32)) = ((x.toNat * 2 ^ (min n 32) : Nat) : Int) := by simp
  rw [h2, wr32]
  unfold shl32
  rw [UInt32.toNat_ofNat']
  have key : x.toNat * 2 ^ (min n 32) % 4294967296 = x.toNat * 2 ^ n % 2 ^ 32 := by
    rcases Nat.le_total n 32 with h3 | h3
    · rw [Nat.min_eq_left h3]
    · rw [Nat.min_eq_right h3]
      obtain ⟨m, rfl⟩ : ∃ m, n = 32 + m := ⟨n - 32, by omega⟩
      rw [show (2 : Nat) ^ (32 + m) = 4294967296 * 2 ^ m by rw [Nat.pow_add], Nat.mul_left_comm]
      rw [show (2 : Nat) ^ 32 = 4294967296 from rfl, Nat.mul_mod_left, Nat.mul_mod_right]
  rw [key]
theorem w_shr (x : UInt32) (k : IntKind) (n : Nat) : aBin .shr (.int .u32 (x.toNat : Int)) (.int k (n : Int)) = some (.int .u32 ((shr32 x n).toNat : Int)) := by
  have h : aBin .shr (.int .u32 (x.toNat : Int)) (.int k (n : Int)) = if (n : Int) < 0 then none else some (.int .u32 ((x.toNat : Int).fdiv (2 ^ (min (n : Int).toNat 32)))) := rfl
  rw [h, if_neg (by omega), Int.toNat_natCast]
  have h2 : (x.toNat : Int).fdiv (2 ^ (min n 32)) = ((x.toNat / 2 ^ (min n 32) : Nat) : Int) := by
    rw [Int.fdiv_eq_ediv_of_nonneg _ (by exact Int.le_of_lt (Int.pow_pos (by omega)))]
    simp
  rw [h2]
  unfold shr32
  have hx := lt32 x
  rw [UInt32.toNat_ofNat', Nat.mod_eq_of_lt (Nat.lt_of_le_of_lt (Nat.div_le_self _ _) hx)]
  congr 3
  rcases Nat.le_total n 32 with h3 | h3
  · rw [Nat.min_eq_left h3]
  · rw [Nat.min_eq_right h3, Nat.div_eq_of_lt hx, Nat.div_eq_of_lt (Nat.lt_of_lt_of_le hx (show 4294967296 ≤ 2 ^ n from Nat.pow_le_pow_right (n := 2) (i := 32) (by omega) h3))]

theorem d_shl (x : UInt64) (k : IntKind) (n : Nat) : aBin .shl (.int .u64 (x.toNat : Int)) (.int k (n : Int)) = some (.int .u64 ((shl64 x n).toNat : Int)) := by
  have h : aBin .shl (.int .u64 (x.toNat : Int)) (.int k (n : Int)) = if (n : Int) < 0 then none else some (.int .u64 (IntKind.u64.wrap ((x.toNat : Int) * 2 ^ (min (n : Int).toNat 64)))) := rfl
  rw [h, if_neg (by omega), Int.toNat_natCast]
  have h2 : ((x.toNat : Int) * 2 ^ (min n 64)) = ((x.toNat * 2 ^ (min n 64) : Nat) : Int) := by simp
  rw [h2, wr64]
  unfold shl64
  rw [UInt64.toNat_ofNat']
  have key : x.toNat * 2 ^ (min n 64) % 18446744073709551616 = x.toNat * 2 ^ n % 2 ^ 64 := by
    rcases Nat.le_total n 64 with h3 | h3
    · rw [Nat.min_eq_left h3]
    · rw [Nat.min_eq_right h3]
      obtain ⟨m, rfl⟩ : ∃ m, n = 64 + m := ⟨n - 64, by omega⟩
      rw [show (2 : Nat) ^ (64 + m) = 18446744073709551616 * 2 ^ m by rw [Nat.pow_add], Nat.mul_left_comm]
      rw [show (2 : Nat) ^ 64 = 18446744073709551616 from rfl, Nat.mul_mod_left, Nat.mul_mod_right]
  rw [key]
theorem d_shr (x : UInt64) (k : IntKind) (n : Nat) : aBin .shr (.int .u64 (x.toNat : Int)) (.int k (n : Int)) = some (.int .u64 ((shr64 x n).toNat : Int)) := by
  have h : aBin .shr (.int .u64 (x.toNat : Int)) (.int k (n : Int)) = if (n : Int) < 0 then none else some (.int .u64 ((x.toNat : Int).fdiv (2 ^ (min (n : Int).toNat 64)))) := rfl
  rw [h, if_neg (by omega), Int.toNat_natCast]
  have h2 : (x.toNat : Int).fdiv (2 ^ (min n 64)) = ((x.toNat / 2 ^ (min n 64) : Nat) : Int) := by
    rw [Int.fdiv_eq_ediv_of_nonneg _ (by exact Int.le_of_lt (Int.pow_pos (by omega)))]
    simp
  rw [h2]
  unfold shr64
  have hx := lt64 x
  rw [UInt64.toNat_ofNat', Nat.mod_eq_of_lt (Nat.lt_of_le_of_lt (Nat.div_le_self _ _) hx)]
  congr 3
  rcases Nat.le_total n 64 with h3 | h3
  · rw [Nat.min_eq_left h3]
  · rw [Nat.min_eq_right h3, Nat.div_eq_of_lt hx, Nat.div_eq_of_lt (Nat.lt_of_lt_of_le hx (show 18446744073709551616 ≤ 2 ^ n from Nat.pow_le_pow_right (n := 2) (i := 64) (by omega) h3))]
theorem d_xor (x y : UInt64) : binI .xor .u64 (x.toNat : Int) (y.toNat : Int) = some (.int .u64 ((x ^^^ y).toNat : Int)) := by
  have h : binI .xor .u64 (x.toNat : Int) (y.toNat : Int) = some (.int .u64 (IntKind.u64.wrap ((BitVec.ofInt 64 (x.toNat : Int) ^^^ BitVec.ofInt 64 (y.toNat : Int)).toNat : Int))) := rfl
  rw [h, bv64, bv64, show (x.toBitVec ^^^ y.toBitVec).toNat = (x ^^^ y).toNat from rfl, wr64, Nat.mod_eq_of_lt (lt64 _)]
theorem d_not (x : UInt64) : binI .xor .u64 18446744073709551615 (x.toNat : Int) = some (.int .u64 ((~~~x).toNat : Int)) := by
  have h : (18446744073709551615 : Int) = (((18446744073709551615 : UInt64).toNat : Nat) : Int) := rfl
  rw [h, d_xor]
  first | rfl | (congr 3; done) | (congr 3; apply UInt64.toBitVec_inj.1; simp)
theorem d_add (x y : UInt64) : binI .add .u64 (x.toNat : Int) (y.toNat : Int) = some (.int .u64 ((x + y).toNat : Int)) := by
  simp only [binI]
  rw [← Int.natCast_add, wr64, UInt64.toNat_add]
theorem d_mul (x y : UInt64) : binI .mul .u64 (x.toNat : Int) (y.toNat : Int) = some (.int .u64 ((x * y).toNat : Int)) := by
  simp only [binI]
  rw [← Int.natCast_mul, wr64, UInt64.toNat_mul]

theorem b_or (x y : UInt8) : binI .or .u8 (x.toNat : Int) (y.toNat : Int) = some (.int .u8 ((x ||| y).toNat : Int)) := by
  have h : binI .or .u8 (x.toNat : Int) (y.toNat : Int) = some (.int .u8 (IntKind.u8.wrap ((BitVec.ofInt 8 (x.toNat : Int) ||| BitVec.ofInt 8 (y.toNat : Int)).toNat : Int))) := rfl
  rw [h, bv8, bv8, show (x.toBitVec ||| y.toBitVec).toNat = (x ||| y).toNat from rfl, wr8, Nat.mod_eq_of_lt (lt8 _)]
theorem b_xor (x y : UInt8) : binI .xor .u8 (x.toNat : Int) (y.toNat : Int) = some (.int .u8 ((x ^^^ y).toNat : Int)) := by
  have h : binI .xor .u8 (x.toNat : Int) (y.toNat : Int) = some (.int .u8 (IntKind.u8.wrap ((BitVec.ofInt 8 (x.toNat : Int) ^^^ BitVec.ofInt 8 (y.toNat : Int)).toNat : Int))) := rfl
  rw [h, bv8, bv8, show (x.toBitVec ^^^ y.toBitVec).toNat = (x ^^^ y).toNat from rfl, wr8, Nat.mod_eq_of_lt (lt8 _)]
/-! Conversions -/
theorem c_8_32 (x : UInt8) : IntKind.u32.wrap (x.toNat : Int) = (x.toUInt32.toNat : Int) := by
  rw [wr32]; have := lt8 x; simp
theorem c_8_64 (x : UInt8) : IntKind.u64.wrap (x.toNat : Int) = (x.toUInt64.toNat : Int) := by
  rw [wr64]; have := lt8 x; simp
theorem c_32_64 (x : UInt32) : IntKind.u64.wrap (x.toNat : Int) = (x.toUInt64.toNat : Int) := by
  rw [wr64]; have := lt32 x; simp
theorem c_64_8 (x : UInt64) : IntKind.u8.wrap (x.toNat : Int) = (x.toUInt8.toNat : Int) := by
  rw [wr8]; simp
theorem c_32_8 (x : UInt32) : IntKind.u8.wrap (x.toNat : Int) = (x.toUInt8.toNat : Int) := by
  rw [wr8]; simp
theorem c_8_i (x : UInt8) : IntKind.i64.wrap (x.toNat : Int) = (x.toNat : Int) := by
  have := lt8 x; exact wrap_i64 (by omega) (by omega)
theorem c_i_64 (n : Int) : IntKind.u64.wrap n = ((wordOf n).toNat : Int) := by
  unfold wordOf
  simp only [IntKind.wrap, IntKind.signed, IntKind.bits]
  rw [UInt64.toNat_ofNat']
  simp
  omega
theorem c_i_8 (n : Int) : IntKind.u8.wrap n = ((byteOf n).toNat : Int) := by
  unfold byteOf
  simp only [IntKind.wrap, IntKind.signed, IntKind.bits]
  rw [UInt8.toNat_ofNat']
  simp
  omega

set_option linter.defProp false
/-- The laws of numbers of one kind. -/
def BN := And.intro n_add (And.intro n_sub (And.intro n_mul (And.intro n_quo (And.intro n_rem (And.intro n_and (And.intro n_or (And.intro n_xor (And.intro n_eql (And.intro n_neq (And.intro n_lss (And.intro n_leq (And.intro n_gtr (And.intro n_geq (And.intro i_add (And.intro i_sub (And.intro i_mul (And.intro i_quo (And.intro i_rem (And.intro i_shr i_shl)))))))))))))))))))
/-- The laws of words and bytes. -/
def BW := And.intro w_add (And.intro w_and (And.intro w_or (And.intro w_xor (And.intro w_not (And.intro w_shl (And.intro w_shr (And.intro d_shl (And.intro d_shr (And.intro d_xor (And.intro d_not (And.intro d_add (And.intro d_mul (And.intro b_or b_xor)))))))))))))

end Go.Proofs.YtgbpgplkhifgiaaDoor

/- The hash as plain functions on lists. No condition. -/
set_option linter.unusedVariables false
set_option linter.unusedSimpArgs false
namespace Go.Proofs.YtgbpgplkhifgiaaDoor
open Go Go.RowKit

theorem s_u8 : IntKind.u8.signed = false := rfl
theorem s_u32 : IntKind.u32.signed = false := rfl
theorem s_u64 : IntKind.u64.signed = false := rfl
theorem m_u32 : IntKind.u32.max = 4294967295 := rfl
theorem m_u64 : IntKind.u64.max = 18446744073709551615 := rfl
theorem w_shl_8 (x : UInt32) (k : IntKind) : aBin .shl (.int .u32 (x.toNat : Int)) (.int k 8) = some (.int .u32 ((shl32 x 8).toNat : Int)) := w_shl x k 8
theorem w_shl_16 (x : UInt32) (k : IntKind) : aBin .shl (.int .u32 (x.toNat : Int)) (.int k 16) = some (.int .u32 ((shl32 x 16).toNat : Int)) := w_shl x k 16
theorem w_shl_24 (x : UInt32) (k : IntKind) : aBin .shl (.int .u32 (x.toNat : Int)) (.int k 24) = some (.int .u32 ((shl32 x 24).toNat : Int)) := w_shl x k 24
theorem w_shr_3 (x : UInt32) (k : IntKind) : aBin .shr (.int .u32 (x.toNat : Int)) (.int k 3) = some (.int .u32 ((shr32 x 3).toNat : Int)) := w_shr x k 3
theorem w_shr_10 (x : UInt32) (k : IntKind) : aBin .shr (.int .u32 (x.toNat : Int)) (.int k 10) = some (.int .u32 ((shr32 x 10).toNat : Int)) := w_shr x k 10
theorem d_shl_1 (x : UInt64) (k : IntKind) : aBin .shl (.int .u64 (x.toNat : Int)) (.int k 1) = some (.int .u64 ((shl64 x 1).toNat : Int)) := d_shl x k 1
theorem d_shr_7 (x : UInt64) (k : IntKind) : aBin .shr (.int .u64 (x.toNat : Int)) (.int k 7) = some (.int .u64 ((shr64 x 7).toNat : Int)) := d_shr x k 7
theorem not_false_if {α : Type} (a b : α) : (if (false : Bool) = true then a else b) = b := rfl

set_option linter.defProp false in
def BS := And.intro s_u8 (And.intro s_u32 (And.intro s_u64 (And.intro m_u32 (And.intro m_u64 (And.intro w_shl_8 (And.intro w_shl_16 (And.intro w_shl_24 (And.intro w_shr_3 (And.intro w_shr_10 (And.intro d_shl_1 (And.intro d_shr_7 Bool.false_eq_true)))))))))))

/-! ### The functions -/

/-- The big-endian word of some bytes. -/
def ld (b : List UInt8) : UInt32 := b.foldl (fun n x => shl32 n 8 ||| x.toUInt32) 0

/-- The bytes of a number, big-endian. -/
def stB (n : UInt64) : Nat → List UInt8
  | 0 => []
  | i + 1 => (shr64 n (8 * i)).toUInt8 :: stB n i

theorem stB_len (n : UInt64) : ∀ i, (stB n i).length = i
  | 0 => rfl
  | i + 1 => by simp [stB, stB_len n i]

def rr (x : UInt32) (k : Nat) : UInt32 := shl32 x (32 - k) ||| shr32 x k
def rx (x : UInt32) (ks : List Nat) : UInt32 := ks.foldl (fun o k => o ^^^ rr x k) 0

def wNew (w : List UInt32) (i : Nat) : UInt32 :=
  w.getD (i - 16) 0 + (rx (w.getD (i - 15) 0) [7, 18] ^^^ shr32 (w.getD (i - 15) 0) 3) + w.getD (i - 7) 0 + (rx (w.getD (i - 2) 0) [17, 19] ^^^ shr32 (w.getD (i - 2) 0) 10)

def sched (b : List UInt8) : Nat → List UInt32
  | 0 => []
  | i + 1 => sched b i ++ [if i < 16 then ld ((b.drop (4 * i)).take 4) else wNew (sched b i) i]

theorem sched_len (b : List UInt8) : ∀ i, (sched b i).length = i
  | 0 => rfl
  | i + 1 => by simp [sched, sched_len b i]

structure H8 where
  a : UInt32
  b : UInt32
  c : UInt32
  d : UInt32
  e : UInt32
  f : UInt32
  g : UInt32
  h : UInt32

def H8.l (v : H8) : List UInt32 := [v.a, v.b, v.c, v.d, v.e, v.f, v.g, v.h]
def H8.cs (v : H8) : List AV := [ww v.a, ww v.b, ww v.c, ww v.d, ww v.e, ww v.f, ww v.g, ww v.h]

def T1 (v : H8) (k w : UInt32) : UInt32 := v.h + rx v.e [6, 11, 25] + ((v.e &&& v.f) ^^^ (~~~v.e &&& v.g)) + k + w
def T2 (v : H8) : UInt32 := rx v.a [2, 13, 22] + ((v.a &&& v.b) ^^^ (v.a &&& v.c) ^^^ (v.b &&& v.c))
def rnd (v : H8) (k w : UInt32) : H8 := ⟨T1 v k w + T2 v, v.a, v.b, v.c, v.d + T1 v k w, v.e, v.f, v.g⟩

def rnds (v : H8) (ks ws : List UInt32) : Nat → H8
  | 0 => v
  | i + 1 => rnd (rnds v ks ws i) (ks.getD i 0) (ws.getD i 0)

def H8.add (v h : H8) : H8 := ⟨v.a + h.a, v.b + h.b, v.c + h.c, v.d + h.d, v.e + h.e, v.f + h.f, v.g + h.g, v.h + h.h⟩

def KS : List UInt32 := [0x428a2f98, 0x71374491, 0xb5c0fbcf, 0xe9b5dba5, 0x3956c25b, 0x59f111f1, 0x923f82a4, 0xab1c5ed5, 0xd807aa98, 0x12835b01, 0x243185be, 0x550c7dc3, 0x72be5d74, 0x80deb1fe, 0x9bdc06a7, 0xc19bf174, 0xe49b69c1, 0xefbe4786, 0x0fc19dc6, 0x240ca1cc, 0x2de92c6f, 0x4a7484aa, 0x5cb0a9dc, 0x76f988da, 0x983e5152, 0xa831c66d, 0xb00327c8, 0xbf597fc7, 0xc6e00bf3, 0xd5a79147, 0x06ca6351, 0x14292967, 0x27b70a85, 0x2e1b2138, 0x4d2c6dfc, 0x53380d13, 0x650a7354, 0x766a0abb, 0x81c2c92e, 0x92722c85, 0xa2bfe8a1, 0xa81a664b, 0xc24b8b70, 0xc76c51a3, 0xd192e819, 0xd6990624, 0xf40e3585, 0x106aa070, 0x19a4c116, 0x1e376c08, 0x2748774c, 0x34b0bcb5, 0x391c0cb3, 0x4ed8aa4a, 0x5b9cca4f, 0x682e6ff3, 0x748f82ee, 0x78a5636f, 0x84c87814, 0x8cc70208, 0x90befffa, 0xa4506ceb, 0xbef9a3f7, 0xc67178f2]
def HS : H8 := ⟨0x6a09e667, 0xbb67ae85, 0x3c6ef372, 0xa54ff53a, 0x510e527f, 0x9b05688c, 0x1f83d9ab, 0x5be0cd19⟩

def comp (h : H8) (b : List UInt8) : H8 := (rnds h KS (sched b 64) 64).add h

def padN (n : Nat) : Nat := (119 - n % 64) % 64
def padS (b : List UInt8) : List UInt8 := b ++ [128] ++ List.replicate (padN b.length) 0 ++ stB (8 * wordOf b.length) 8
def foldC (h : H8) (m : List UInt8) : Nat → H8
  | 0 => h
  | i + 1 => comp (foldC h m i) ((m.drop (64 * i)).take 64)
def sumH (b : List UInt8) : H8 := foldC HS (padS b) ((padS b).length / 64)
def outS (l : List UInt32) : List UInt8 := l.flatMap fun x => stB x.toUInt64 4
def sum (b : List UInt8) : List UInt8 := outS (sumH b).l

theorem sum_len (b : List UInt8) : (sum b).length = 32 := by simp [sum, outS, H8.l, stB_len]

theorem padS_len (b : List UInt8) : (padS b).length % 64 = 0 := by
  simp only [padS, List.length_append, List.length_replicate, List.length_cons, List.length_nil, stB_len, padN]
  omega

/-! ### Rotating -/

theorem rot_and (k : Nat) (h0 : 0 < k) (h1 : k < 32) : binI .and .u64 (IntKind.u64.wrap (-(k : Int))) 31 = some (.int .u64 ((32 - k : Nat) : Int)) := by
  have h : binI .and .u64 (IntKind.u64.wrap (-(k : Int))) 31 = some (.int .u64 (IntKind.u64.wrap ((BitVec.ofInt 64 (IntKind.u64.wrap (-(k : Int))) &&& BitVec.ofInt 64 31).toNat : Int))) := rfl
  have hw : IntKind.u64.wrap (-(k : Int)) = ((18446744073709551616 - k : Nat) : Int) := by
    simp only [IntKind.wrap, IntKind.signed, IntKind.bits]; simp; omega
  rw [h, hw, ofInt_nat, show BitVec.ofInt 64 31 = BitVec.ofNat 64 31 from rfl, BitVec.toNat_and, BitVec.toNat_ofNat, BitVec.toNat_ofNat]
  rw [show (31 : Nat) % 2 ^ 64 = 2 ^ 5 - 1 from rfl, Nat.and_two_pow_sub_one_eq_mod, wr64]
  congr 3
  omega

end Go.Proofs.YtgbpgplkhifgiaaDoor

/- The walks of the hash's small functions. No condition. -/
set_option linter.unusedVariables false
set_option linter.unusedSimpArgs false
set_option maxRecDepth 100000
namespace Go.Proofs.YtgbpgplkhifgiaaDoor
open Go Go.RowKit

theorem mx : Tryd.prog.follows .mixedOrders = true := by kernel_rfl

theorem rotl_spec (x : UInt32) (k : Nat) (h0 : 0 < k) (h1 : k < 32) : Spec Tryd.prog [] 161 [ww x, iv (-(k : Int))] [] (fun o => o = .ret (ww (rr x k)) [] []) := by
  refine spec_of TB 17 [.tmp 4] Tryd.func161 rfl rfl rfl (Nat.le_of_ble_eq_true rfl) ?_
  intro X w0 E0 hE hX
  have r1 := rot_and k h0 h1
  have r2 : binI .sub .u64 32 ((32 - k : Nat) : Int) = some (.int .u64 ((k : Nat) : Int)) := by
    have h : binI .sub .u64 32 ((32 - k : Nat) : Int) = some (.int .u64 (IntKind.u64.wrap (32 - ((32 - k : Nat) : Int)))) := rfl
    rw [h, show (32 : Int) - ((32 - k : Nat) : Int) = (k : Int) by omega, wr64, Nat.mod_eq_of_lt (by omega)]
  simp only [idx, List.map_nil, List.length_nil]
  refine AW_reg TB (fun D K hD hK => ?_)
  simp only [AwS, TS, AwD, aval, aIndex, aSlice, aLen, BN, BW, BS, Int.cast_ofNat_Int, spl, splice, bind, ↓reduceIte, simprocAttr]
  refine hD _ ?_
  clear hD hK D K
  refine AW_reg TB (fun D K hD hK => ?_)
  simp only [AwS, TS, AwD, aval, aIndex, aSlice, aLen, BN, BW, BS, Int.cast_ofNat_Int, spl, splice, bind, ↓reduceIte, simprocAttr, r1]
  refine hD _ ?_
  clear hD hK D K
  refine AW_reg TB (fun D K hD hK => ?_)
  simp only [AwS, TS, AwD, aval, aIndex, aSlice, aLen, BN, BW, BS, Int.cast_ofNat_Int, spl, splice, bind, ↓reduceIte, simprocAttr, r2]
  refine hD _ ?_
  clear hD hK D K
  refine AW_ret ?_
  simp only [Ret, blockQ, kQ, loopQ, seqQ, scopeQ, ↓reduceIte]
  exact retp (ww (rr x k)) rfl rfl rfl rfl

def rotrF (x : UInt32) (ks : List Nat) (i : Nat) : St := { nt := 22, nx := 0, tm := [(10, iv i), (9, iv ks.length), (8, .ds false ks.length (ks.map fun (k : Nat) => iv (k : Int))), (5, ww (rx x (ks.take i))), (0, ww x)], bx := [], gl := [], df := [] }

theorem rx_succ (x : UInt32) (ks : List Nat) (i : Nat) (h : i < ks.length) : rx x (ks.take (i + 1)) = rx x (ks.take i) ^^^ rr x ks[i] := by
  unfold rx
  rw [List.take_succ_eq_append_getElem h, List.foldl_append]
  rfl

theorem rotr_spec (x : UInt32) (ks : List Nat) (hk : ∀ k ∈ ks, 0 < k ∧ k < 32) (hl : ks.length ≤ 1000) : Spec Tryd.prog [] 148 [ww x, .ds false ks.length (ks.map fun (k : Nat) => iv (k : Int))] [] (fun o => o = .ret (ww (rx x ks)) [] []) := by
  refine spec_of TB 22 [.tmp 4] Tryd.func148 rfl rfl rfl (Nat.le_of_ble_eq_true rfl) ?_
  intro X w0 E0 hE hX
  have hmap : ∀ f : Nat → Nat, AVs.map f (ks.map fun (k : Nat) => iv (k : Int)) = ks.map fun (k : Nat) => iv (k : Int) := fun f => AVs_map_map (fun _ => rfl) ks
  simp only [idx, List.map_nil, List.length_nil]
  refine AW_reg TB (fun D K hD hK => ?_)
  simp only [AwS, TS, AwD, aval, aIndex, aSlice, aLen, BN, BW, BS, Int.cast_ofNat_Int, spl, splice, bind, ↓reduceIte, simprocAttr]
  refine hD _ ?_
  clear hD hK D K
  refine AW_reg TB (fun D K hD hK => ?_)
  simp only [AwS, TS, AwD, aval, aIndex, aSlice, aLen, BN, BW, BS, Int.cast_ofNat_Int, spl, splice, bind, ↓reduceIte, simprocAttr]
  refine hD _ ?_
  clear hD hK D K
  refine AW_seqk (fun K0 hK0 => ?_)
  refine AW_reg TB (fun D K hD hK => ?_)
  simp only [AwS, TS, AwD, aval, aIndex, aSlice, aLen, BN, BW, BS, Int.cast_ofNat_Int, spl, splice, bind, ↓reduceIte, simprocAttr]
  refine hD _ ?_
  clear hD hK D K
  refine AW_block ?_
  refine AW_loop (rotrF x ks) (fun i => i ≤ ks.length) (fun i => ks.length - i) hE 0 [] (by omega) ?_ ?_
  · refine ⟨rfl, by simp [rotrF, alook, AV.map, AVs.map, hmap, rx], ⟨rfl, rfl⟩, ?_, ?_, by simp [rotrF], by simp [rotrF, nmap], ?_⟩
    · simp [rotrF, alook, AV.map, AVs.map, nmap, AVs_map_append, ivs_map, yvs_map, hmap, rx]
    · simp [rotrF, blook, AV.map, AVs.map, nmap, AVs_map_append, ivs_map, yvs_map, hmap, rx]
    · intro k hk
      have hk2 : k < 0 := hk
      omega
  intro i hi
  simp only [rotrF]
  refine AW_reg TB (fun D K hD hK => ?_)
  simp only [AwS, TS, AwD, aval, aIndex, aSlice, aLen, BN, BW, BS, Int.cast_ofNat_Int, spl, splice, bind, ↓reduceIte, simprocAttr]
  refine hD _ ?_
  clear hD hK D K
  refine AW_seq (AW_cond rfl (fun h => AW_skip ?_) (fun h => AW_exit ?_))
  · have hlt : i < ks.length := by simpa using h
    have c1 : (0 ≤ (i : Int) ∧ (i : Int) < ks.length) = True := by simp; omega
    have c2 : (List.drop i (ks.map fun (k : Nat) => iv (k : Int)))[0]? = some (iv (ks[i] : Nat)) := by simp [hlt]
    have w1 : IntKind.i64.wrap ((i : Int) + 1) = (i : Int) + 1 := wrap_i64 (by omega) (by omega)
    obtain ⟨k1, k2⟩ := hk ks[i] (List.getElem_mem hlt)
    have w2 : IntKind.i64.wrap (0 - (ks[i] : Int)) = -(ks[i] : Int) := by rw [wrap_i64 (by omega) (by omega)]; omega
    refine AW_seqk (fun K1 hK1 => ?_)
    refine AW_block ?_
    refine AW_reg TB (fun D K hD hK => ?_)
    simp only [AwS, TS, AwD, aval, aIndex, aSlice, aLen, BN, BW, BS, Int.cast_ofNat_Int, spl, splice, bind, ↓reduceIte, simprocAttr, c1, Int.toNat_natCast, Nat.mul_one, c2]
    refine hD _ ?_
    clear hD hK D K
    refine AW_regl TB (fun D K hD hK => ?_)
    simp only [AwS, TS, AwD, aval, aIndex, aSlice, aLen, BN, BW, BS, Int.cast_ofNat_Int, spl, splice, bind, ↓reduceIte, simprocAttr, w2]
    refine hK _ _ ?_
    clear hD hK D K
    refine AL_callP rfl rfl rfl rfl en_161 (rotl_spec x ks[i] k1 k2) [] ?_ (by simp) rfl rfl ?_
    · simp [evs, St.ev, cav, alook, lendA, lentBx, lendC, blook, AVs.map, AV.map, ioMap]
    refine AL_runR TB _ _ (fun D K hD hK => ?_)
    simp only [AwS, TS, AwD, aval, aIndex, aSlice, aLen, BN, BW, BS, Int.cast_ofNat_Int, spl, splice, bind, ↓reduceIte, simprocAttr]
    refine hD _ ?_
    clear hD hK D K
    refine hK1 _ ?_
    refine AW_regl TB (fun D K hD hK => ?_)
    simp only [AwS, TS, AwD, aval, aIndex, aSlice, aLen, BN, BW, BS, Int.cast_ofNat_Int, spl, splice, bind, ↓reduceIte, simprocAttr]
    refine hD _ ?_
    clear hD hK D K
    refine ⟨i + 1, [], by omega, by dsimp only; omega, ?_⟩
    refine ⟨rfl, by simp [rotrF, alook, AV.map, AVs.map, hmap, rx_succ x ks i hlt, w1], ⟨rfl, rfl⟩, ?_, ?_, by simp [rotrF], by simp [rotrF, nmap], ?_⟩
    · simp [rotrF, alook, AV.map, AVs.map, nmap, AVs_map_append, ivs_map, yvs_map, hmap, rx_succ x ks i hlt, w1]
    · simp [rotrF, blook, AV.map, AVs.map, nmap, AVs_map_append, ivs_map, yvs_map, hmap, rx_succ x ks i hlt, w1]
    · intro k hk
      have hk2 : k < 0 := hk
      omega
  · have hge : i = ks.length := by
      have : ¬ i < ks.length := by simpa using h
      omega
    subst hge
    refine hK0 _ ?_
    refine AW_reg TB (fun D K hD hK => ?_)
    simp only [AwS, TS, AwD, aval, aIndex, aSlice, aLen, BN, BW, BS, Int.cast_ofNat_Int, spl, splice, bind, ↓reduceIte, simprocAttr, List.take_length]
    refine hD _ ?_
    clear hD hK D K
    refine AW_ret ?_
    simp only [Ret, blockQ, kQ, loopQ, seqQ, scopeQ, ↓reduceIte]
    exact retp (ww (rx x ks)) rfl rfl rfl rfl

def loadF (k : Bool) (b : List UInt8) (i : Nat) : St := { nt := 19, nx := 0, tm := [(8, iv i), (7, iv b.length), (6, .ds k b.length (b.map bw)), (3, ww (ld (b.take i)))], bx := [], gl := [], df := [] }

theorem ld_succ (b : List UInt8) (i : Nat) (h : i < b.length) : ld (b.take (i + 1)) = shl32 (ld (b.take i)) 8 ||| b[i].toUInt32 := by
  unfold ld
  rw [List.take_succ_eq_append_getElem h, List.foldl_append]
  rfl

theorem load_spec (b : List UInt8) (k : Bool) (hl : b.length ≤ 1000) : Spec Tryd.prog [] 147 [.ds k b.length (b.map bw)] [] (fun o => o = .ret (ww (ld b)) [] []) := by
  refine spec_of TB 19 [.tmp 2] Tryd.func147 rfl rfl rfl (Nat.le_of_ble_eq_true rfl) ?_
  intro X w0 E0 hE hX
  simp only [idx, List.map_nil, List.length_nil]
  refine AW_reg TB (fun D K hD hK => ?_)
  simp only [AwS, TS, AwD, aval, aIndex, aSlice, aLen, BN, BW, BS, Int.cast_ofNat_Int, spl, splice, bind, ↓reduceIte, simprocAttr]
  refine hD _ ?_
  clear hD hK D K
  refine AW_reg TB (fun D K hD hK => ?_)
  simp only [AwS, TS, AwD, aval, aIndex, aSlice, aLen, BN, BW, BS, Int.cast_ofNat_Int, spl, splice, bind, ↓reduceIte, simprocAttr]
  refine hD _ ?_
  clear hD hK D K
  refine AW_seqk (fun K0 hK0 => ?_)
  refine AW_reg TB (fun D K hD hK => ?_)
  simp only [AwS, TS, AwD, aval, aIndex, aSlice, aLen, BN, BW, BS, Int.cast_ofNat_Int, spl, splice, bind, ↓reduceIte, simprocAttr]
  refine hD _ ?_
  clear hD hK D K
  refine AW_block ?_
  refine AW_loop (loadF k b) (fun i => i ≤ b.length) (fun i => b.length - i) hE 0 [] (by omega) ?_ ?_
  · refine ⟨rfl, by simp [loadF, alook, AV.map, AVs.map, bws_map, ld], ⟨rfl, rfl⟩, ?_, ?_, by simp [loadF], by simp [loadF, nmap], ?_⟩
    · simp [loadF, alook, AV.map, AVs.map, nmap, AVs_map_append, ivs_map, yvs_map, bws_map, ld]
    · simp [loadF, blook, AV.map, AVs.map, nmap, AVs_map_append, ivs_map, yvs_map, bws_map, ld]
    · intro k hk
      have hk2 : k < 0 := hk
      omega
  intro i hi
  simp only [loadF]
  refine AW_reg TB (fun D K hD hK => ?_)
  simp only [AwS, TS, AwD, aval, aIndex, aSlice, aLen, BN, BW, BS, Int.cast_ofNat_Int, spl, splice, bind, ↓reduceIte, simprocAttr]
  refine hD _ ?_
  clear hD hK D K
  refine AW_seq (AW_cond rfl (fun h => AW_skip ?_) (fun h => AW_exit ?_))
  · have hlt : i < b.length := by simpa using h
    have c1 : (0 ≤ (i : Int) ∧ (i : Int) < b.length) = True := by simp; omega
    have c2 : (List.drop i (b.map bw))[0]? = some (bw b[i]) := by simp [hlt]
    have w1 : IntKind.i64.wrap ((i : Int) + 1) = (i : Int) + 1 := wrap_i64 (by omega) (by omega)
    refine AW_seqk (fun K1 hK1 => ?_)
    refine AW_block ?_
    refine AW_reg TB (fun D K hD hK => ?_)
    simp only [AwS, TS, AwD, aval, aIndex, aSlice, aLen, BN, BW, BS, Int.cast_ofNat_Int, spl, splice, bind, ↓reduceIte, simprocAttr, c1, Int.toNat_natCast, Nat.mul_one, c2]
    refine hD _ ?_
    clear hD hK D K
    refine AW_regl TB (fun D K hD hK => ?_)
    simp only [AwS, TS, AwD, aval, aIndex, aSlice, aLen, BN, BW, BS, Int.cast_ofNat_Int, spl, splice, bind, ↓reduceIte, simprocAttr, c_8_32]
    refine hD _ ?_
    clear hD hK D K
    refine hK1 _ ?_
    refine AW_regl TB (fun D K hD hK => ?_)
    simp only [AwS, TS, AwD, aval, aIndex, aSlice, aLen, BN, BW, BS, Int.cast_ofNat_Int, spl, splice, bind, ↓reduceIte, simprocAttr]
    refine hD _ ?_
    clear hD hK D K
    refine ⟨i + 1, [], by omega, by dsimp only; omega, ?_⟩
    refine ⟨rfl, by simp [loadF, alook, AV.map, AVs.map, bws_map, ld_succ b i hlt, w1], ⟨rfl, rfl⟩, ?_, ?_, by simp [loadF], by simp [loadF, nmap], ?_⟩
    · simp [loadF, alook, AV.map, AVs.map, nmap, AVs_map_append, ivs_map, yvs_map, bws_map, ld_succ b i hlt, w1]
    · simp [loadF, blook, AV.map, AVs.map, nmap, AVs_map_append, ivs_map, yvs_map, bws_map, ld_succ b i hlt, w1]
    · intro k hk
      have hk2 : k < 0 := hk
      omega
  · have hge : i = b.length := by
      have : ¬ i < b.length := by simpa using h
      omega
    subst hge
    refine hK0 _ ?_
    refine AW_reg TB (fun D K hD hK => ?_)
    simp only [AwS, TS, AwD, aval, aIndex, aSlice, aLen, BN, BW, BS, Int.cast_ofNat_Int, spl, splice, bind, ↓reduceIte, simprocAttr, List.take_length]
    refine hD _ ?_
    clear hD hK D K
    refine AW_ret ?_
    simp only [Ret, blockQ, kQ, loopQ, seqQ, scopeQ, ↓reduceIte]
    exact retp (ww (ld b)) rfl rfl rfl rfl

end Go.Proofs.YtgbpgplkhifgiaaDoor

/- Slices that are handed back; the walks of store and Clone. No condition. -/
set_option linter.unusedVariables false
set_option linter.unusedSimpArgs false
set_option maxRecDepth 100000
namespace Go.Proofs.YtgbpgplkhifgiaaDoor
open Go Go.RowKit

theorem u8_bw : u8 = bw := rfl
theorem bws_cell (b : List UInt8) : (b.map bw).all AV.cell = true := by simp [AV.cell]
theorem bws_take (b : List UInt8) : List.take b.length (b.map bw) = b.map bw := by rw [← List.map_take, List.take_length]

section
variable {P : Program} {X : Nat → Prop} {w0 : World} {E0 : Env} {T : TypeId → Option TI} {eqt : List TypeId}

/-- The return of a slice of a box of its own. -/
theorem ret_sl {rs : List ResultVar} {R : Out → Prop} {σ : St} (k n z : Nat) (gr : Option TypeId) (cs : List AV) (hd : σ.df = []) (hx : resOf T σ rs = some (.sl k 0 n z gr)) (hk : blook k σ.bx = some cs) (hfl : Flats cs)
    (hR : R (.ret (.sl 0 0 n z gr) [] [cs])) : RetV T rs 0 R σ := by
  refine ⟨.sl 0 0 n z gr, [], [cs], [(0, k)], rfl, by simpa [AV.map, nmap] using hx, ⟨rfl, by simp [leftSt], ⟨hd, rfl⟩, by simp [leftSt], ?_, by simp [leftSt], by simp [leftSt, idx], by simp⟩, hR⟩
  intro p hp cs' hc
  simp [leftSt, idx] at hp
  subst hp
  simp at hc
  subst hc
  simp only [nmap, if_true]
  rw [hk, hfl]

/-- Whether a slice that is only read is nil. -/
theorem AL_nilS (hT : Tab P T eqt) {ops : Array Oper} {o : Oper} {l : List Oper} {σ : St} {Q : Exit → St → Prop} {t u : TypeId} {x : Operand} {ti : TI} {b : Bool} {n : Nat} {cs : List AV} {e : TypeId}
    (ho : o.op = .binOp .eql t x (.const (.slice none 0 0)) u) (hgd : o.guard = none) (hd : dstOk σ o.dst = true) (ht : T t = some ti) (hti : ti.d = .sl e) (hx : σ.ev x = .ds b n cs)
    (h : ∀ r : Bool, (r = true → n = 0) → AL P X w0 E0 ops l (σ.app (σ.nx + 8) o.dst ⟨.val (.bool r), []⟩) Q) : AL P X w0 E0 ops (o :: l) σ Q := by
  intro i hi E a w hg hs
  obtain ⟨hoi, hl⟩ := drop_cons hi
  have ho' : ops[i]? = some o := by simpa using hoi
  simp only [List.length_cons, List.range', wpOpsIn, ho']
  have hw : Region.wanted o (yielded ops a.tmps) = true := by simp [Region.wanted, hgd]
  rw [if_pos hw]
  have hxe := hs.ev x
  rw [hx] at hxe
  obtain ⟨td, hu, hotd⟩ := (hT.t _ _ ht).und
  rw [hti] at hotd
  cases td <;> simp [TD.of] at hotd
  have hun := run_underlying hu w
  have key : ∃ r : Bool, (r = true → n = 0) ∧ (execOp a.eval o).run P w = .ok (.value (.bool r)) w := by
    have step : ∀ (q : Option Addr) (m c : Nat), a.eval x = .slice q m c → (execOp a.eval o).run P w = .ok (.value (.bool q.isNone)) w := by
      intro q m c hq
      have e3 : (eqGuard .eql t x (.const (.slice none 0 0)) (.slice q m c) (.slice none 0 0)).run P w = .ok () w := by
        unfold eqGuard
        simp
      have e4 : (binOp .eql t (.slice q m c) (.slice none 0 0)).run P w = .ok (.bool q.isNone) w := by
        have h1 : binOp .eql t (.slice q m c) (.slice none 0 0) = (do pure (.bool (← Op.equal t (.slice q m c) (.slice none 0 0))) : Sem Value) := rfl
        rw [h1]
        have h2 : (Op.equalIn (9999 + 1) t (.slice q m c) (.slice none 0 0)).run P w = .ok q.isNone w := by
          unfold Op.equalIn
          cases q <;> simp [hun]
        simp only [Op.equal, Op.maxDepth, Sem.run_bind, Sem.run_pure]
        rw [h2]
        rfl
      have hc : a.eval (.const (.slice none 0 0)) = .slice none 0 0 := rfl
      simp only [execOp, ho, hq, hc, Sem.run_bind, e3, e4, Result.andThen_ok, Sem.run_pure]
    rcases hxe with ⟨h0, _, q, c, hq⟩ | ⟨g, off, cap, vs, hq, _⟩
    · exact ⟨q.isNone, fun _ => h0, step q 0 c hq⟩
    · exact ⟨false, by simp, step _ n cap hq⟩
  obtain ⟨r, hr, hrun⟩ := key
  refine oper_fr (by rw [ho]; intro c; simp) ?_
  rw [hrun]
  exact h r hr (i + 1) hl E _ w hg (hs.val (dst_lt hd) rfl (by omega))

end

def storeF (x : UInt64) (q : List UInt8 × Nat) : St := { nt := 23, nx := 1, tm := [(7, iv ((q.2 : Int) - 1)), (1, dw x), (0, .sl 0 0 q.1.length 1 (some 5))], bx := [(0, some (q.1.map bw))], gl := [], df := [] }

theorem store_spec (b : List UInt8) (x : UInt64) (many : Nat) (hl : b.length + many ≤ 4000000000) (hm : many ≤ 1000) :
    SpecV (Calls Tryd.prog 129) [] [.sl 0 0 b.length 1 (some 5), dw x, iv many] [] [b.map bw] (fun o => o = .ret (.sl 0 0 (b ++ stB x many).length 1 (some 5)) [] [(b ++ stB x many).map bw]) := by
  refine spec_ofV TB 23 [.tmp 6] Tryd.func129 rfl rfl rfl (Nat.le_of_ble_eq_true rfl) ?_
  intro X w0 E0 hro hE
  have w0' : IntKind.i64.wrap ((many : Int) - 1) = (many : Int) - 1 := wrap_i64 (by omega) (by omega)
  simp only [idx, List.map_cons, List.map_nil, List.length_cons, List.length_nil, List.nil_append]
  refine AW_reg TB (fun D K hD hK => ?_)
  simp only [AwS, TS, AwD, aval, aIndex, aSlice, aLen, BN, BW, BS, Int.cast_ofNat_Int, spl, splice, bind, ↓reduceIte, simprocAttr]
  refine hD _ ?_
  clear hD hK D K
  refine AW_seqk (fun K0 hK0 => ?_)
  refine AW_reg TB (fun D K hD hK => ?_)
  simp only [AwS, TS, AwD, aval, aIndex, aSlice, aLen, BN, BW, BS, Int.cast_ofNat_Int, spl, splice, bind, ↓reduceIte, simprocAttr, w0']
  refine hD _ ?_
  clear hD hK D K
  refine AW_block ?_
  refine AW_loop (storeF x) (fun q => q.2 ≤ many ∧ q.1 ++ stB x q.2 = b ++ stB x many) (fun q => q.2) hE (b, many) [(0, 0)] ⟨by omega, rfl⟩ ?_ ?_
  · refine ⟨rfl, by simp [storeF, alook, AV.map, AVs.map, bws_map], ⟨rfl, rfl⟩, ?_, ?_, by simp [storeF], by simp [storeF, nmap], ?_⟩
    · simp [storeF, alook, AV.map, AVs.map, nmap, AVs_map_append, ivs_map, yvs_map, bws_map]
    · simp [storeF, blook, AV.map, AVs.map, nmap, AVs_map_append, ivs_map, yvs_map, bws_map]
    · intro k hk
      have hk2 : k < 0 := hk
      omega
  rintro ⟨c, j⟩ ⟨hj, hc⟩
  simp only at hj hc
  simp only [storeF]
  refine AW_seq ?_
  refine AW_reg TB (fun D K hD hK => ?_)
  simp only [AwS, TS, AwD, aval, aIndex, aSlice, aLen, BN, BW, BS, Int.cast_ofNat_Int, spl, splice, bind, ↓reduceIte, simprocAttr]
  refine hD _ ?_
  clear hD hK D K
  refine AW_cond rfl (fun h => AW_skip ?_) (fun h => AW_exit ?_)
  · have hj1 : (0 : Int) ≤ (j : Int) - 1 := by simpa using h
    obtain ⟨m, rfl⟩ : ∃ m, j = m + 1 := ⟨j - 1, by omega⟩
    have hlen : c.length + (m + 1) = b.length + many := by
      have := congrArg List.length hc
      simpa [stB_len] using this
    have w1 : (((m + 1 : Nat) : Int) - 1) = (m : Int) := by omega
    have w2 : IntKind.i64.wrap (8 * (m : Int)) = ((8 * m : Nat) : Int) := by rw [wrap_i64 (by omega) (by omega)]; simp
    have w3 : IntKind.i64.wrap ((m : Int) - 1) = (m : Int) - 1 := wrap_i64 (by omega) (by omega)
    have c1 : (c.length + 1 ≤ 4294967296) = True := by simp; omega
    simp only [seqQ]
    refine AW_seqk (fun K1 hK1 => ?_)
    refine AW_block ?_
    refine AW_regl TB (fun D K hD hK => ?_)
    simp only [AwS, TS, AwD, aval, aIndex, aSlice, aLen, BN, BW, BS, Int.cast_ofNat_Int, spl, splice, bind, ↓reduceIte, simprocAttr, w1, w2, c_64_8, c1]
    refine hD _ ?_
    clear hD hK D K
    refine hK1 _ ?_
    refine AW_regl TB (fun D K hD hK => ?_)
    simp only [AwS, TS, AwD, aval, aIndex, aSlice, aLen, BN, BW, BS, Int.cast_ofNat_Int, spl, splice, bind, ↓reduceIte, simprocAttr, w1, w3]
    refine hD _ ?_
    clear hD hK D K
    refine ⟨(c ++ [(shr64 x (8 * m)).toUInt8], m), [(0, 73)], ⟨by dsimp only; omega, by rw [← hc]; simp [stB]⟩, by dsimp only; omega, ?_⟩
    refine ⟨rfl, by simp [storeF, alook, AV.map, AVs.map, bws_map], ⟨rfl, rfl⟩, ?_, ?_, by simp [storeF], by simp [storeF, nmap], ?_⟩
    · simp [storeF, alook, AV.map, AVs.map, nmap, AVs_map_append, ivs_map, yvs_map, bws_map]
    · simp [storeF, blook, AV.map, AVs.map, nmap, AVs_map_append, ivs_map, yvs_map, bws_map]
    · intro k hk
      have hk2 : k < 0 := hk
      omega
  · have hj0 : j = 0 := by have : ¬ (0 : Int) ≤ (j : Int) - 1 := by simpa using h
                           omega
    subst hj0
    refine hK0 _ ?_
    simp only [stB, List.append_nil] at hc
    subst hc
    refine AW_reg TB (fun D K hD hK => ?_)
    simp only [AwS, TS, AwD, aval, aIndex, aSlice, aLen, BN, BW, BS, Int.cast_ofNat_Int, spl, splice, bind, ↓reduceIte, simprocAttr]
    refine hD _ ?_
    clear hD hK D K
    refine AW_ret ?_
    simp only [RetX]
    exact ret_sl _ _ _ _ _ rfl rfl rfl (fun f => bws_map f _) (by simp)

theorem clone_spec (b : List UInt8) (k : Bool) (hl : b.length ≤ 4000000000) :
    Spec Tryd.prog [] 128 [.ds k b.length (b.map bw)] [] (fun o => o = .ret (.sl 0 0 b.length 1 (some 5)) [] [b.map bw]) := by
  refine spec_of TB 8 [.tmp 2] Tryd.func128 rfl rfl rfl (Nat.le_of_ble_eq_true rfl) ?_
  intro X w0 E0 hE hX
  simp only [idx, List.map_nil, List.length_nil]
  refine AW_reg TB (fun D K hD hK => ?_)
  simp only [AwS, TS, AwD, aval, aIndex, aSlice, aLen, BN, BW, BS, Int.cast_ofNat_Int, spl, splice, bind, ↓reduceIte, simprocAttr]
  refine hD _ ?_
  clear hD hK D K
  refine AW_seq ?_
  refine AW_reg TB (fun D K hD hK => ?_)
  simp only [AwS, TS, AwD, aval, aIndex, aSlice, aLen, BN, BW, BS, Int.cast_ofNat_Int, spl, splice, bind, ↓reduceIte, simprocAttr]
  refine hK _ _ ?_
  clear hD hK D K
  refine AL_nilS TB rfl rfl rfl rfl rfl rfl (fun r hr => ?_)
  refine AL_runR TB _ _ (fun D K hD hK => ?_)
  simp only [AwS, TS, AwD, aval, aIndex, aSlice, aLen, BN, BW, BS, Int.cast_ofNat_Int, spl, splice, bind, ↓reduceIte, simprocAttr]
  refine hD _ ?_
  clear hD hK D K
  refine AW_cond rfl (fun h => ?_) (fun h => AW_skip ?_)
  · have hb : b = [] := List.eq_nil_of_length_eq_zero (hr h)
    subst hb
    refine AW_reg TB (fun D K hD hK => ?_)
    simp only [AwS, TS, AwD, aval, aIndex, aSlice, aLen, BN, BW, BS, Int.cast_ofNat_Int, spl, splice, bind, ↓reduceIte, simprocAttr]
    refine hD _ ?_
    clear hD hK D K
    refine AW_ret ?_
    simp only [Ret, seqQ]
    exact ret_sl _ _ _ _ _ rfl rfl rfl (fun _ => rfl) rfl
  · simp only [seqQ]
    have c1 : (b.length ≤ 4294967296) = True := by simp; omega
    refine AW_reg TB (fun D K hD hK => ?_)
    simp only [AwS, TS, AwD, aval, aIndex, aSlice, aLen, BN, BW, BS, Int.cast_ofNat_Int, spl, splice, bind, ↓reduceIte, simprocAttr, c1, bws_take, bws_cell]
    refine hD _ ?_
    clear hD hK D K
    refine AW_ret ?_
    simp only [Ret, seqQ]
    exact ret_sl _ _ _ _ _ rfl rfl rfl (fun f => bws_map f _) (by simp)

end Go.Proofs.YtgbpgplkhifgiaaDoor

/- The walk of compress. No condition. -/
set_option linter.unusedVariables false
set_option linter.unusedSimpArgs false
set_option maxRecDepth 100000
namespace Go.Proofs.YtgbpgplkhifgiaaDoor
open Go Go.RowKit

abbrev glK : List (Nat × AV) := [(1, .dp true (KS.map ww))]

theorem KS_len : KS.length = 64 := rfl

def zW (n : Nat) : List AV := List.replicate n (.val (.int .u32 0))

/-- The first loop: the first i words are there. -/
def c1F (k : Bool) (h : H8) (b : List UInt8) (i : Nat) : St := { nt := 152, nx := 3, tm := [(15, iv i), (5, .ptr 2 0), (4, .ptr 1 0), (2, .ptr 0 0), (1, .ds k 64 (b.map bw))], bx := [(0, some h.cs), (1, some (zW 8)), (2, some ((sched b i).map ww ++ zW (64 - i)))], gl := glK, df := [] }

theorem zW_set (w : List UInt32) (n : Nat) (x : UInt32) : (w.map ww ++ zW (n + 1)).set w.length (ww x) = (w ++ [x]).map ww ++ zW n := by
  rw [List.set_append_right _ _ (by simp)]
  simp [zW, List.replicate_succ]

theorem zW_get (w : List UInt32) (n i : Nat) (h : i < w.length) : (w.map ww ++ zW n)[i]? = some (ww (w.getD i 0)) := by
  rw [List.getElem?_append_left (by simpa using h)]
  simp [List.getElem?_eq_getElem h]

theorem zW_eq (n : Nat) : List.map AV.val (List.replicate n (.int .u32 0)) = zW n := by simp [zW]
theorem rep_map (f : Nat → Nat) (n : Nat) (v : Value) : AVs.map f (List.replicate n (.val v)) = List.replicate n (.val v) := by
  induction n with
  | zero => rfl
  | succ n ih => simp only [List.replicate_succ, AVs.map, AV.map, ih]

theorem zW_len (n : Nat) : (zW n).length = n := by simp [zW]

theorem sched_set (b : List UInt8) (i : Nat) (hi : i < 64) (x : UInt32) : ((sched b i).map ww ++ zW (64 - i)).set i (ww x) = (sched b i ++ [x]).map ww ++ zW (64 - (i + 1)) := by
  have h1 : 64 - i = (64 - (i + 1)) + 1 := by omega
  rw [h1]
  have := zW_set (sched b i) (64 - (i + 1)) x
  rw [sched_len] at this
  exact this

theorem bws_slice (b : List UInt8) (l n : Nat) : List.take n (List.drop l (b.map bw)) = ((b.drop l).take n).map bw := by rw [← List.map_drop, ← List.map_take]

def c2F (h : H8) (b : List UInt8) (i : Nat) : St := { nt := 152, nx := 4, tm := [(66, iv i), (65, .agg (KS.map ww)), (9, .ptr 3 0), (5, .ptr 2 0), (4, .ptr 1 0), (2, .ptr 0 0)], bx := [(0, some h.cs), (1, some (zW 8)), (2, some ((sched b 64).map ww)), (3, some (rnds h KS (sched b 64) i).cs)], gl := glK, df := [] }

def addL (v h : List UInt32) (i : Nat) : List UInt32 := (List.zipWith (· + ·) v h).take i ++ v.drop i

theorem addL_len (v h : List UInt32) (i : Nat) (hv : v.length = h.length) (hi : i ≤ v.length) : (addL v h i).length = v.length := by
  simp [addL]; omega

theorem addL_get (v h : List UInt32) (i : Nat) (hv : v.length = h.length) (hi : i < v.length) : ((addL v h i).map ww)[i]? = some (ww (v.getD i 0)) := by
  have : (List.take i (List.zipWith (· + ·) v h)).length = i := by simp; omega
  simp only [addL, List.getElem?_map]
  rw [List.getElem?_append_right (by omega), this]
  simp [List.getElem?_eq_getElem hi]

theorem addL_set (v h : List UInt32) (i : Nat) (hv : v.length = h.length) (hi : i < v.length) : ((addL v h i).map ww).set i (ww (v.getD i 0 + h.getD i 0)) = (addL v h (i + 1)).map ww := by
  have h1 : (List.take i (List.zipWith (· + ·) v h)).length = i := by simp; omega
  rw [← List.map_set]
  congr 1
  simp only [addL]
  rw [List.set_append_right _ _ (by omega), h1, Nat.sub_self, List.drop_eq_getElem_cons hi, List.set_cons_zero]
  rw [List.take_succ_eq_append_getElem (by simp; omega)]
  simp [List.getElem?_eq_getElem hi, List.getElem?_eq_getElem (show i < h.length by omega)]

def c3F (h : H8) (v : H8) (i : Nat) : St := { nt := 152, nx := 3, tm := [(139, iv i), (9, .ptr 2 0), (4, .ptr 1 0), (2, .ptr 0 0)], bx := [(0, some h.cs), (1, some (zW 8)), (2, some ((addL v.l h.l i).map ww))], gl := glK, df := [] }

theorem wget (w : List UInt32) (i : Nat) (h : i < w.length) : (w.map ww)[i]? = some (ww (w.getD i 0)) := by
  simp [List.getElem?_eq_getElem h]

theorem compress_spec (h : H8) (b : List UInt8) (k : Bool) (hb : b.length = 64) : Spec Tryd.prog glK 130 [.agg h.cs, .ds k 64 (b.map bw)] [] (fun o => o = .ret (.agg (comp h b).cs) [] []) := by
  refine spec_of TB 152 [.cell 4 192] Tryd.func130 rfl rfl rfl (Nat.le_of_ble_eq_true rfl) ?_
  intro X w0 E0 hE hX
  have hKm : ∀ f : Nat → Nat, AVs.map f (KS.map ww) = KS.map ww := fun f => wws_map f _
  have hhm : ∀ f : Nat → Nat, AVs.map f h.cs = h.cs := fun f => wws_map f h.l
  simp only [idx, List.map_nil, List.length_nil]
  refine AW_reg TB (fun D K hD hK => ?_)
  simp only [AwS, TS, AwD, aval, aIndex, aSlice, aLen, BN, BW, BS, Int.cast_ofNat_Int, spl, splice, bind, ↓reduceIte, simprocAttr, H8.cs]
  refine hD _ ?_
  clear hD hK D K
  refine AW_reg TB (fun D K hD hK => ?_)
  simp only [AwS, TS, AwD, aval, aIndex, aSlice, aLen, BN, BW, BS, Int.cast_ofNat_Int, spl, splice, bind, ↓reduceIte, simprocAttr]
  refine hD _ ?_
  clear hD hK D K
  refine AW_seqk (fun K0 hK0 => ?_)
  refine AW_reg TB (fun D K hD hK => ?_)
  simp only [AwS, TS, AwD, aval, aIndex, aSlice, aLen, BN, BW, BS, Int.cast_ofNat_Int, spl, splice, bind, ↓reduceIte, simprocAttr]
  refine hD _ ?_
  clear hD hK D K
  refine AW_block ?_
  refine AW_loop (c1F k h b) (fun i => i ≤ 64) (fun i => 64 - i) hE 0 [(0, 0), (1, 8), (2, 16)] (by omega) ?_ ?_
  · refine ⟨rfl, by simp [c1F, alook, AV.map, AVs.map, hKm, hhm, bws_map, zW, H8.cs, sched], ⟨rfl, rfl⟩, ?_, ?_, by simp [c1F], by simp [c1F, nmap], ?_⟩
    · simp [c1F, alook, AV.map, AVs.map, nmap, AVs_map_append, ivs_map, yvs_map, hKm, hhm, bws_map, zW, H8.cs, sched]
    · simp [c1F, blook, AV.map, AVs.map, nmap, AVs_map_append, ivs_map, yvs_map, hKm, hhm, bws_map, zW, H8.cs, sched]
    · intro k hk
      have hk2 : k < 0 := hk
      omega
  intro i hi
  simp only [c1F]
  refine AW_reg TB (fun D K hD hK => ?_)
  simp only [AwS, TS, AwD, aval, aIndex, aSlice, aLen, BN, BW, BS, Int.cast_ofNat_Int, spl, splice, bind, ↓reduceIte, simprocAttr]
  refine hD _ ?_
  clear hD hK D K
  refine AW_seq (AW_cond rfl (fun hi1 => AW_skip ?_) (fun hi1 => AW_exit ?_))
  · have hlt : i < 64 := by
      have : (i : Int) < 64 := by simpa using hi1
      omega
    have w1 : IntKind.i64.wrap ((i : Int) + 1) = (i : Int) + 1 := wrap_i64 (by omega) (by omega)
    have d1 : (0 ≤ (i : Int) ∧ (i : Int) < 64) = True := by simp; omega
    have d2 : i + (64 - i) = 64 := by omega
    have d3 : (i + 1 ≤ 64) = True := by simp; omega
    refine AW_seqk (fun K1 hK1 => ?_)
    refine AW_block ?_
    refine AW_reg TB (fun D K hD hK => ?_)
    simp only [AwS, TS, AwD, aval, aIndex, aSlice, aLen, BN, BW, BS, Int.cast_ofNat_Int, spl, splice, bind, ↓reduceIte, simprocAttr]
    refine hD _ ?_
    clear hD hK D K
    refine AW_seq ?_
    refine AW_reg TB (fun D K hD hK => ?_)
    simp only [AwS, TS, AwD, aval, aIndex, aSlice, aLen, BN, BW, BS, Int.cast_ofNat_Int, spl, splice, bind, ↓reduceIte, simprocAttr]
    refine hD _ ?_
    clear hD hK D K
    refine AW_cond rfl (fun h16 => ?_) (fun h16 => AW_skip ?_)
    · have hl16 : i < 16 := by
        have : (i : Int) < 16 := by simpa using h16
        omega
      have w2 : IntKind.i64.wrap (4 * (i : Int)) = ((4 * i : Nat) : Int) := by rw [wrap_i64 (by omega) (by omega)]; simp
      have w3 : IntKind.i64.wrap (((4 * i : Nat) : Int) + 4) = ((4 * i + 4 : Nat) : Int) := by rw [wrap_i64 (by omega) (by omega)]; simp
      have c1 : (0 ≤ ((4 * i : Nat) : Int)) = True := by simp; omega
      have c2 : (0 ≤ ((4 * i + 4 : Nat) : Int)) = True := by simp; omega
      have c3 : (4 * i ≤ 4 * i + 4) = True := by simp
      have c5 : (4 * i + 4 ≤ 64) = True := by simp; omega
      have c6 : (4 * i ≤ 60) = True := by simp; omega
      have c4 : 4 * i + 4 - 4 * i = 4 := by omega
      refine AW_reg TB (fun D K hD hK => ?_)
      simp only [AwS, TS, AwD, aval, aIndex, aSlice, aLen, BN, BW, BS, Int.cast_ofNat_Int, spl, splice, bind, ↓reduceIte, simprocAttr, w2, w3, c1, c2, c3, c4, c5, c6, implies_true, Int.toNat_natCast, bws_slice]
      refine hK _ _ ?_
      clear hD hK D K
      have hl4 : ((b.drop (4 * i)).take 4).length = 4 := by simp; omega
      have ls := load_spec ((b.drop (4 * i)).take 4) k (by omega)
      rw [hl4] at ls
      refine AL_callP rfl rfl rfl rfl en_147 ls [] ?_ (by simp) rfl rfl ?_
      · simp [evs, St.ev, cav, alook, lendA, lentBx, lendC, blook, AVs.map, AV.map, ioMap, -List.map_take, -List.map_drop, bws_map]
      refine AL_runR TB _ _ (fun D K hD hK => ?_)
      simp only [AwS, TS, AwD, aval, aIndex, aSlice, aLen, BN, BW, BS, Int.cast_ofNat_Int, spl, splice, bind, ↓reduceIte, simprocAttr, d1, d2, d3, sched_len, zW_len, Int.toNat_natCast, sched_set b i hlt]
      refine hD _ ?_
      clear hD hK D K
      refine AW_exit ?_
      refine hK1 _ ?_
      refine AW_regl TB (fun D K hD hK => ?_)
      simp only [AwS, TS, AwD, aval, aIndex, aSlice, aLen, BN, BW, BS, Int.cast_ofNat_Int, spl, splice, bind, ↓reduceIte, simprocAttr, w1]
      refine hD _ ?_
      clear hD hK D K
      refine ⟨i + 1, [(0, 0), (1, 1), (2, 2)], by omega, by dsimp only; omega, ?_⟩
      refine ⟨rfl, by simp [c1F, alook, AV.map, AVs.map, hKm, hhm, bws_map, wws_map, rep_map, zW, sched, hl16], ⟨rfl, rfl⟩, ?_, ?_, by simp [c1F], by simp [c1F, nmap], ?_⟩
      · simp [c1F, alook, AV.map, AVs.map, nmap, AVs_map_append, ivs_map, yvs_map, hKm, hhm, bws_map, wws_map, rep_map, zW, sched, hl16]
      · simp [c1F, blook, AV.map, AVs.map, nmap, AVs_map_append, ivs_map, yvs_map, hKm, hhm, bws_map, wws_map, rep_map, zW, sched, hl16]
      · intro k hk
        have hk2 : k < 0 := hk
        omega
    · have hge16 : 16 ≤ i := by
        have : ¬ (i : Int) < 16 := by simpa using h16
        omega
      simp only [seqQ]
      have e15 : IntKind.i64.wrap ((i : Int) - 15) = ((i - 15 : Nat) : Int) := by rw [wrap_i64 (by omega) (by omega)]; omega
      have e2 : IntKind.i64.wrap ((i : Int) - 2) = ((i - 2 : Nat) : Int) := by rw [wrap_i64 (by omega) (by omega)]; omega
      have e16 : IntKind.i64.wrap ((i : Int) - 16) = ((i - 16 : Nat) : Int) := by rw [wrap_i64 (by omega) (by omega)]; omega
      have e7 : IntKind.i64.wrap ((i : Int) - 7) = ((i - 7 : Nat) : Int) := by rw [wrap_i64 (by omega) (by omega)]; omega
      have x15 : (0 ≤ ((i - 15 : Nat) : Int) ∧ ((i - 15 : Nat) : Int) < 64) = True := by simp; omega
      have x2 : (0 ≤ ((i - 2 : Nat) : Int) ∧ ((i - 2 : Nat) : Int) < 64) = True := by simp; omega
      have x16 : (0 ≤ ((i - 16 : Nat) : Int) ∧ ((i - 16 : Nat) : Int) < 64) = True := by simp; omega
      have x7 : (0 ≤ ((i - 7 : Nat) : Int) ∧ ((i - 7 : Nat) : Int) < 64) = True := by simp; omega
      have g15 := zW_get (sched b i) (64 - i) (i - 15) (by rw [sched_len]; omega)
      have g2 := zW_get (sched b i) (64 - i) (i - 2) (by rw [sched_len]; omega)
      have g16 := zW_get (sched b i) (64 - i) (i - 16) (by rw [sched_len]; omega)
      have g7 := zW_get (sched b i) (64 - i) (i - 7) (by rw [sched_len]; omega)
      refine AW_seq ?_
      refine AW_dregl TB mx ([[], [0], [1, 0], [2, 1, 0], [], [4], [5, 4], [6, 5, 4], [3, 2, 1, 0], [7, 6, 5, 4, 8, 3, 2, 1, 0]]) (by kernel_rfl) (by kernel_rfl) (fun D K hD hK => ?_)
      simp only [AwS, TS, AwD, aval, aIndex, aSlice, aLen, BN, BW, BS, Int.cast_ofNat_Int, spl, splice, bind, ↓reduceIte, simprocAttr, Op.operands, Call.operands, List.toList_toArray, List.size_toArray, cmp, List.getD_cons_zero, List.getD_cons_succ, Array.toList_append, Option.toArray, List.append_toArray,  e15, e2, x15, x2, g15, g2, Int.toNat_natCast]
      refine hD _ ?_
      clear hD hK D K
      simp only [seqQ]
      refine AW_dregl TB mx ([[], [], [1], [2, 1], [3, 2, 1], [], [], [5, 6], [], [8], [7, 5, 6, 9, 8], [4, 3, 2, 1, 10, 7, 5, 6, 9, 8], [], [12], [13, 12], [14, 13, 12], [11, 4, 3, 2, 1, 10, 7, 5, 6, 9, 8, 15, 14, 13, 12], [], [], [17, 18, 7, 5, 6], [], [20], [19, 17, 18, 7, 5, 6, 21, 20], [16, 11, 4, 3, 2, 1, 10, 7, 5, 6, 9, 8, 15, 14, 13, 12, 22, 19, 17, 18, 21, 20], [0, 1, 2, 3, 4, 5, 6, 7, 8, 9, 10, 11, 12, 13, 14, 15, 16, 17, 18, 19, 20, 21, 22, 23], [24, 0, 1, 2, 3, 4, 5, 6, 7, 8, 9, 10, 11, 12, 13, 14, 15, 16, 17, 18, 19, 20, 21, 22, 23]]) (by kernel_rfl) (by kernel_rfl) (fun D K hD hK => ?_)
      simp only [AwS, TS, AwD, aval, aIndex, aSlice, aLen, BN, BW, BS, Int.cast_ofNat_Int, spl, splice, bind, ↓reduceIte, simprocAttr, Op.operands, Call.operands, List.toList_toArray, List.size_toArray, cmp, List.getD_cons_zero, List.getD_cons_succ, Array.toList_append, Option.toArray, List.append_toArray,  e16, x16, g16, Int.toNat_natCast]
      refine hK _ _ _ _ ?_
      clear hD hK D K
      have r1 := rotr_spec ((sched b i).getD (i - 15) 0) [7, 18] (by decide) (by decide)
      refine DL_callP rfl rfl rfl rfl rfl en_148 r1 [171] ?_ (by simp [blook]) rfl rfl rfl ?_
      · simp [evs, St.ev, cav, alook, lendA, lentBx, lendC, blook, AVs.map, AV.map, ioMap]
      refine DL_rest TB rfl (fun D K hD hK => ?_)
      simp only [AwS, TS, AwD, aval, aIndex, aSlice, aLen, BN, BW, BS, Int.cast_ofNat_Int, spl, splice, bind, ↓reduceIte, simprocAttr, Op.operands, Call.operands, List.toList_toArray, List.size_toArray, cmp, List.getD_cons_zero, List.getD_cons_succ, Array.toList_append, Option.toArray, List.append_toArray, e7, x7, g7, Int.toNat_natCast]
      refine hK _ _ _ _ ?_
      clear hD hK D K
      have r2 := rotr_spec ((sched b i).getD (i - 2) 0) [17, 19] (by decide) (by decide)
      refine DL_callP rfl rfl rfl rfl rfl en_148 r2 [267] ?_ (by simp [blook]) rfl rfl rfl ?_
      · simp [evs, St.ev, cav, alook, lendA, lentBx, lendC, blook, AVs.map, AV.map, ioMap]
      refine DL_rest TB rfl (fun D K hD hK => ?_)
      simp only [AwS, TS, AwD, aval, aIndex, aSlice, aLen, BN, BW, BS, Int.cast_ofNat_Int, spl, splice, bind, ↓reduceIte, simprocAttr, Op.operands, Call.operands, List.toList_toArray, List.size_toArray, cmp, List.getD_cons_zero, List.getD_cons_succ, Array.toList_append, Option.toArray, List.append_toArray, d1, d2, d3, sched_len, zW_len, Int.toNat_natCast, sched_set b i hlt]
      refine hD _ ?_
      clear hD hK D K
      refine hK1 _ ?_
      refine AW_regl TB (fun D K hD hK => ?_)
      simp only [AwS, TS, AwD, aval, aIndex, aSlice, aLen, BN, BW, BS, Int.cast_ofNat_Int, spl, splice, bind, ↓reduceIte, simprocAttr, w1]
      refine hD _ ?_
      clear hD hK D K
      refine ⟨i + 1, [(0, 0), (1, 1), (2, 2)], by omega, by dsimp only; omega, ?_⟩
      refine ⟨rfl, by simp [c1F, alook, AV.map, AVs.map, hKm, hhm, bws_map, wws_map, rep_map, zW, sched, h16, wNew, show ¬ i < 16 by omega], ⟨rfl, rfl⟩, ?_, ?_, by simp [c1F], by simp [c1F, nmap], ?_⟩
      · simp [c1F, alook, AV.map, AVs.map, nmap, AVs_map_append, ivs_map, yvs_map, hKm, hhm, bws_map, wws_map, rep_map, zW, sched, h16, wNew, show ¬ i < 16 by omega]
      · simp [c1F, blook, AV.map, AVs.map, nmap, AVs_map_append, ivs_map, yvs_map, hKm, hhm, bws_map, wws_map, rep_map, zW, sched, h16, wNew, show ¬ i < 16 by omega]
      · intro k hk
        have hk2 : k < 0 := hk
        omega
  · have hge : i = 64 := by
      have : ¬ (i : Int) < 64 := by simpa using hi1
      omega
    subst hge
    refine hK0 _ ?_
    have ks2 : (KS.map ww).length = 64 := by simp [KS_len]
    have ks1 : List.take 64 (KS.map ww) = KS.map ww := List.take_of_length_le (by omega)
    refine AW_reg TB (fun D K hD hK => ?_)
    simp only [AwS, TS, AwD, aval, aIndex, aSlice, aLen, BN, BW, BS, Int.cast_ofNat_Int, spl, splice, bind, ↓reduceIte, simprocAttr, H8.cs]
    refine hD _ ?_
    clear hD hK D K
    refine AW_seqk (fun K1 hK1 => ?_)
    refine AW_reg TB (fun D K hD hK => ?_)
    simp only [AwS, TS, AwD, aval, aIndex, aSlice, aLen, BN, BW, BS, Int.cast_ofNat_Int, spl, splice, bind, ↓reduceIte, simprocAttr, ks1, ks2]
    refine hD _ ?_
    clear hD hK D K
    refine AW_block ?_
    refine AW_loop (c2F h b) (fun i => i ≤ 64) (fun i => 64 - i) hE 0 [(0, 0), (1, 1), (2, 2), (3, 19)] (by omega) ?_ ?_
    · refine ⟨rfl, by simp [c2F, alook, AV.map, AVs.map, hKm, hhm, wws_map, rep_map, zW, H8.cs, rnds], ⟨rfl, rfl⟩, ?_, ?_, by simp [c2F], by simp [c2F, nmap], ?_⟩
      · simp [c2F, alook, AV.map, AVs.map, nmap, AVs_map_append, ivs_map, yvs_map, hKm, hhm, wws_map, rep_map, zW, H8.cs, rnds]
      · simp [c2F, blook, AV.map, AVs.map, nmap, AVs_map_append, ivs_map, yvs_map, hKm, hhm, wws_map, rep_map, zW, H8.cs, rnds]
      · intro k hk
        have hk2 : k < 0 := hk
        omega
    intro i hi
    simp only [c2F]
    refine AW_reg TB (fun D K hD hK => ?_)
    simp only [AwS, TS, AwD, aval, aIndex, aSlice, aLen, BN, BW, BS, Int.cast_ofNat_Int, spl, splice, bind, ↓reduceIte, simprocAttr]
    refine hD _ ?_
    clear hD hK D K
    refine AW_seq (AW_cond rfl (fun hi1 => AW_skip ?_) (fun hi1 => AW_exit ?_))
    · have hlt : i < 64 := by
        have : (i : Int) < 64 := by simpa using hi1
        omega
      have w1 : IntKind.i64.wrap ((i : Int) + 1) = (i : Int) + 1 := wrap_i64 (by omega) (by omega)
      have d1 : (0 ≤ (i : Int) ∧ (i : Int) < 64) = True := by simp; omega
      have gK := wget KS i (by rw [KS_len]; omega)
      have gW := wget (sched b 64) i (by rw [sched_len]; omega)
      refine AW_seqk (fun K2 hK2 => ?_)
      refine AW_block ?_
      generalize hv : rnds h KS (sched b 64) i = v
      simp only [H8.cs]
      refine AW_reg TB (fun D K hD hK => ?_)
      simp only [AwS, TS, AwD, aval, aIndex, aSlice, aLen, BN, BW, BS, Int.cast_ofNat_Int, spl, splice, bind, ↓reduceIte, simprocAttr, d1, gK, Int.toNat_natCast]
      refine hD _ ?_
      clear hD hK D K
      refine AW_seq ?_
      refine AW_dregl TB mx ([[], [0], [], [2], [], [3, 2, 4], [1, 0, 5, 3, 2, 4], [], [7], [], [9], [8, 7, 10, 9], [], [12], [13, 12], [], [15], [14, 13, 12, 16, 15], [11, 8, 7, 10, 9, 17, 14, 13, 12, 16, 15], [6, 1, 0, 5, 3, 2, 4, 18, 11, 8, 7, 10, 9, 17, 14, 13, 12, 16, 15], [], [19, 6, 1, 0, 5, 3, 2, 4, 18, 11, 8, 7, 10, 9, 17, 14, 13, 12, 16, 15, 20], [], [22], [23, 22], [21, 19, 6, 1, 0, 5, 3, 2, 4, 18, 11, 8, 7, 10, 9, 17, 14, 13, 12, 16, 15, 20, 24, 23, 22], [25, 21, 19, 6, 1, 0, 5, 3, 2, 4, 18, 11, 8, 7, 10, 9, 17, 14, 13, 12, 16, 15, 20, 24, 23, 22]]) (by kernel_rfl) (by kernel_rfl) (fun D K hD hK => ?_)
      simp only [AwS, TS, AwD, aval, aIndex, aSlice, aLen, BN, BW, BS, Int.cast_ofNat_Int, spl, splice, bind, ↓reduceIte, simprocAttr, Op.operands, Call.operands, List.toList_toArray, List.size_toArray, cmp, List.getD_cons_zero, List.getD_cons_succ, Array.toList_append, Option.toArray, List.append_toArray,]
      refine hK _ _ _ _ ?_
      clear hD hK D K
      have r1 := rotr_spec v.e [6, 11, 25] (by decide) (by decide)
      refine DL_callP rfl rfl rfl rfl rfl en_148 r1 [76] ?_ (by simp [blook]) rfl rfl rfl ?_
      · simp [evs, St.ev, cav, alook, lendA, lentBx, lendC, blook, AVs.map, AV.map, ioMap]
      refine DL_rest TB rfl (fun D K hD hK => ?_)
      simp only [AwS, TS, AwD, aval, aIndex, aSlice, aLen, BN, BW, BS, Int.cast_ofNat_Int, spl, splice, bind, ↓reduceIte, simprocAttr, Op.operands, Call.operands, List.toList_toArray, List.size_toArray, cmp, List.getD_cons_zero, List.getD_cons_succ, Array.toList_append, Option.toArray, List.append_toArray, d1, gW, Int.toNat_natCast]
      refine hD _ ?_
      clear hD hK D K
      simp only [seqQ]
      refine AW_seq ?_
      refine AW_dregl TB mx ([[], [0], [], [1, 0, 2], [], [4], [], [6], [5, 4, 7, 6], [], [9], [], [11], [10, 9, 12, 11], [8, 5, 4, 7, 6, 13, 10, 9, 12, 11], [], [15], [], [17], [16, 15, 18, 17], [14, 8, 5, 4, 7, 6, 13, 10, 9, 12, 11, 19, 16, 15, 18, 17], [3, 1, 0, 2, 20, 14, 8, 5, 4, 7, 6, 13, 10, 9, 12, 11, 19, 16, 15, 18, 17], [21, 3, 1, 0, 2, 20, 14, 8, 5, 4, 7, 6, 13, 10, 9, 12, 11, 19, 16, 15, 18, 17]]) (by kernel_rfl) (by kernel_rfl) (fun D K hD hK => ?_)
      simp only [AwS, TS, AwD, aval, aIndex, aSlice, aLen, BN, BW, BS, Int.cast_ofNat_Int, spl, splice, bind, ↓reduceIte, simprocAttr, Op.operands, Call.operands, List.toList_toArray, List.size_toArray, cmp, List.getD_cons_zero, List.getD_cons_succ, Array.toList_append, Option.toArray, List.append_toArray,]
      refine hK _ _ _ _ ?_
      clear hD hK D K
      have r2 := rotr_spec v.a [2, 13, 22] (by decide) (by decide)
      refine DL_callP rfl rfl rfl rfl rfl en_148 r2 [276] ?_ (by simp [blook]) rfl rfl rfl ?_
      · simp [evs, St.ev, cav, alook, lendA, lentBx, lendC, blook, AVs.map, AV.map, ioMap]
      refine DL_rest TB rfl (fun D K hD hK => ?_)
      simp only [AwS, TS, AwD, aval, aIndex, aSlice, aLen, BN, BW, BS, Int.cast_ofNat_Int, spl, splice, bind, ↓reduceIte, simprocAttr, Op.operands, Call.operands, List.toList_toArray, List.size_toArray, cmp, List.getD_cons_zero, List.getD_cons_succ, Array.toList_append, Option.toArray, List.append_toArray]
      refine hD _ ?_
      clear hD hK D K
      simp only [seqQ]
      refine AW_regl TB (fun D K hD hK => ?_)
      simp only [AwS, TS, AwD, aval, aIndex, aSlice, aLen, BN, BW, BS, Int.cast_ofNat_Int, spl, splice, bind, ↓reduceIte, simprocAttr]
      refine hD _ ?_
      clear hD hK D K
      refine hK2 _ ?_
      refine AW_regl TB (fun D K hD hK => ?_)
      simp only [AwS, TS, AwD, aval, aIndex, aSlice, aLen, BN, BW, BS, Int.cast_ofNat_Int, spl, splice, bind, ↓reduceIte, simprocAttr, w1]
      refine hD _ ?_
      clear hD hK D K
      refine ⟨i + 1, [(0, 0), (1, 1), (2, 2), (3, 3)], by omega, by dsimp only; omega, ?_⟩
      refine ⟨rfl, by simp [c2F, alook, AV.map, AVs.map, hKm, hhm, wws_map, rep_map, zW, H8.cs, rnds, hv, rnd, T1, T2], ⟨rfl, rfl⟩, ?_, ?_, by simp [c2F], by simp [c2F, nmap], ?_⟩
      · simp [c2F, alook, AV.map, AVs.map, nmap, AVs_map_append, ivs_map, yvs_map, hKm, hhm, wws_map, rep_map, zW, H8.cs, rnds, hv, rnd, T1, T2]
      · simp [c2F, blook, AV.map, AVs.map, nmap, AVs_map_append, ivs_map, yvs_map, hKm, hhm, wws_map, rep_map, zW, H8.cs, rnds, hv, rnd, T1, T2]
      · intro k hk
        have hk2 : k < 0 := hk
        omega
    · have hge : i = 64 := by
        have : ¬ (i : Int) < 64 := by simpa using hi1
        omega
      subst hge
      refine hK1 _ ?_
      generalize hv : rnds h KS (sched b 64) 64 = v
      have hcomp : comp h b = v.add h := by simp only [comp, hv]
      refine AW_seqk (fun K2 hK2 => ?_)
      refine AW_reg TB (fun D K hD hK => ?_)
      simp only [AwS, TS, AwD, aval, aIndex, aSlice, aLen, BN, BW, BS, Int.cast_ofNat_Int, spl, splice, bind, ↓reduceIte, simprocAttr]
      refine hD _ ?_
      clear hD hK D K
      refine AW_block ?_
      refine AW_loop (c3F h v) (fun i => i ≤ 8) (fun i => 8 - i) hE 0 [(0, 0), (1, 1), (2, 3)] (by omega) ?_ ?_
      · refine ⟨rfl, by simp [c3F, alook, AV.map, AVs.map, hKm, hhm, wws_map, rep_map, zW, H8.cs, H8.l, addL], ⟨rfl, rfl⟩, ?_, ?_, by simp [c3F], by simp [c3F, nmap], ?_⟩
        · simp [c3F, alook, AV.map, AVs.map, nmap, AVs_map_append, ivs_map, yvs_map, hKm, hhm, wws_map, rep_map, zW, H8.cs, H8.l, addL]
        · simp [c3F, blook, AV.map, AVs.map, nmap, AVs_map_append, ivs_map, yvs_map, hKm, hhm, wws_map, rep_map, zW, H8.cs, H8.l, addL]
        · intro k hk
          have hk2 : k < 0 := hk
          omega
      intro i hi
      simp only [c3F]
      have hvl : v.l.length = 8 := rfl
      have hhl : h.l.length = 8 := rfl
      refine AW_reg TB (fun D K hD hK => ?_)
      simp only [AwS, TS, AwD, aval, aIndex, aSlice, aLen, BN, BW, BS, Int.cast_ofNat_Int, spl, splice, bind, ↓reduceIte, simprocAttr]
      refine hD _ ?_
      clear hD hK D K
      refine AW_seq (AW_cond rfl (fun hi1 => AW_skip ?_) (fun hi1 => AW_exit ?_))
      · have hlt : i < 8 := by
          have : (i : Int) < 8 := by simpa using hi1
          omega
        have w1 : IntKind.i64.wrap ((i : Int) + 1) = (i : Int) + 1 := wrap_i64 (by omega) (by omega)
        have d1 : (0 ≤ (i : Int) ∧ (i : Int) < 8) = True := by simp; omega
        have d3 : (i + 1 ≤ 8) = True := by simp; omega
        have g1 := addL_get v.l h.l i (by omega) (by omega)
        have g2 : h.cs[i]? = some (ww (h.l.getD i 0)) := wget h.l i (by omega)
        have g3 := addL_set v.l h.l i (by omega) (by omega)
        have g4 : ((addL v.l h.l i).map ww).length = 8 := by rw [List.length_map, addL_len _ _ _ (by omega) (by omega)]; rfl
        refine AW_seqk (fun K3 hK3 => ?_)
        refine AW_block ?_
        refine AW_reg TB (fun D K hD hK => ?_)
        simp only [AwS, TS, AwD, aval, aIndex, aSlice, aLen, BN, BW, BS, Int.cast_ofNat_Int, spl, splice, bind, ↓reduceIte, simprocAttr]
        refine hD _ ?_
        clear hD hK D K
        refine AW_dregl TB mx ([[], [0], [1, 0], [], [3], [4, 3], [2, 1, 0, 5, 4, 3], [0, 1, 2, 3, 4, 5, 6], [7, 0, 1, 2, 3, 4, 5, 6]]) (by kernel_rfl) (by kernel_rfl) (fun D K hD hK => ?_)
        simp only [AwS, TS, AwD, aval, aIndex, aSlice, aLen, BN, BW, BS, Int.cast_ofNat_Int, spl, splice, bind, ↓reduceIte, simprocAttr, Op.operands, Call.operands, List.toList_toArray, List.size_toArray, cmp, List.getD_cons_zero, List.getD_cons_succ, Array.toList_append, Option.toArray, List.append_toArray,  d1, d3, g1, g2, g3, g4, Int.toNat_natCast]
        refine hD _ ?_
        clear hD hK D K
        refine hK3 _ ?_
        refine AW_regl TB (fun D K hD hK => ?_)
        simp only [AwS, TS, AwD, aval, aIndex, aSlice, aLen, BN, BW, BS, Int.cast_ofNat_Int, spl, splice, bind, ↓reduceIte, simprocAttr, w1]
        refine hD _ ?_
        clear hD hK D K
        refine ⟨i + 1, [(0, 0), (1, 1), (2, 2)], by omega, by dsimp only; omega, ?_⟩
        refine ⟨rfl, by simp [c3F, alook, AV.map, AVs.map, hKm, hhm, wws_map, rep_map, zW], ⟨rfl, rfl⟩, ?_, ?_, by simp [c3F], by simp [c3F, nmap], ?_⟩
        · simp [c3F, alook, AV.map, AVs.map, nmap, AVs_map_append, ivs_map, yvs_map, hKm, hhm, wws_map, rep_map, zW]
        · simp [c3F, blook, AV.map, AVs.map, nmap, AVs_map_append, ivs_map, yvs_map, hKm, hhm, wws_map, rep_map, zW]
        · intro k hk
          have hk2 : k < 0 := hk
          omega
      · have hge : i = 8 := by
          have : ¬ (i : Int) < 8 := by simpa using hi1
          omega
        subst hge
        refine hK2 _ ?_
        have e8 : (addL v.l h.l 8).map ww = (v.add h).cs := rfl
        have e9 : zW 8 = [.val (.int .u32 0), .val (.int .u32 0), .val (.int .u32 0), .val (.int .u32 0), .val (.int .u32 0), .val (.int .u32 0), .val (.int .u32 0), .val (.int .u32 0)] := rfl
        refine AW_reg TB (fun D K hD hK => ?_)
        simp only [AwS, TS, AwD, aval, aIndex, aSlice, aLen, BN, BW, BS, Int.cast_ofNat_Int, spl, splice, bind, ↓reduceIte, simprocAttr, e8, e9, H8.cs]
        refine hD _ ?_
        clear hD hK D K
        refine AW_ret ?_
        simp only [Ret]
        rw [hcomp]
        refine retp (.agg (v.add h).cs) rfl ?_ rfl rfl
        simp [resOf, resAll, resAV, alook, blook, AV.known, loadC, AwS, TS, TD.isAgg, H8.cs]

end Go.Proofs.YtgbpgplkhifgiaaDoor

/- The walks of Chunk and of Sum. No condition. -/
set_option linter.unusedVariables false
set_option linter.unusedSimpArgs false
set_option maxRecDepth 100000
namespace Go.Proofs.YtgbpgplkhifgiaaDoor
open Go Go.RowKit

abbrev glS : List (Nat × AV) := [(0, .dp true HS.cs), (1, .dp true (KS.map ww))]
abbrev fnA : AV := .clo 130 []

theorem hio_of {σ : St} {f : Nat → Nat} {ios : List Nat} {io : List (List AV)} (h : ios.map (fun k => blook k σ.bx) = io.map (fun cs => some (AVs.map f cs))) :
    ∀ (j k : Nat) (cs : List AV), ios[j]? = some k → io[j]? = some cs → blook k σ.bx = some (AVs.map f cs) := by
  intro j k cs h1 h2
  have := congrArg (fun l : List (Option (List AV)) => l[j]?) h
  simpa [List.getElem?_map, h1, h2] using this

theorem chunk_spec (m : List UInt8) : Spec Tryd.prog [] 131 [.ds true m.length (m.map bw), iv 64] [] (fun o => o = .ret (.clo 149 [.ptr 0 0, .ptr 1 0]) [] [[.ds true m.length (m.map bw)], [iv 64]]) := by
  refine spec_of TB 9 [.tmp 4] Tryd.func131 rfl rfl rfl (Nat.le_of_ble_eq_true rfl) ?_
  intro X w0 E0 hE hX
  simp only [idx, List.map_nil, List.length_nil]
  refine AW_reg TB (fun D K hD hK => ?_)
  simp only [AwS, TS, AwD, aval, aIndex, aSlice, aLen, BN, BW, BS, Int.cast_ofNat_Int, spl, splice, bind, ↓reduceIte, simprocAttr]
  refine hD _ ?_
  clear hD hK D K
  refine AW_seq ?_
  refine AW_reg TB (fun D K hD hK => ?_)
  simp only [AwS, TS, AwD, aval, aIndex, aSlice, aLen, BN, BW, BS, Int.cast_ofNat_Int, spl, splice, bind, ↓reduceIte, simprocAttr]
  refine hD _ ?_
  clear hD hK D K
  refine AW_false rfl (AW_skip ?_)
  simp only [seqQ]
  refine AW_reg TB (fun D K hD hK => ?_)
  simp only [AwS, TS, AwD, aval, aIndex, aSlice, aLen, BN, BW, BS, Int.cast_ofNat_Int, spl, splice, bind, ↓reduceIte, simprocAttr]
  refine hD _ ?_
  clear hD hK D K
  refine AW_ret ?_
  simp only [Ret]
  refine ⟨.clo 149 [.ptr 0 0, .ptr 1 0], [], [[.ds true m.length (m.map bw)], [iv 64]], [(0, 0), (1, 8)], rfl, ?_, ?_, rfl⟩
  · simp [resOf, resAll, resAV, alook, blook, AV.known, loadC, AwS, TS, TD.isAgg, AV.map, AVs.map, nmap]
  · refine ⟨rfl, by simp [leftSt], ⟨rfl, rfl⟩, by simp [leftSt], ?_, by simp [leftSt], by simp [leftSt, idx, nmap], by simp⟩
    simp [leftSt, idx, blook, nmap, AVs.map, AV.map, bws_map]

def ck1F (c : Yc) (m : List UInt8) (st : Nat → H8) (i : Nat) : St :=
  { nt := 31, nx := 4, tm := [(4, iv (64 * i : Nat)), (0, .yld c [.ptr 2 0, .ptr 3 0]), (1, .ptr 0 0), (2, .ptr 1 0)], bx := [(0, some [.ds true m.length (m.map bw)]), (1, some [iv 64]), (2, some (st i).cs), (3, some [fnA])], gl := glS, df := [] }

theorem cs_map (h : H8) (f : Nat → Nat) : AVs.map f h.cs = h.cs := wws_map f h.l

theorem chunk1_spec (m : List UInt8) (hm : m.length % 64 = 0) (hl : m.length ≤ 1000000000) (c : Yc) (st : Nat → H8)
    (hy : ∀ i, 64 * i + 64 ≤ m.length → SpecV (YCall Tryd.prog) glS [.ds true 64 (((m.drop (64 * i)).take 64).map bw), .yld c [.ptr 0 0, .ptr 1 0]] [(st i).cs, [fnA]] [] (fun o => o = .ret (bv true) [(st (i + 1)).cs, [fnA]] [])) :
    SpecV (Calls Tryd.prog 149) glS [.yld c [.ptr 2 0, .ptr 3 0], .ptr 0 0, .ptr 1 0] [[.ds true m.length (m.map bw)], [iv 64], (st 0).cs, [fnA]] []
      (fun o => o = .ret (.tup []) [[.ds true m.length (m.map bw)], [iv 64], (st (m.length / 64)).cs, [fnA]] []) := by
  refine spec_ofV TB 31 [] Tryd.func149 rfl rfl rfl (Nat.le_of_ble_eq_true rfl) ?_
  intro X w0 E0 hro hE
  have hKm : ∀ f : Nat → Nat, AVs.map f (KS.map ww) = KS.map ww := fun f => wws_map f _
  simp only [idx, List.map_nil, List.length_nil, List.append_nil, List.map_cons, List.length_cons]
  refine AW_reg TB (fun D K hD hK => ?_)
  simp only [AwS, TS, AwD, aval, aIndex, aSlice, aLen, BN, BW, BS, Int.cast_ofNat_Int, spl, splice, bind, ↓reduceIte, simprocAttr]
  refine hD _ ?_
  clear hD hK D K
  refine AW_block ?_
  refine AW_loop (ck1F c m st) (fun i => 64 * i ≤ m.length) (fun i => m.length - 64 * i) hE 0 [(0, 0), (1, 1), (2, 2), (3, 3)] (by omega) ?_ ?_
  · refine ⟨rfl, by simp [ck1F, alook, AV.map, AVs.map, hKm, cs_map, bws_map], ⟨rfl, rfl⟩, ?_, ?_, by simp [ck1F], by simp [ck1F, nmap], ?_⟩
    · simp [ck1F, alook, AV.map, AVs.map, nmap, AVs_map_append, ivs_map, yvs_map, hKm, cs_map, bws_map]
    · simp [ck1F, blook, AV.map, AVs.map, nmap, AVs_map_append, ivs_map, yvs_map, hKm, cs_map, bws_map]
    · intro k hk
      have hk2 : k < 4 := hk
      rcases k with _ | _ | _ | _ | k <;> first | rfl | omega
  intro i hi
  simp only [ck1F]
  have a1 : (0 ≤ ((64 * i : Nat) : Int)) = True := by simp; omega
  refine AW_seq ?_
  refine AW_reg TB (fun D K hD hK => ?_)
  simp only [AwS, TS, AwD, aval, aIndex, aSlice, aLen, BN, BW, BS, Int.cast_ofNat_Int, spl, splice, bind, ↓reduceIte, simprocAttr]
  refine hD _ ?_
  clear hD hK D K
  refine AW_cond rfl (fun hi1 => AW_skip ?_) (fun hi1 => AW_exit ?_)
  · have hlt : 64 * i < m.length := by
      have : ((64 * i : Nat) : Int) < (m.length : Int) := by simpa using hi1
      omega
    have hle : 64 * i + 64 ≤ m.length := by omega
    simp only [seqQ]
    refine AW_seqk (fun K1 hK1 => ?_)
    refine AW_block ?_
    have b1 : (64 * i ≤ m.length) = True := by simp; omega
    have b2 : ((m.length : Int) - 0 < 0) = False := by simp
    have b3 : (((m.length - 64 * i : Nat) : Int) < 64) = False := by simp; omega
    refine AW_dreg TB mx ([[], [], [], [1, 2], [3, 1, 2], [0, 4, 3, 1, 2], [5, 0, 4, 3, 1, 2]]) (by kernel_rfl) (by kernel_rfl) (fun D K hD hK => ?_)
    simp only [AwS, TS, AwD, aval, aIndex, aSlice, aLen, BN, BW, BS, Int.cast_ofNat_Int, spl, splice, bind, ↓reduceIte, simprocAttr, Op.operands, Call.operands, List.toList_toArray, List.size_toArray, cmp, List.getD_cons_zero, List.getD_cons_succ, Array.toList_append, Option.toArray, List.append_toArray,  a1, b1, b3, Int.toNat_natCast, implies_true, Nat.le_refl]
    refine hD _ ?_
    clear hD hK D K
    simp only [AwS, TS, AwD, aval, aIndex, aSlice, aLen, BN, BW, BS, Int.cast_ofNat_Int, spl, splice, bind, ↓reduceIte, simprocAttr, b3]
    have w2 : IntKind.i64.wrap (((64 * i : Nat) : Int) + 64) = ((64 * i + 64 : Nat) : Int) := by rw [wrap_i64 (by omega) (by omega)]; simp
    have b4 : (0 ≤ ((64 * i + 64 : Nat) : Int)) = True := by simp; omega
    have b5 : (64 * i + 64 ≤ m.length) = True := by simp; omega
    have b6 : (64 * i ≤ 64 * i + 64) = True := by simp
    have b7 : 64 * i + 64 - 64 * i = 64 := by omega
    refine AW_seq ?_
    refine AW_regl TB (fun D K hD hK => ?_)
    simp only [AwS, TS, AwD, aval, aIndex, aSlice, aLen, BN, BW, BS, Int.cast_ofNat_Int, spl, splice, bind, ↓reduceIte, simprocAttr, w2, a1, b4, b5, b6, b7, Int.toNat_natCast, implies_true, bws_slice]
    refine hK _ _ ?_
    clear hD hK D K
    refine AL_yield rfl (.inl rfl) rfl rfl (hy i hle) [2, 3] [] [] rfl rfl (by simp) (by simp [H8.cs]) ?_ (hio_of ?_) (by simp) ?_ (fun x io' nb hR _ => ?_)
    · simp [evs, St.ev, cav, alook, lendA, lentBx, lendC, blook, AVs.map, AV.map, ioMap, -List.map_take, -List.map_drop, bws_map]
    · simp [blook, cs_map, AVs.map, AV.map]
    · simp [alook, AV.map, cs_map, wws_map]
    simp only [Out.ret.injEq] at hR
    obtain ⟨rfl, rfl, rfl⟩ := hR
    refine ⟨rfl, by simp, ?_⟩
    simp only [St.behindG]
    refine AL_runR TB _ _ (fun D K hD hK => ?_)
    simp only [AwS, TS, AwD, aval, aIndex, aSlice, aLen, BN, BW, BS, Int.cast_ofNat_Int, spl, splice, bind, ↓reduceIte, simprocAttr, cs_map]
    refine hD _ ?_
    clear hD hK D K
    simp only [seqQ]
    refine AW_false rfl (AW_skip ?_)
    refine hK1 _ ?_
    refine AW_regl TB (fun D K hD hK => ?_)
    simp only [AwS, TS, AwD, aval, aIndex, aSlice, aLen, BN, BW, BS, Int.cast_ofNat_Int, spl, splice, bind, ↓reduceIte, simprocAttr, w2]
    refine hD _ ?_
    clear hD hK D K
    refine ⟨i + 1, [(0, 0), (1, 1), (2, 2), (3, 3)], by omega, by dsimp only; omega, ?_⟩
    refine ⟨rfl, by simp [ck1F, alook, AV.map, AVs.map, hKm, cs_map, bws_map, show (64 * ((i : Int) + 1)) = 64 * (i : Int) + 64 by omega], ⟨rfl, rfl⟩, ?_, ?_, by simp [ck1F], by simp [ck1F, nmap], ?_⟩
    · simp [ck1F, alook, AV.map, AVs.map, nmap, AVs_map_append, ivs_map, yvs_map, hKm, cs_map, bws_map, show (64 * ((i : Int) + 1)) = 64 * (i : Int) + 64 by omega]
    · simp [ck1F, blook, AV.map, AVs.map, nmap, AVs_map_append, ivs_map, yvs_map, hKm, cs_map, bws_map, show (64 * ((i : Int) + 1)) = 64 * (i : Int) + 64 by omega]
    · intro k hk
      have hk2 : k < 4 := hk
      rcases k with _ | _ | _ | _ | k <;> first | rfl | omega
  · have hge : 64 * i = m.length := by
      have : ¬ ((64 * i : Nat) : Int) < (m.length : Int) := by simpa using hi1
      omega
    have hdiv : m.length / 64 = i := by omega
    rw [hdiv]
    simp only [seqQ, loopQ, blockQ, ↓reduceIte, RetX]
    exact retio (.tup []) [[.ds true m.length (m.map bw)], [iv 64], (st i).cs, [fnA]] rfl rfl rfl (fun _ => rfl) rfl (by
      intro cs hcs
      simp only [List.mem_cons, List.not_mem_nil, or_false] at hcs
      rcases hcs with rfl | rfl | rfl | rfl <;> intro f <;> simp [AVs.map, AV.map, bws_map, cs_map]) rfl

end Go.Proofs.YtgbpgplkhifgiaaDoor

/- The walk of Sum. No condition. -/
set_option linter.unusedVariables false
set_option linter.unusedSimpArgs false
set_option maxRecDepth 100000
namespace Go.Proofs.YtgbpgplkhifgiaaDoor
open Go Go.RowKit

section
variable {P : Program} {X : Nat → Prop} {w0 : World} {E0 : Env}

/-- A call that only computes, and reads package variables. -/
theorem AL_callG {ops : Array Oper} {o : Oper} {l : List Oper} {σ : St} {Q : Exit → St → Prop} {f : Operand} {fargs : Array Operand} {fty : Array TypeId} {K : FuncId} {caps : List AV} {gl' : List (Nat × AV)} {args' : List AV} {x : AV}
    (ho : o.op = .call ⟨.value f, fargs, fty⟩) (hgd : o.guard = none) (hd : dstOk σ o.dst = true) (hf : σ.ev f = .clo K caps) (hen : Enters P K) (hspec : Spec P gl' K args' [] (fun out => out = .ret x [] []))
    (lb : List Nat) (hargs : (evs σ fargs.toList ++ caps).map (lendA (lentBx lb σ)) = AVs.map (ioMap σ.nx []) args')
    (hlb : ∀ k ∈ lb, (blook k σ.bx).isSome) (hk : (lb.isEmpty || x.kept) = true) (hx : x.map (gMap σ.nx []) = x) (hgl : ∀ p ∈ gl', alook p.1 σ.gl = p.2.map (ioMap σ.nx []))
    (h : AL P X w0 E0 ops l { σ with nx := σ.nx + 8, tm := tput o.dst x σ.tm } Q) : AL P X w0 E0 ops (o :: l) σ Q := by
  refine AL_call ho hgd hd hf hen hspec [] lb rfl List.nodup_nil (by simp) hargs (by simp) (fun k hk => ⟨hlb k hk, by simp⟩) hgl (fun x2 io2 nb2 hR _ => ?_) (fun v io2 hR _ => by simp at hR)
  simp only [Out.ret.injEq] at hR
  obtain ⟨rfl, rfl, rfl⟩ := hR
  refine ⟨by simpa [keptAll] using hk, by simp, ?_⟩
  rw [hx]
  exact h
end

theorem d_mul_8 (x : UInt64) : binI .mul .u64 8 (x.toNat : Int) = some (.int .u64 ((8 * x).toNat : Int)) := d_mul 8 x

def zB (n : Nat) : List AV := List.replicate n (.val (.int .u8 0))
theorem zB_eq (n : Nat) : List.map AV.val (List.replicate n (.int .u8 0)) = zB n := by simp [zB]
theorem bws_kept (b : List UInt8) : AVs.kept (b.map bw) = true := by
  induction b with
  | nil => rfl
  | cons x b ih => simpa [AVs.kept, AV.kept] using ih
theorem wws_kept (b : List UInt32) : AVs.kept (b.map ww) = true := by
  induction b with
  | nil => rfl
  | cons x b ih => simpa [AVs.kept, AV.kept] using ih

def padC (b : List UInt8) (i : Nat) : List UInt8 := b ++ [128] ++ List.replicate i 0
theorem padC_len (b : List UInt8) (i : Nat) : (padC b i).length = b.length + 1 + i := by simp [padC]; omega
theorem padC_succ (b : List UInt8) (i : Nat) : padC b (i + 1) = padC b i ++ [0] := by simp [padC, List.replicate_succ']

def padF (k : Bool) (b : List UInt8) (i : Nat) : St := { nt := 47, nx := 2, tm := [(3, .sl 1 0 (padC b i).length 1 (some 5)), (2, .ptr 0 0), (0, .ds k b.length (b.map bw))], bx := [(0, some (zB 32)), (1, some ((padC b i).map bw))], gl := glS, df := [] }

def outF (b : List UInt8) (H : H8) (i : Nat) : St := { nt := 47, nx := 2, tm := [(36, iv i), (35, .agg H.cs), (7, .sl 1 0 (outS (H.l.take i)).length 1 (some 5)), (2, .ptr 0 0)], bx := [(0, some (zB 32)), (1, some ((outS (H.l.take i)).map bw))], gl := glS, df := [] }

theorem spl_all {cs vc : List AV} (h : vc.length = cs.length) (h2 : vc.length ≠ 1) : spl cs 0 vc = vc := by
  unfold spl
  split
  · rename_i x; exact absurd rfl h2
  · simp [splice, h]

theorem outS_len (l : List UInt32) : (outS l).length = 4 * l.length := by
  induction l with
  | nil => rfl
  | cons x l ih => simp only [outS, List.flatMap_cons, List.length_append, stB_len, List.length_cons] at ih ⊢; omega

theorem outS_succ (l : List UInt32) (i : Nat) (h : i < l.length) : outS (l.take (i + 1)) = outS (l.take i) ++ stB (l.getD i 0).toUInt64 4 := by
  unfold outS
  rw [List.take_succ_eq_append_getElem h, List.flatMap_append]
  simp [List.getElem?_eq_getElem h]

theorem sum_spec (b : List UInt8) (k : Bool) (hl : b.length ≤ 100000000) : Spec Tryd.prog glS 111 [.ds k b.length (b.map bw)] [] (fun o => o = .ret (.agg ((sum b).map bw)) [] []) := by
  refine spec_of_fn TB 47 [.cell 2 128] Tryd.func111 rfl rfl rfl (Nat.le_of_ble_eq_true rfl) ?_
  intro X w0 E0 hro hE hX
  have hX0 : ∀ g, ¬ X g := fun g hg => by obtain ⟨q, hq, _⟩ := hX g hg; simp at hq
  have hKm : ∀ f : Nat → Nat, AVs.map f (KS.map ww) = KS.map ww := fun f => wws_map f _
  simp only [idx, List.map_nil, List.length_nil]
  refine AW_reg TB (fun D K hD hK => ?_)
  simp only [AwS, TS, AwD, aval, aIndex, aSlice, aLen, BN, BW, BS, Int.cast_ofNat_Int, spl, splice, bind, ↓reduceIte, simprocAttr, zB_eq]
  refine hD _ ?_
  clear hD hK D K
  refine AW_reg TB (fun D K hD hK => ?_)
  simp only [AwS, TS, AwD, aval, aIndex, aSlice, aLen, BN, BW, BS, Int.cast_ofNat_Int, spl, splice, bind, ↓reduceIte, simprocAttr]
  refine hK _ _ ?_
  clear hD hK D K
  refine AL_callD rfl rfl rfl rfl en_128 (clone_spec b k (by omega)) [] [] rfl (by simp) (by simp) ?_ (by simp) (by simp) rfl (by simp) ?_
  · simp [evs, St.ev, cav, alook, lendA, lentBx, lendC, blook, AVs.map, AV.map, ioMap, bws_map]
  have c1 : (b.length + 1 ≤ 4294967296) = True := by simp; omega
  refine AL_runR TB _ _ (fun D K hD hK => ?_)
  simp only [AwS, TS, AwD, aval, aIndex, aSlice, aLen, BN, BW, BS, Int.cast_ofNat_Int, spl, splice, bind, ↓reduceIte, simprocAttr, bws_map, c1]
  refine hD _ ?_
  clear hD hK D K
  refine AW_seqk (fun K0 hK0 => ?_)
  refine AW_block ?_
  refine AW_loop (padF k b) (fun i => i ≤ padN b.length) (fun i => padN b.length - i) hE 0 [(0, 0), (1, 32)] (by omega) ?_ ?_
  · refine ⟨rfl, by simp [padF, alook, AV.map, AVs.map, hKm, cs_map, bws_map, padC, zB, rep_map], ⟨rfl, rfl⟩, ?_, ?_, by simp [padF], by simp [padF, nmap], ?_⟩
    · simp [padF, alook, AV.map, AVs.map, nmap, AVs_map_append, ivs_map, yvs_map, hKm, cs_map, bws_map, padC, zB, rep_map]
    · simp [padF, blook, AV.map, AVs.map, nmap, AVs_map_append, ivs_map, yvs_map, hKm, cs_map, bws_map, padC, zB, rep_map]
    · intro k hk
      have hk2 : k < 0 := hk
      omega
  intro i hi
  simp only [padF]
  have hcl := padC_len b i
  generalize hc : padC b i = c at hcl
  have hcm : (c.length : Int).tmod 64 = ((c.length % 64 : Nat) : Int) := rfl
  refine AW_seq ?_
  refine AW_reg TB (fun D K hD hK => ?_)
  simp only [AwS, TS, AwD, aval, aIndex, aSlice, aLen, BN, BW, BS, Int.cast_ofNat_Int, spl, splice, bind, ↓reduceIte, simprocAttr, hcm]
  refine hD _ ?_
  clear hD hK D K
  refine AW_cond rfl (fun hi1 => AW_skip ?_) (fun hi1 => AW_exit ?_)
  · have hne : c.length % 64 ≠ 56 := by
      intro h56
      rw [h56] at hi1
      simp at hi1
    have hlt : i < padN b.length := by
      rcases Nat.lt_or_ge i (padN b.length) with h1 | h1
      · exact h1
      · exfalso
        have : i = padN b.length := by omega
        apply hne
        rw [hcl, this]
        simp only [padN]
        omega
    have hp : padN b.length < 64 := by simp only [padN]; omega
    simp only [seqQ]
    refine AW_block ?_
    have c2 : (c.length + 1 ≤ 4294967296) = True := by simp; omega
    refine AW_regl TB (fun D K hD hK => ?_)
    simp only [AwS, TS, AwD, aval, aIndex, aSlice, aLen, BN, BW, BS, Int.cast_ofNat_Int, spl, splice, bind, ↓reduceIte, simprocAttr, c2]
    refine hD _ ?_
    clear hD hK D K
    refine ⟨i + 1, [(0, 0), (1, 50)], by omega, by dsimp only; omega, ?_⟩
    refine ⟨rfl, by simp [padF, alook, AV.map, AVs.map, hKm, cs_map, bws_map, zB, rep_map, padC_succ, hc], ⟨rfl, rfl⟩, ?_, ?_, by simp [padF], by simp [padF, nmap], ?_⟩
    · simp [padF, alook, AV.map, AVs.map, nmap, AVs_map_append, ivs_map, yvs_map, hKm, cs_map, bws_map, zB, rep_map, padC_succ, hc]
    · simp [padF, blook, AV.map, AVs.map, nmap, AVs_map_append, ivs_map, yvs_map, hKm, cs_map, bws_map, zB, rep_map, padC_succ, hc]
    · intro k hk
      have hk2 : k < 0 := hk
      omega
  · have heq : c.length % 64 = 56 := by
      have h1 : ¬ (¬ ((c.length % 64 : Nat) : Int) = 56) := by simpa using hi1
      omega
    have hi2 : i = padN b.length := by
      simp only [padN] at hi ⊢
      omega
    have hm : padS b = c ++ stB (8 * wordOf b.length) 8 := by
      rw [← hc, hi2]
      rfl
    have hp : padN b.length < 64 := by simp only [padN]; omega
    refine hK0 _ ?_
    refine AW_reg TB (fun D K hD hK => ?_)
    simp only [AwS, TS, AwD, aval, aIndex, aSlice, aLen, BN, BW, BS, Int.cast_ofNat_Int, spl, splice, bind, ↓reduceIte, simprocAttr, c_i_64, d_mul_8]
    refine hK _ _ ?_
    clear hD hK D K
    have st := store_spec c (8 * wordOf b.length) 8 (by omega) (by omega)
    rw [← hm] at st
    have hml : (padS b).length = c.length + 8 := by rw [hm]; simp [stB_len]
    have hm64 := padS_len b
    obtain ⟨m, hmS⟩ : ∃ m, m = padS b := ⟨_, rfl⟩
    rw [← hmS] at st hml hm64 hm
    refine AL_callV rfl (.inl rfl) rfl rfl en_129 st [] [1] [] rfl rfl (by simp) (by simp) ?_ (hio_of ?_) (by simp) (by simp) (fun x io' nb hR _ => ?_)
    · simp [evs, St.ev, cav, alook, lendA, lentBx, lendC, blook, AVs.map, AV.map, ioMap]
    · simp [blook, bws_map]
    simp only [Out.ret.injEq] at hR
    obtain ⟨rfl, rfl, rfl⟩ := hR
    refine ⟨rfl, by simp, ?_⟩
    simp only [St.behindG]
    refine AL_runR TB _ _ (fun D K hD hK => ?_)
    simp only [AwS, TS, AwD, aval, aIndex, aSlice, aLen, BN, BW, BS, Int.cast_ofNat_Int, spl, splice, bind, ↓reduceIte, simprocAttr, bws_map]
    refine hD _ ?_
    clear hD hK D K
    refine AW_reg TB (fun D K hD hK => ?_)
    simp only [AwS, TS, AwD, aval, aIndex, aSlice, aLen, BN, BW, BS, Int.cast_ofNat_Int, spl, splice, bind, ↓reduceIte, simprocAttr, H8.cs]
    refine hD _ ?_
    clear hD hK D K
    have fz : ∀ (k : Nat) (cs : List AV) (l : List UInt8), frzs k cs (l.map bw) = l.map bw := by
      intro k cs l
      induction l with
      | nil => rfl
      | cons x l ih => simp only [List.map_cons, frzs, frz, ih]
    have t1 : List.take m.length (m.map bw) = m.map bw := bws_take m
    refine AW_keep [2, 3, 4, 5] ?_
    refine AW_freeze 74 hX0 rfl ?_
    simp only [St.freeze, frz, frzs, fz, List.filter_cons, List.filter_nil, AwS, TS, AwD, aval, aIndex, aSlice, aLen, BN, BW, BS, Int.cast_ofNat_Int, spl, splice, bind, ↓reduceIte, simprocAttr, t1, bws_map]
    refine AW_seqk (fun K1 hK1 => ?_)
    refine AW_reg TB (fun D K hD hK => ?_)
    simp only [AwS, TS, AwD, aval, aIndex, aSlice, aLen, BN, BW, BS, Int.cast_ofNat_Int, spl, splice, bind, ↓reduceIte, simprocAttr, t1]
    refine hK _ _ ?_
    clear hD hK D K
    refine AL_callD rfl rfl rfl rfl en_131 (chunk_spec m) [] [] rfl (by simp) (by simp) ?_ (by simp) (by simp) rfl (by simp) ?_
    · simp [evs, St.ev, cav, alook, lendA, lentBx, lendC, blook, AVs.map, AV.map, ioMap, bws_map]
    refine AL_runR TB _ _ (fun D K hD hK => ?_)
    simp only [AwS, TS, AwD, aval, aIndex, aSlice, aLen, BN, BW, BS, Int.cast_ofNat_Int, spl, splice, bind, ↓reduceIte, simprocAttr, bws_map]
    refine hD _ ?_
    clear hD hK D K
    refine AW_block ?_
    refine AW_rangeFunc1 hro rfl en_149 rfl rfl (chunk1_spec m hm64 (by omega) ⟨30, 47, _, _, [4, 5]⟩ (fun i => foldC HS m i) ?_) [138, 139, 98, 106] [] [] rfl rfl (by simp) (by simp [foldC, H8.cs]) rfl rfl (hio_of ?_) (by simp) ?_ (fun x io' nb hR _ => ?_)
    · intro i hle
      refine spec_yield TB (show 30 < 47 by omega) (by simp [AV.kept, bws_kept, -List.map_take, -List.map_drop]) rfl (by simp [AV.kept, wws_kept, show AVs.kept HS.cs = true from rfl]) (by simp [AV.kept, AVs.kept, H8.cs]) ?_
      intro X w0 E0 hE
      simp only [roundSt, zipT, idx, List.append_nil, List.map_cons, List.map_nil, List.length_cons, List.length_nil]
      refine AW_regl TB (fun D K hD hK => ?_)
      simp only [AwS, TS, AwD, aval, aIndex, aSlice, aLen, BN, BW, BS, Int.cast_ofNat_Int, spl, splice, bind, ↓reduceIte, simprocAttr]
      refine hD _ ?_
      clear hD hK D K
      refine ⟨rfl, fun w0 => ?_⟩
      refine AW_block ?_
      generalize hh : foldC HS m i = h
      have hb : ((m.drop (64 * i)).take 64).length = 64 := by simp; omega
      simp only [H8.cs]
      refine AW_regl TB (fun D K hD hK => ?_)
      simp only [AwS, TS, AwD, aval, aIndex, aSlice, aLen, BN, BW, BS, Int.cast_ofNat_Int, spl, splice, bind, ↓reduceIte, simprocAttr]
      refine hK _ _ ?_
      clear hD hK D K
      refine AL_callG rfl rfl rfl rfl en_130 (compress_spec h ((m.drop (64 * i)).take 64) true hb) [] ?_ (by simp) rfl rfl (by simp [alook, AV.map, wws_map]) ?_
      · simp [evs, St.ev, cav, alook, lendA, lentBx, lendC, blook, AVs.map, AV.map, ioMap, -List.map_take, -List.map_drop, bws_map, H8.cs]
      refine AL_runR TB _ _ (fun D K hD hK => ?_)
      simp only [AwS, TS, AwD, aval, aIndex, aSlice, aLen, BN, BW, BS, Int.cast_ofNat_Int, spl, splice, bind, ↓reduceIte, simprocAttr, H8.cs]
      refine hD _ ?_
      clear hD hK D K
      simp only [blockQ, RoundQ]
      refine ⟨[(foldC HS m (i + 1)).cs, [fnA]], [], [(0, 0), (1, 1)], rfl, ?_, rfl⟩
      refine ⟨rfl, by simp [leftSt], ⟨rfl, rfl⟩, by simp [leftSt], ?_, by simp [leftSt], by simp [leftSt, idx, nmap], ?_⟩
      · simp [leftSt, idx, blook, nmap, AVs.map, AV.map, foldC, hh, H8.cs]
      · intro k hk
        have hk2 : k < 2 := hk
        rcases k with _ | _ | k <;> first | rfl | omega
    · simp [blook, bws_map, AVs.map, AV.map, cs_map, foldC, H8.cs]
    · simp [alook, AV.map, cs_map, wws_map]
    simp only [Out.ret.injEq] at hR
    obtain ⟨rfl, rfl, rfl⟩ := hR
    refine ⟨by simp [keptAll, AV.kept, AVs.kept, bws_kept, show ∀ h : H8, AVs.kept h.cs = true from fun h => rfl], by simp, ?_⟩
    simp only [blockQ, kQ]
    refine hK1 _ ?_
    generalize hH : foldC HS m (m.length / 64) = H
    have hsum : sum b = outS H.l := by simp only [sum, sumH, ← hmS, hH]
    simp only [St.behindG, zipIo, newIo, cs_map, List.map_nil, List.nil_append, AVs.map, AV.map, bws_map]
    refine AW_reg TB (fun D K hD hK => ?_)
    simp only [AwS, TS, AwD, aval, aIndex, aSlice, aLen, BN, BW, BS, Int.cast_ofNat_Int, spl, splice, bind, ↓reduceIte, simprocAttr]
    refine hD _ ?_
    clear hD hK D K
    refine AW_seqk (fun K2 hK2 => ?_)
    refine AW_reg TB (fun D K hD hK => ?_)
    simp only [AwS, TS, AwD, aval, aIndex, aSlice, aLen, BN, BW, BS, Int.cast_ofNat_Int, spl, splice, bind, ↓reduceIte, simprocAttr, H8.cs]
    refine hD _ ?_
    clear hD hK D K
    refine AW_block ?_
    have hHl : H.l.length = 8 := rfl
    refine AW_loop (outF b H) (fun i => i ≤ 8) (fun i => 8 - i) hE 0 [(0, 0), (1, 154)] (by omega) ?_ ?_
    · refine ⟨rfl, by simp [outF, alook, AV.map, AVs.map, hKm, cs_map, bws_map, zB, rep_map, outS, H8.cs, frzs, frz], ⟨rfl, rfl⟩, ?_, ?_, by simp [outF], by simp [outF, nmap], ?_⟩
      · simp [outF, alook, AV.map, AVs.map, nmap, AVs_map_append, ivs_map, yvs_map, hKm, cs_map, bws_map, zB, rep_map, outS, H8.cs, frzs, frz]
      · simp [outF, blook, AV.map, AVs.map, nmap, AVs_map_append, ivs_map, yvs_map, hKm, cs_map, bws_map, zB, rep_map, outS, H8.cs, frzs, frz]
      · intro k hk
        have hk2 : k < 0 := hk
        omega
    intro i hi
    simp only [outF]
    have ho1 := outS_len (H.l.take i)
    have ho2 : (H.l.take i).length = i := by simp; omega
    rw [ho2] at ho1
    refine AW_reg TB (fun D K hD hK => ?_)
    simp only [AwS, TS, AwD, aval, aIndex, aSlice, aLen, BN, BW, BS, Int.cast_ofNat_Int, spl, splice, bind, ↓reduceIte, simprocAttr]
    refine hD _ ?_
    clear hD hK D K
    refine AW_seq (AW_cond rfl (fun hi1 => AW_skip ?_) (fun hi1 => AW_exit ?_))
    · have hlt : i < 8 := by
        have : (i : Int) < 8 := by simpa using hi1
        omega
      have hs := outS_succ H.l i (by omega)
      have w1 : IntKind.i64.wrap ((i : Int) + 1) = (i : Int) + 1 := wrap_i64 (by omega) (by omega)
      have d1 : (0 ≤ (i : Int) ∧ (i : Int) < 8) = True := by simp; omega
      have g2 : H.cs[i]? = some (ww (H.l.getD i 0)) := wget H.l i (by omega)
      generalize hc2 : outS (H.l.take i) = c2 at ho1 hs
      refine AW_seqk (fun K3 hK3 => ?_)
      refine AW_block ?_
      refine AW_reg TB (fun D K hD hK => ?_)
      simp only [AwS, TS, AwD, aval, aIndex, aSlice, aLen, BN, BW, BS, Int.cast_ofNat_Int, spl, splice, bind, ↓reduceIte, simprocAttr, d1, g2, Int.toNat_natCast]
      refine hD _ ?_
      clear hD hK D K
      refine AW_regl TB (fun D K hD hK => ?_)
      simp only [AwS, TS, AwD, aval, aIndex, aSlice, aLen, BN, BW, BS, Int.cast_ofNat_Int, spl, splice, bind, ↓reduceIte, simprocAttr, c_32_64]
      refine hK _ _ ?_
      clear hD hK D K
      refine AL_callV rfl (.inl rfl) rfl rfl en_129 (store_spec c2 (H.l.getD i 0).toUInt64 4 (by omega) (by omega)) [] [1] [] rfl rfl (by simp) (by simp) ?_ (hio_of ?_) (by simp) (by simp) (fun x io' nb hR _ => ?_)
      · simp [evs, St.ev, cav, alook, lendA, lentBx, lendC, blook, AVs.map, AV.map, ioMap]
      · simp [blook, bws_map]
      simp only [Out.ret.injEq] at hR
      obtain ⟨rfl, rfl, rfl⟩ := hR
      refine ⟨rfl, by simp, ?_⟩
      simp only [St.behindG]
      rw [← hs]
      refine AL_runR TB _ _ (fun D K hD hK => ?_)
      simp only [AwS, TS, AwD, aval, aIndex, aSlice, aLen, BN, BW, BS, Int.cast_ofNat_Int, spl, splice, bind, ↓reduceIte, simprocAttr, bws_map]
      refine hD _ ?_
      clear hD hK D K
      refine hK3 _ ?_
      refine AW_regl TB (fun D K hD hK => ?_)
      simp only [AwS, TS, AwD, aval, aIndex, aSlice, aLen, BN, BW, BS, Int.cast_ofNat_Int, spl, splice, bind, ↓reduceIte, simprocAttr, w1]
      refine hD _ ?_
      clear hD hK D K
      refine ⟨i + 1, [(0, 0), (1, 50)], by omega, by dsimp only; omega, ?_⟩
      refine ⟨rfl, by simp [outF, alook, AV.map, AVs.map, hKm, cs_map, bws_map, zB, rep_map], ⟨rfl, rfl⟩, ?_, ?_, by simp [outF], by simp [outF, nmap], ?_⟩
      · simp [outF, alook, AV.map, AVs.map, nmap, AVs_map_append, ivs_map, yvs_map, hKm, cs_map, bws_map, zB, rep_map]
      · simp [outF, blook, AV.map, AVs.map, nmap, AVs_map_append, ivs_map, yvs_map, hKm, cs_map, bws_map, zB, rep_map]
      · intro k hk
        have hk2 : k < 0 := hk
        omega
    · have hge : i = 8 := by
        have : ¬ (i : Int) < 8 := by simpa using hi1
        omega
      subst hge
      refine hK2 _ ?_
      have h8 : outS (H.l.take 8) = sum b := by rw [hsum]; rfl
      have hsl := sum_len b
      rw [h8]
      generalize sum b = q at hsl
      have hz : (zB 32).length = 32 := by simp [zB]
      have q1 : spl (zB 32) 0 (q.map bw) = q.map bw := spl_all (by simp [hsl, hz]) (by simp [hsl])
      have q2 : List.take 32 (q.map bw) = q.map bw := List.take_of_length_le (by simp [hsl])
      have q3 : (q.map bw).length = 32 := by simp [hsl]
      refine AW_reg TB (fun D K hD hK => ?_)
      simp only [AwS, TS, AwD, aval, aIndex, aSlice, aLen, BN, BW, BS, Int.cast_ofNat_Int, spl, splice, bind, ↓reduceIte, simprocAttr, hsl, q1, q2, q3, hz, bws_cell, -spl]
      refine hD _ ?_
      clear hD hK D K
      refine AW_ret ?_
      simp only [Ret]
      refine retp (.agg (q.map bw)) rfl ?_ (by simp only [AV.map, bws_map]) rfl
      simp [resOf, resAll, resAV, alook, blook, AV.known, loadC, AwS, TS, TD.isAgg, q2, q3]

end Go.Proofs.YtgbpgplkhifgiaaDoor
