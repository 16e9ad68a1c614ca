/- Bytes of a number, as plain Lean: what codec.seven and the reference's Bytes compute. -/
import Derived.Test.YtpgcbdopnkbmhaaDoorA2
namespace Go.Proofs.YtpgcbdopnkbmhaaDoor.Cn
open Go.RowKit Go.Proofs.YtpgcbdopnkbmhaaDoorW.PrintWords Go.Proofs.YtpgcbdopnkbmhaaDoorW.PrintLast Go.Proofs.YtpgcbdopnkbmhaaDoorW.PrintMore
open Go.Proofs.YtpgcbdopnkbmhaaDoor.A
/-- the bytes of a number, seven bits each, the lowest first; 'f' bytes more at most -/
def enc : Nat → Int → List Int
  | 0, n => [n]
  | f + 1, n => if n > 127 then (n % 128 + 128) :: enc f (n / 128) else [n]
theorem enc_len : ∀ f n, (enc f n).length ≤ f + 1
  | 0, _ => by simp [enc]
  | f + 1, n => by
    unfold enc; split
    · have := enc_len f (n / 128); simp; omega
    · simp
theorem or128_fin : ∀ x : Fin 256, Go.bits .or .u8 (x.val : Int) 128 = (x.val : Int) % 128 + 128 := by decide +kernel
theorem or128 (x : Int) : Go.bits .or .u8 (x % 256) 128 = x % 128 + 128 := by
  have h := or128_fin ⟨(x % 256).toNat, by omega⟩
  simp only at h
  rw [Int.toNat_of_nonneg (by omega)] at h
  rw [h]; omega
theorem tdiv128 (x : Int) (h : 0 ≤ x) (h2 : x < 9223372036854775808) : wrap64 (Int.tdiv x 128) = x / 128 := by
  rw [Int.tdiv_eq_ediv_of_nonneg h]; unfold wrap64; omega
theorem tmod128 (x : Int) (h : 0 ≤ x) : (wrap64 ((Int.tmod x 128) + 128)) % 256 = x % 128 + 128 := by
  rw [Int.tmod_eq_emod_of_nonneg h]; unfold wrap64; omega
theorem pow_step (x : Int) (f : Nat) (h : x < 128 ^ (f + 1 + 1)) : x / 128 < 128 ^ (f + 1) := by
  rw [Int.pow_succ] at h; omega
theorem seven_int (f : Nat) : ∀ k x acc, 0 ≤ x → x < 128 ^ (f + 1) → f < k → acc.length + f < 140737488355328 → codec_seven_int.l0 k x acc = some (acc ++ enc f x) := by
  induction f with
  | zero =>
    intro k x acc h0 h1 hk hl
    obtain ⟨k, rfl⟩ : ∃ m, k = m + 1 := ⟨k - 1, by omega⟩
    simp only [codec_seven_int.l0]
    rw [if_neg (by omega), if_pos (by omega), show x % 256 = x by omega]; rfl
  | succ f ih =>
    intro k x acc h0 h1 hk hl
    obtain ⟨k, rfl⟩ : ∃ m, k = m + 1 := ⟨k - 1, by omega⟩
    simp only [codec_seven_int.l0]
    by_cases hx : x > 127
    · rw [if_pos hx, if_pos (by omega), ih k _ _ (by omega) (pow_step x f h1) (by omega) (by simp; omega), or128]
      simp [enc, hx]
    · rw [if_neg hx, if_pos (by omega), show x % 256 = x by omega]; simp [enc, hx]
theorem seven_uint (f : Nat) : ∀ k x acc, 0 ≤ x → x < 128 ^ (f + 1) → f < k → acc.length + f < 140737488355328 → codec_seven_uint64.l0 k x acc = some (acc ++ enc f x) := by
  induction f with
  | zero =>
    intro k x acc h0 h1 hk hl
    obtain ⟨k, rfl⟩ : ∃ m, k = m + 1 := ⟨k - 1, by omega⟩
    simp only [codec_seven_uint64.l0]
    rw [if_neg (by omega), if_pos (by omega), show x % 256 = x by omega]; rfl
  | succ f ih =>
    intro k x acc h0 h1 hk hl
    obtain ⟨k, rfl⟩ : ∃ m, k = m + 1 := ⟨k - 1, by omega⟩
    simp only [codec_seven_uint64.l0]
    by_cases hx : x > 127
    · rw [if_pos hx, if_pos (by omega), ih k _ _ (by omega) (pow_step x f h1) (by omega) (by simp; omega), or128]
      simp [enc, hx]
    · rw [if_neg hx, if_pos (by omega), show x % 256 = x by omega]; simp [enc, hx]
theorem ref_bytes (f : Nat) : ∀ k x acc, 0 ≤ x → x < 9223372036854775808 → x < 128 ^ (f + 1) → f < k → acc.length + f < 140737488355328 → icehouseref01_Bytes.l0 k x acc = some (acc ++ enc f x) := by
  induction f with
  | zero =>
    intro k x acc h0 hm h1 hk hl
    obtain ⟨k, rfl⟩ : ∃ m, k = m + 1 := ⟨k - 1, by omega⟩
    simp only [icehouseref01_Bytes.l0]
    rw [if_neg (by omega), if_pos (by omega), show x % 256 = x by omega]; rfl
  | succ f ih =>
    intro k x acc h0 hm h1 hk hl
    obtain ⟨k, rfl⟩ : ∃ m, k = m + 1 := ⟨k - 1, by omega⟩
    simp only [icehouseref01_Bytes.l0]
    by_cases hx : x > 127
    · rw [if_pos hx, if_pos (by omega), tdiv128 x h0 hm, ih k _ _ (by omega) (by omega) (pow_step x f h1) (by omega) (by simp; omega), tmod128 x h0]
      simp [enc, hx]
    · rw [if_neg hx, if_pos (by omega), show x % 256 = x by omega]; simp [enc, hx]
/-- the number that a signed one is written as -/
def zig (n : Int) : Int := if n < 0 then -2 * n - 1 else 2 * n
/-- what Number answers -/
def numB (n : Int) : List Int × Int := if 0 ≤ n ∧ n < 72057594037927936 then (enc 7 n, 0) else ([], 11)
/-- what Signed answers -/
def sigB (n : Int) : List Int × Int := if -36028797018963968 ≤ n ∧ n < 36028797018963968 then (enc 7 (zig n), 0) else ([], 11)
theorem number_is (n : Int) : codec_Number.f 8 n = some (numB n) := by
  unfold codec_Number.f numB codec_seven_int.f
  by_cases h : n < 0
  · rw [if_pos h, if_neg (by omega)]
  · by_cases h2 : n ≥ 72057594037927936
    · rw [if_neg h, if_pos h2, if_neg (by omega)]
    · rw [if_neg h, if_neg h2, if_pos (by omega), seven_int 7 8 n [] (by omega) (by omega) (by omega) (by simp)]; rfl
theorem wrap_u64 (n : Int) : IntKind.u64.wrap n = n % 18446744073709551616 := by simp [IntKind.wrap, IntKind.bits, IntKind.signed]
theorem xor_zero (a : Int) (h0 : 0 ≤ a) (h1 : a < 18446744073709551616) : Go.bits .xor .u64 a 0 = a := by
  simp only [Go.bits]
  rw [show (BitVec.ofInt IntKind.u64.bits 0) = 0#_ from rfl, BitVec.xor_zero, wrap_u64]
  simp [IntKind.bits, BitVec.toNat_ofInt]
  omega
theorem xor_ones (a : Int) (h0 : 0 ≤ a) (h1 : a < 18446744073709551616) : Go.bits .xor .u64 a 18446744073709551615 = 18446744073709551615 - a := by
  simp only [Go.bits]
  rw [show (BitVec.ofInt IntKind.u64.bits 18446744073709551615) = BitVec.allOnes _ from by decide +kernel, BitVec.xor_allOnes, wrap_u64]
  rw [BitVec.toNat_not, BitVec.toNat_ofInt]
  simp [IntKind.bits]
  omega
theorem zig_is (n : Int) (h : -36028797018963968 ≤ n) (h2 : n < 36028797018963968) :
    Go.bits .xor .u64 (IntKind.u64.wrap ((IntKind.u64.wrap n) * 2)) (IntKind.u64.wrap (n / 9223372036854775808)) = zig n := by
  unfold zig
  rw [wrap_u64, wrap_u64, wrap_u64]
  by_cases hn : n < 0
  · rw [if_pos hn, show n / 9223372036854775808 % 18446744073709551616 = 18446744073709551615 by omega, xor_ones _ (by omega) (by omega)]; omega
  · rw [if_neg hn, show n / 9223372036854775808 % 18446744073709551616 = 0 by omega, xor_zero _ (by omega) (by omega)]; omega
theorem zig_bd (n : Int) (h : -36028797018963968 ≤ n) (h2 : n < 36028797018963968) : 0 ≤ zig n ∧ zig n < 72057594037927936 := by
  unfold zig; split <;> omega
theorem signed_is (n : Int) : codec_Signed.f 8 n = some (sigB n) := by
  unfold codec_Signed.f sigB codec_seven_uint64.f
  by_cases h : n < -36028797018963968
  · rw [if_pos h, if_neg (by omega)]
  · by_cases h2 : n ≥ 36028797018963968
    · rw [if_neg h, if_pos h2, if_neg (by omega)]
    · have hz := zig_bd n (by omega) (by omega)
      rw [if_neg h, if_neg h2, if_pos (by omega), zig_is n (by omega) (by omega), seven_uint 7 8 _ [] (by omega) (by omega) (by omega) (by simp)]; rfl
end Go.Proofs.YtpgcbdopnkbmhaaDoor.Cn
