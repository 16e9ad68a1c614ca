/- A number read from bytes, as plain Lean: what codec's inner 'number' computes, and that a written number is read as it was. -/
import Derived.Test.YtpgcbdopnkbmhaaDoorCn
namespace Go.Proofs.YtpgcbdopnkbmhaaDoor.Dn
set_option linter.unusedVariables false
open Go.RowKit Go.Proofs.YtpgcbdopnkbmhaaDoorW.PrintWords Go.Proofs.YtpgcbdopnkbmhaaDoorW.PrintLast Go.Proofs.YtpgcbdopnkbmhaaDoorW.PrintMore
open Go.Proofs.YtpgcbdopnkbmhaaDoor.A Go.Proofs.YtpgcbdopnkbmhaaDoor.Cn
/-- the number at the head of a row of bytes: it, its length, an error; 'i' bytes were read, they made 'acc' -/
def dn : Nat → List Int → Int → Nat → Int × Int × Int
  | 0, _, _, _ => (0, 0, 21)
  | _ + 1, [], _, _ => (0, 0, 20)
  | f + 1, c :: r, acc, i =>
    if c < 128 then (if 0 < i ∧ c = 0 then (0, 0, 21) else (acc + c * 128 ^ i, i + 1, 0))
    else dn f r (acc + (c % 128) * 128 ^ i) (i + 1)
/-- bytes -/
def Byts (xs : List Int) : Prop := ∀ c ∈ xs, 0 ≤ c ∧ c < 256
theorem and127_fin : ∀ x : Fin 256, Go.bits .and .u8 (x.val : Int) 127 = (x.val : Int) % 128 := by decide +kernel
theorem and127 (x : Int) (h0 : 0 ≤ x) (h1 : x < 256) : Go.bits .and .u8 x 127 = x % 128 := by
  have h := and127_fin ⟨x.toNat, by omega⟩
  simp only at h
  rw [Int.toNat_of_nonneg (by omega)] at h
  exact h
theorem i64_bits_or (x y : Int) (i : Nat) (hx : 0 ≤ x) (hx1 : x < 2 ^ i) (hy : 0 ≤ y) (hy1 : y % 2 ^ i = 0) (hy2 : y < 2 ^ 62) (hi : i ≤ 62) (hx2 : x < 2 ^ 62) : Go.bits .or .i64 x y = x + y := by
  have hc : Go.bits .or .i64 x y = Go.bits .or .i64 y x := by
    simp only [Go.bits]
    rw [BitVec.or_comm]
  rw [hc, bits_join .i64 62 (by decide) (fun n h0 h1 => by simp [IntKind.wrap, IntKind.bits, IntKind.signed]; omega) i y x hy hy1 hy2 hx hx1 hx2]
  omega
theorem step_val (acc c : Int) (i : Nat) (hi : i < 8) (h0 : 0 ≤ acc) (h1 : acc < 128 ^ i) (hc : 0 ≤ c) (hc1 : c < 256) :
    Go.bits .or .i64 acc (shl .i64 (wrap64 (Go.bits .and .u8 c 127)) (wrap64 (7 * (i : Int)))) = acc + (c % 128) * 128 ^ i := by
  rw [and127 c hc hc1]
  have hw : wrap64 (c % 128) = c % 128 := by unfold wrap64; omega
  have hw7 : wrap64 (7 * (i : Int)) = 7 * (i : Int) := by unfold wrap64; omega
  rw [hw, hw7]
  have hs : shl .i64 (c % 128) (7 * (i : Int)) = (c % 128) * 128 ^ i := by
    unfold shl
    have ht : min (7 * (i : Int)).toNat IntKind.i64.bits = 7 * i := by simp only [IntKind.bits]; omega
    rw [ht, show (2 : Int) ^ (7 * i) = 128 ^ i from by rw [Int.pow_mul]; rfl]
    have hcases : i = 0 ∨ i = 1 ∨ i = 2 ∨ i = 3 ∨ i = 4 ∨ i = 5 ∨ i = 6 ∨ i = 7 := by omega
    rcases hcases with rfl | rfl | rfl | rfl | rfl | rfl | rfl | rfl <;> simp [IntKind.wrap, IntKind.bits, IntKind.signed] <;> omega
  rw [hs]
  refine i64_bits_or acc _ (7 * i) h0 (by rw [Int.pow_mul]; exact h1) ?_ ?_ ?_ (by omega) ?_
  all_goals have hcases : i = 0 ∨ i = 1 ∨ i = 2 ∨ i = 3 ∨ i = 4 ∨ i = 5 ∨ i = 6 ∨ i = 7 := by omega
  all_goals rcases hcases with rfl | rfl | rfl | rfl | rfl | rfl | rfl | rfl <;> simp at h1 ⊢ <;> omega
theorem number_dn (xs : List Int) (hb : Byts xs) : ∀ f k acc (i : Nat), f + i = 8 → f < k → i ≤ xs.length → 0 ≤ acc → acc < 128 ^ i → codec_number.l0 k xs acc i = some (dn f (xs.drop i) acc i) := by
  intro f
  induction f with
  | zero =>
    intro k acc i hf hk hl h0 h1
    obtain ⟨k, rfl⟩ : ∃ m, k = m + 1 := ⟨k - 1, by omega⟩
    simp only [codec_number.l0, dn]
    rw [if_neg (by omega)]
  | succ f ih =>
    intro k acc i hf hk hl h0 h1
    obtain ⟨k, rfl⟩ : ∃ m, k = m + 1 := ⟨k - 1, by omega⟩
    simp only [codec_number.l0]
    rw [if_pos (by omega)]
    by_cases hlt : i < xs.length
    · have hd : xs.drop i = xs[i] :: xs.drop (i + 1) := List.drop_eq_getElem_cons hlt
      have hr : rd xs (i : Int) = xs[i] := by simp [rd, hlt]
      have hbi := hb xs[i] (List.getElem_mem hlt)
      have hw7 : wrap64 (7 * (i : Int)) = 7 * (i : Int) := by unfold wrap64; omega
      have hw1 : wrap64 ((i : Int) + 1) = ((i + 1 : Nat) : Int) := by unfold wrap64; omega
      rw [if_neg (by omega), if_pos (by omega), if_pos (by omega), if_pos (by rw [hw7]; omega), hr, step_val acc xs[i] i (by omega) h0 h1 hbi.1 hbi.2, hd, hw1]
      simp only [dn]
      by_cases hc : xs[i] < 128
      · rw [if_pos hc, if_pos hc]
        have hm : xs[i] % 128 = xs[i] := by omega
        rw [hm]
        by_cases hi : i = 0
        · subst hi
          rw [if_neg (by omega), if_neg (by omega)]; rfl
        · rw [if_pos (by omega)]
          by_cases hz : xs[i] = 0
          · rw [if_pos hz, if_pos ⟨by omega, hz⟩]
          · rw [if_neg hz, if_neg (by omega)]; rfl
      · rw [if_neg hc, if_neg hc]
        refine ih k _ (i + 1) (by omega) (by omega) (by omega) ?_ ?_
        · have : (0 : Int) ≤ (xs[i] % 128) * 128 ^ i := Int.mul_nonneg (by omega) (Int.pow_nonneg (by decide))
          omega
        · have hp : (0 : Int) < 128 ^ i := Int.pow_pos (by decide)
          have hm : (xs[i] % 128) * 128 ^ i ≤ 127 * 128 ^ i := Int.mul_le_mul_of_nonneg_right (by omega) (by omega)
          rw [Int.pow_succ]
          omega
    · have hd : xs.drop i = [] := List.drop_eq_nil_of_le (by omega)
      rw [if_pos (by omega), hd]; rfl
/-- what codec's inner 'number' answers -/
theorem number_is' (xs : List Int) (hb : Byts xs) : codec_number.f 9 xs = some (dn 8 xs 0 0) := by
  have h := number_dn xs hb 8 9 0 0 (by omega) (by omega) (by omega) (by omega) (by decide)
  exact h
theorem enc_byts : ∀ f n, 0 ≤ n → n < 128 ^ (f + 1) → Byts (enc f n)
  | 0, n => fun h0 h1 c hc => by simp [enc] at hc; subst hc; simp at h1; omega
  | f + 1, n => fun h0 h1 c hc => by
    unfold enc at hc
    split at hc
    · rcases List.mem_cons.1 hc with rfl | hc
      · omega
      · exact enc_byts f (n / 128) (by omega) (pow_step n f h1) c hc
    · simp at hc; subst hc; omega
theorem enc_pos (f : Nat) (n : Int) : 0 < (enc f n).length := by
  cases f with
  | zero => simp [enc]
  | succ f => unfold enc; split <;> simp
/-- a number that was written is read as it was -/
theorem dn_enc : ∀ f m rest acc (i e : Nat), 0 ≤ m → m < 128 ^ (f + 1) → (i = 0 ∨ 0 < m) → dn (f + 1 + e) (enc f m ++ rest) acc i = (acc + m * 128 ^ i, (i : Int) + (enc f m).length, 0) := by
  intro f
  induction f with
  | zero =>
    intro m rest acc i e h0 h1 hi
    rw [show 0 + 1 + e = e + 1 from by omega]
    simp at h1
    simp only [enc, List.cons_append, List.nil_append, dn]
    rw [if_pos (by omega), if_neg (by omega)]
    simp
  | succ f ih =>
    intro m rest acc i e h0 h1 hi
    rw [show f + 1 + 1 + e = (f + 1 + e) + 1 from by omega]
    unfold enc
    by_cases hm : m > 127
    · rw [if_pos hm]
      simp only [List.cons_append, dn]
      rw [if_neg (by omega), ih (m / 128) rest _ (i + 1) e (by omega) (pow_step m f h1) (.inr (by omega))]
      have hx : (m % 128 + 128) % 128 = m % 128 := by omega
      rw [hx]
      have hp : acc + m % 128 * 128 ^ i + m / 128 * 128 ^ (i + 1) = acc + m * 128 ^ i := by
        have : m = m % 128 + 128 * (m / 128) := by omega
        rw [Int.pow_succ]
        conv => rhs; rw [this]
        rw [Int.add_mul, Int.mul_comm (128 ^ i) 128, ← Int.mul_assoc, Int.mul_comm (m / 128) 128]
        omega
      rw [hp]
      simp
      omega
    · rw [if_neg hm]
      simp only [List.cons_append, List.nil_append, dn]
      rw [if_pos (by omega), if_neg (by omega)]
      simp
theorem read_enc (m : Int) (rest : List Int) (h0 : 0 ≤ m) (h1 : m < 72057594037927936) : dn 8 (enc 7 m ++ rest) 0 0 = (m, ((enc 7 m).length : Int), 0) := by
  have h := dn_enc 7 m rest 0 0 0 h0 (by omega) (.inl rfl)
  simpa using h
end Go.Proofs.YtpgcbdopnkbmhaaDoor.Dn
