/- Numbers as bytes, and the decoders of both sides; bytes lent and as they were. -/
import Derived.Test.YtgafnjgiikdofaaGreatDoorB
import Derived.Test.YtgafnjgiikdofaaGreatDoorA7
import Derived.Test.YtgafnjgiikdofaaGreatDoorFr
import Derived.Outline
import Derived.WalkSpells
import Derived.Deep.QuietTactic
import Derived.BigQuiet
namespace Go.Proofs.YtgafnjgiikdofaaGreatDoor.Xc
open Go.RowKit Go.Proofs.YtgafnjgiikdofaaGreatDoorW.PrintWords Go.Proofs.YtgafnjgiikdofaaGreatDoorW.PrintLast Go.Proofs.YtgafnjgiikdofaaGreatDoorW.PrintMore
open Go.Proofs.YtgafnjgiikdofaaGreatDoor.B
/-- the bytes of a number, seven bits each, the lowest first; 'f' bytes more at most -/
def enc : Nat → Int → List Int
  | 0, n => [n]
  | f + 1, n => if n > 127 then (n % 128 + 128) :: enc f (n / 128) else [n]
theorem enc_len : ∀ f n, (enc f n).length ≤ f + 1
  | 0, _ => by simp [enc]
  | f + 1, n => by
    unfold enc; split
    · have := enc_len f (n / 128); simp; omega
    · simp
theorem or128_fin : ∀ x : Fin 256, Go.bits .or .u8 (x.val : Int) 128 = (x.val : Int) % 128 + 128 := by decide +kernel
theorem or128 (x : Int) : Go.bits .or .u8 (x % 256) 128 = x % 128 + 128 := by
  have h := or128_fin ⟨(x % 256).toNat, by omega⟩
  simp only at h
  rw [Int.toNat_of_nonneg (by omega)] at h
  rw [h]; omega
theorem tdiv128 (x : Int) (h : 0 ≤ x) (h2 : x < 9223372036854775808) : wrap64 (Int.tdiv x 128) = x / 128 := by
  rw [Int.tdiv_eq_ediv_of_nonneg h]; unfold wrap64; omega
theorem tmod128 (x : Int) (h : 0 ≤ x) : (wrap64 ((Int.tmod x 128) + 128)) % 256 = x % 128 + 128 := by
  rw [Int.tmod_eq_emod_of_nonneg h]; unfold wrap64; omega
theorem pow_step (x : Int) (f : Nat) (h : x < 128 ^ (f + 1 + 1)) : x / 128 < 128 ^ (f + 1) := by
  rw [Int.pow_succ] at h; omega
theorem seven_int (f : Nat) : ∀ k x acc, 0 ≤ x → x < 128 ^ (f + 1) → f < k → acc.length + f < 140737488355328 → codec_seven_int.l0 k x acc = some (acc ++ enc f x) := by
  induction f with
  | zero =>
    intro k x acc h0 h1 hk hl
    obtain ⟨k, rfl⟩ : ∃ m, k = m + 1 := ⟨k - 1, by omega⟩
    simp only [codec_seven_int.l0]
    rw [if_neg (by omega), if_pos (by omega), show x % 256 = x by omega]; rfl
  | succ f ih =>
    intro k x acc h0 h1 hk hl
    obtain ⟨k, rfl⟩ : ∃ m, k = m + 1 := ⟨k - 1, by omega⟩
    simp only [codec_seven_int.l0]
    by_cases hx : x > 127
    · rw [if_pos hx, if_pos (by omega), ih k _ _ (by omega) (pow_step x f h1) (by omega) (by simp; omega), or128]
      simp [enc, hx]
    · rw [if_neg hx, if_pos (by omega), show x % 256 = x by omega]; simp [enc, hx]
theorem ref_bytes (f : Nat) : ∀ k x acc, 0 ≤ x → x < 9223372036854775808 → x < 128 ^ (f + 1) → f < k → acc.length + f < 140737488355328 → A.icehouseref01_Bytes.l0 k x acc = some (acc ++ enc f x) := by
  induction f with
  | zero =>
    intro k x acc h0 hm h1 hk hl
    obtain ⟨k, rfl⟩ : ∃ m, k = m + 1 := ⟨k - 1, by omega⟩
    simp only [A.icehouseref01_Bytes.l0]
    rw [if_neg (by omega), if_pos (by omega), show x % 256 = x by omega]; rfl
  | succ f ih =>
    intro k x acc h0 hm h1 hk hl
    obtain ⟨k, rfl⟩ : ∃ m, k = m + 1 := ⟨k - 1, by omega⟩
    simp only [A.icehouseref01_Bytes.l0]
    by_cases hx : x > 127
    · rw [if_pos hx, if_pos (by omega), tdiv128 x h0 hm, ih k _ _ (by omega) (by omega) (pow_step x f h1) (by omega) (by simp; omega), tmod128 x h0]
      simp [enc, hx]
    · rw [if_neg hx, if_pos (by omega), show x % 256 = x by omega]; simp [enc, hx]
def numB (n : Int) : List Int × Int := if 0 ≤ n ∧ n < 72057594037927936 then (enc 7 n, 0) else ([], 11)
theorem number_is (n : Int) : codec_Number.f 8 n = some (numB n) := by
  unfold codec_Number.f numB codec_seven_int.f
  by_cases h : n < 0
  · rw [if_pos h, if_neg (by omega)]
  · by_cases h2 : n ≥ 72057594037927936
    · rw [if_neg h, if_pos h2, if_neg (by omega)]
    · rw [if_neg h, if_neg h2, if_pos (by omega), seven_int 7 8 n [] (by omega) (by omega) (by omega) (by simp)]; rfl
end Go.Proofs.YtgafnjgiikdofaaGreatDoor.Xc
namespace Go.Proofs.YtgafnjgiikdofaaGreatDoor.Xd
set_option linter.unusedVariables false
open Go.RowKit Go.Proofs.YtgafnjgiikdofaaGreatDoorW.PrintWords Go.Proofs.YtgafnjgiikdofaaGreatDoorW.PrintLast Go.Proofs.YtgafnjgiikdofaaGreatDoorW.PrintMore
open Go.Proofs.YtgafnjgiikdofaaGreatDoor.B Go.Proofs.YtgafnjgiikdofaaGreatDoor.Xc
/-- the number at the head of a row of bytes: it, its length, an error; 'i' bytes were read, they made 'acc' -/
def dn : Nat → List Int → Int → Nat → Int × Int × Int
  | 0, _, _, _ => (0, 0, 21)
  | _ + 1, [], _, _ => (0, 0, 20)
  | f + 1, c :: r, acc, i =>
    if c < 128 then (if 0 < i ∧ c = 0 then (0, 0, 21) else (acc + c * 128 ^ i, i + 1, 0))
    else dn f r (acc + (c % 128) * 128 ^ i) (i + 1)
/-- bytes -/
def Byts (xs : List Int) : Prop := ∀ c ∈ xs, 0 ≤ c ∧ c < 256
theorem and127_fin : ∀ x : Fin 256, Go.bits .and .u8 (x.val : Int) 127 = (x.val : Int) % 128 := by decide +kernel
theorem and127 (x : Int) (h0 : 0 ≤ x) (h1 : x < 256) : Go.bits .and .u8 x 127 = x % 128 := by
  have h := and127_fin ⟨x.toNat, by omega⟩
  simp only at h
  rw [Int.toNat_of_nonneg (by omega)] at h
  exact h
theorem i64_bits_or (x y : Int) (i : Nat) (hx : 0 ≤ x) (hx1 : x < 2 ^ i) (hy : 0 ≤ y) (hy1 : y % 2 ^ i = 0) (hy2 : y < 2 ^ 62) (hi : i ≤ 62) (hx2 : x < 2 ^ 62) : Go.bits .or .i64 x y = x + y := by
  have hc : Go.bits .or .i64 x y = Go.bits .or .i64 y x := by
    simp only [Go.bits]
    rw [BitVec.or_comm]
  rw [hc, bits_join .i64 62 (by decide) (fun n h0 h1 => by simp [IntKind.wrap, IntKind.bits, IntKind.signed]; omega) i y x hy hy1 hy2 hx hx1 hx2]
  omega
theorem step_val (acc c : Int) (i : Nat) (hi : i < 8) (h0 : 0 ≤ acc) (h1 : acc < 128 ^ i) (hc : 0 ≤ c) (hc1 : c < 256) :
    Go.bits .or .i64 acc (shl .i64 (wrap64 (Go.bits .and .u8 c 127)) (wrap64 (7 * (i : Int)))) = acc + (c % 128) * 128 ^ i := by
  rw [and127 c hc hc1]
  have hw : wrap64 (c % 128) = c % 128 := by unfold wrap64; omega
  have hw7 : wrap64 (7 * (i : Int)) = 7 * (i : Int) := by unfold wrap64; omega
  rw [hw, hw7]
  have hs : shl .i64 (c % 128) (7 * (i : Int)) = (c % 128) * 128 ^ i := by
    unfold shl
    have ht : min (7 * (i : Int)).toNat IntKind.i64.bits = 7 * i := by simp only [IntKind.bits]; omega
    rw [ht, show (2 : Int) ^ (7 * i) = 128 ^ i from by rw [Int.pow_mul]; rfl]
    have hcases : i = 0 ∨ i = 1 ∨ i = 2 ∨ i = 3 ∨ i = 4 ∨ i = 5 ∨ i = 6 ∨ i = 7 := by omega
    rcases hcases with rfl | rfl | rfl | rfl | rfl | rfl | rfl | rfl <;> simp [IntKind.wrap, IntKind.bits, IntKind.signed] <;> omega
  rw [hs]
  refine i64_bits_or acc _ (7 * i) h0 (by rw [Int.pow_mul]; exact h1) ?_ ?_ ?_ (by omega) ?_
  all_goals have hcases : i = 0 ∨ i = 1 ∨ i = 2 ∨ i = 3 ∨ i = 4 ∨ i = 5 ∨ i = 6 ∨ i = 7 := by omega
  all_goals rcases hcases with rfl | rfl | rfl | rfl | rfl | rfl | rfl | rfl <;> simp at h1 ⊢ <;> omega
theorem number_dn (xs : List Int) (hb : Byts xs) : ∀ f k acc (i : Nat), f + i = 8 → f < k → i ≤ xs.length → 0 ≤ acc → acc < 128 ^ i → codec_number.l0 k xs acc i = some (dn f (xs.drop i) acc i) := by
  intro f
  induction f with
  | zero =>
    intro k acc i hf hk hl h0 h1
    obtain ⟨k, rfl⟩ : ∃ m, k = m + 1 := ⟨k - 1, by omega⟩
    simp only [codec_number.l0, dn]
    rw [if_neg (by omega)]
  | succ f ih =>
    intro k acc i hf hk hl h0 h1
    obtain ⟨k, rfl⟩ : ∃ m, k = m + 1 := ⟨k - 1, by omega⟩
    simp only [codec_number.l0]
    rw [if_pos (by omega)]
    by_cases hlt : i < xs.length
    · have hd : xs.drop i = xs[i] :: xs.drop (i + 1) := List.drop_eq_getElem_cons hlt
      have hr : rd xs (i : Int) = xs[i] := by simp [rd, hlt]
      have hbi := hb xs[i] (List.getElem_mem hlt)
      have hw7 : wrap64 (7 * (i : Int)) = 7 * (i : Int) := by unfold wrap64; omega
      have hw1 : wrap64 ((i : Int) + 1) = ((i + 1 : Nat) : Int) := by unfold wrap64; omega
      rw [if_neg (by omega), if_pos (by omega), if_pos (by omega), if_pos (by rw [hw7]; omega), hr, step_val acc xs[i] i (by omega) h0 h1 hbi.1 hbi.2, hd, hw1]
      simp only [dn]
      by_cases hc : xs[i] < 128
      · rw [if_pos hc, if_pos hc]
        have hm : xs[i] % 128 = xs[i] := by omega
        rw [hm]
        by_cases hi : i = 0
        · subst hi
          rw [if_neg (by omega), if_neg (by omega)]; rfl
        · rw [if_pos (by omega)]
          by_cases hz : xs[i] = 0
          · rw [if_pos hz, if_pos ⟨by omega, hz⟩]
          · rw [if_neg hz, if_neg (by omega)]; rfl
      · rw [if_neg hc, if_neg hc]
        refine ih k _ (i + 1) (by omega) (by omega) (by omega) ?_ ?_
        · have : (0 : Int) ≤ (xs[i] % 128) * 128 ^ i := Int.mul_nonneg (by omega) (Int.pow_nonneg (by decide))
          omega
        · have hp : (0 : Int) < 128 ^ i := Int.pow_pos (by decide)
          have hm : (xs[i] % 128) * 128 ^ i ≤ 127 * 128 ^ i := Int.mul_le_mul_of_nonneg_right (by omega) (by omega)
          rw [Int.pow_succ]
          omega
    · have hd : xs.drop i = [] := List.drop_eq_nil_of_le (by omega)
      rw [if_pos (by omega), hd]; rfl
/-- what codec's inner 'number' answers -/
theorem number_is' (xs : List Int) (hb : Byts xs) : codec_number.f 9 xs = some (dn 8 xs 0 0) := by
  have h := number_dn xs hb 8 9 0 0 (by omega) (by omega) (by omega) (by omega) (by decide)
  exact h
theorem enc_byts : ∀ f n, 0 ≤ n → n < 128 ^ (f + 1) → Byts (enc f n)
  | 0, n => fun h0 h1 c hc => by simp [enc] at hc; subst hc; simp at h1; omega
  | f + 1, n => fun h0 h1 c hc => by
    unfold enc at hc
    split at hc
    · rcases List.mem_cons.1 hc with rfl | hc
      · omega
      · exact enc_byts f (n / 128) (by omega) (pow_step n f h1) c hc
    · simp at hc; subst hc; omega
/-- a number that was written is read as it was -/
theorem dn_enc : ∀ f m rest acc (i e : Nat), 0 ≤ m → m < 128 ^ (f + 1) → (i = 0 ∨ 0 < m) → dn (f + 1 + e) (enc f m ++ rest) acc i = (acc + m * 128 ^ i, (i : Int) + (enc f m).length, 0) := by
  intro f
  induction f with
  | zero =>
    intro m rest acc i e h0 h1 hi
    rw [show 0 + 1 + e = e + 1 from by omega]
    simp at h1
    simp only [enc, List.cons_append, List.nil_append, dn]
    rw [if_pos (by omega), if_neg (by omega)]
    simp
  | succ f ih =>
    intro m rest acc i e h0 h1 hi
    rw [show f + 1 + 1 + e = (f + 1 + e) + 1 from by omega]
    unfold enc
    by_cases hm : m > 127
    · rw [if_pos hm]
      simp only [List.cons_append, dn]
      rw [if_neg (by omega), ih (m / 128) rest _ (i + 1) e (by omega) (pow_step m f h1) (.inr (by omega))]
      have hx : (m % 128 + 128) % 128 = m % 128 := by omega
      rw [hx]
      have hp : acc + m % 128 * 128 ^ i + m / 128 * 128 ^ (i + 1) = acc + m * 128 ^ i := by
        have : m = m % 128 + 128 * (m / 128) := by omega
        rw [Int.pow_succ]
        conv => rhs; rw [this]
        rw [Int.add_mul, Int.mul_comm (128 ^ i) 128, ← Int.mul_assoc, Int.mul_comm (m / 128) 128]
        omega
      rw [hp]
      simp
      omega
    · rw [if_neg hm]
      simp only [List.cons_append, List.nil_append, dn]
      rw [if_pos (by omega), if_neg (by omega)]
      simp
theorem read_enc (m : Int) (rest : List Int) (h0 : 0 ≤ m) (h1 : m < 72057594037927936) : dn 8 (enc 7 m ++ rest) 0 0 = (m, ((enc 7 m).length : Int), 0) := by
  have h := dn_enc 7 m rest 0 0 0 h0 (by omega) (.inl rfl)
  simpa using h
end Go.Proofs.YtgafnjgiikdofaaGreatDoor.Xd
namespace Go.Proofs.YtgafnjgiikdofaaGreatDoor.Xe
set_option linter.unusedVariables false
open Go.RowKit Go.Proofs.YtgafnjgiikdofaaGreatDoorW.PrintWords Go.Proofs.YtgafnjgiikdofaaGreatDoorW.PrintLast Go.Proofs.YtgafnjgiikdofaaGreatDoorW.PrintMore
open Go.Proofs.YtgafnjgiikdofaaGreatDoor.B Go.Proofs.YtgafnjgiikdofaaGreatDoor.Xc Go.Proofs.YtgafnjgiikdofaaGreatDoor.Xd Go.Proofs.YtgafnjgiikdofaaGreatDoor.Fr
/-- a decoder at block b: the bytes that are left, its error -/
def Dec (w : World) (b : Nat) (xs : List Int) (er : Int) : Prop :=
  ∃ A c, w.heap[b]? = some (.cells #[.slice A xs.length c, .int .i64 er, .bool true] 135 (0, 0)) ∧ xs.length ≤ c ∧ (Kd.int .u8).C w A xs.length xs ∧ ∀ ad, A = some ad → 0 < xs.length → ad.block ≠ b
/-- the decoder behind a store of its bytes and its error -/
theorem Dec.mk' {w : World} {b : Nat} {A : Option Addr} {n c : Nat} {er : Int} {xs : List Int} (hblk : w.heap[b]? = some (.cells #[.slice A n c, .int .i64 er, .bool true] 135 (0, 0)))
    (hn : n = xs.length) (hc : xs.length ≤ c) (hC : (Kd.int .u8).C w A xs.length xs) (hne : ∀ ad, A = some ad → 0 < xs.length → ad.block ≠ b) : Dec w b xs er := by
  subst hn
  exact ⟨A, c, hblk, hc, hC, hne⟩
theorem none_false (b : Nat) (w : World) (h : w.cell? ⟨b, 2, none⟩ = some (.bool true)) : Calls Tryz.prog 107 #[.pointer (some ⟨b, 0, none⟩)] w fun e w' => e = .returned (.bool false) ∧ w = w' := by
  go_enter Tryz.func107, Tryz.ntmps107
  go_wp2
  go_ret
  exact ⟨rfl, rfl⟩
theorem err_ok (b : Nat) (w : World) (xs : List Int) (er : Int) (h : Dec w b xs er) : Calls Tryz.prog 109 #[.pointer (some ⟨b, 0, none⟩)] w fun e w' => e = .returned (.int .i64 er) ∧ w = w' := by
  obtain ⟨A, c, hblk, hc, hC, hne⟩ := h
  have c1 := blk_cell hblk 1
  have c2 := blk_cell hblk 2
  simp at c1 c2
  have HN := Aside0.mk (none_false b w c2)
  clear hblk hC hne
  go_enter Tryz.func109, Tryz.ntmps109
  go_wp2_with fail
  refine HN.out.mono ?_
  rintro e w' ⟨rfl, rfl⟩
  go_wp2
  go_ret
  exact ⟨rfl, rfl⟩
end Go.Proofs.YtgafnjgiikdofaaGreatDoor.Xe
namespace Go.Proofs.YtgafnjgiikdofaaGreatDoor.Xl
set_option linter.unusedVariables false
open Go.RowKit Go.Proofs.YtgafnjgiikdofaaGreatDoorW.PrintWords Go.Proofs.YtgafnjgiikdofaaGreatDoorW.PrintLast Go.Proofs.YtgafnjgiikdofaaGreatDoorW.PrintMore
open Go.Proofs.YtgafnjgiikdofaaGreatDoor.B Go.Proofs.YtgafnjgiikdofaaGreatDoor.Xc Go.Proofs.YtgafnjgiikdofaaGreatDoor.Xd Go.Proofs.YtgafnjgiikdofaaGreatDoor.Fr Go.Proofs.YtgafnjgiikdofaaGreatDoor.Xe
theorem C_lt {k : IntKind} {w : World} {A : Option Addr} {n : Nat} {xs : List Int} (h : (Kd.int k).C w A n xs) : ∀ ad, A = some ad → 0 < n → ad.block < w.heap.size := by
  intro ad e hp
  obtain ⟨_, _, h3⟩ := Kd.reads_of_C (d := (0 : Int)) h
  obtain ⟨ad', e', hc⟩ := h3 hp
  have := World.block_lt_of_cell? w _ (hc 0 hp)
  rw [e] at e'
  injection e' with e'
  subst e'
  have hb : (ad.add 0).block = ad.block := by unfold Addr.add; split <;> rfl
  rw [hb] at this
  exact this
set_option maxHeartbeats 1000000 in
theorem clone_any (A : Option Addr) (c : Nat) (xs : List Int) (w : World) (hC : (Kd.int .u8).C w A xs.length xs) (hc : xs.length ≤ c) (hl : xs.length ≤ 140737488351232) :
    Calls Tryz.prog 106 #[.slice A xs.length c] w fun e w' => ∃ v, e = .returned v ∧ Kd.R (Kd.int .u8) 5 w' w.heap.size (fun _ => True) v xs ∧ Below w.heap.size w w' := by
  have HB := Aside0.mk (Below.refl w.heap.size w)
  have heq := fun W => Lib.run_eql_slice_nil (P := Tryz.prog) W 48 5 A xs.length c 0 0 Tryz.underlying48
  cases A with
  | none =>
    have hx : xs = [] := by
      cases xs with
      | nil => rfl
      | cons a l => obtain ⟨ad, e, _⟩ := hC.2.2 (by simp); cases e
    subst hx
    have heq0 := fun W => Lib.run_eql_slice_nil (P := Tryz.prog) W 48 5 none 0 c 0 0 Tryz.underlying48
    simp only [List.length_nil]
    clear heq hC hl
    go_enter Tryz.func106, Tryz.ntmps106
    go_wp2
    go_ret
    exact ⟨_, rfl, Kd.R_nil _ _ _ _ _, HB.out⟩
  | some ad =>
    obtain ⟨n, hn⟩ : ∃ n, n = xs.length := ⟨_, rfl⟩
    rw [← hn] at hC hc hl heq ⊢
    have HN := Aside0.mk hn
    clear hn
    go_enter Tryz.func106, Tryz.ntmps106
    go_wp2_with (first
      | ((with_reducible refine gate_dst (N := 5) rfl ?_); refine Kd.R_lit (Kd.int .u8) _ 5 ?hg (N := 5) ?hd (xs := ([] : List Int)) (inner := []) (ok := fun _ => True) (okp := fun _ => True) ?hr ?hp (fun _ hk => hk) trivial (Below.refl _ _) (Nat.le_refl _) (by simp) ?_; (case hd => rfl); (case hg => rfl); (case hr => first | (go_simp; done) | (go_simp; rfl)); (case hp => exact (Reps.none _ _)); intro v1 w1 ho1 hb hg_ hnew_; clear hg_ hnew_; have HO1 := Aside0.mk ho1; have HB1 := Aside0.mk hb; clear hb ho1)
      | ((with_reducible refine gate_builtin (b := .append) (xs := #[.tmp 5, .tmp 6]) rfl ?_); at_builtin; refine Kd.R_append_rows (Kd.int .u8) (w0 := w) w.heap.size rfl (.tmp 5) (.tmp 6) 48 5 (.int .u8 0) 1 rfl Tryz.underlying48 info5 rfl (by decide) (by omega) v1 [] xs _ _ _ (fun _ => True) (fun _ => False) rfl rfl ?aO ?aR (fun _ _ h => h) (fun _ h => h.elim) ?aF ?aB ?aS ?aL ?_; (case aR => exact Kd.C_below hC HB1.out); (case aB => exact HB1.out); (case aF => exact (fun _ _ => trivial)); (case aO => exact HO1.out); (case aS => exact HB1.out.size); (case aL => simp; omega); intro v2 w2 ho hb hg hat; have HO2 := Aside0.mk ho; have HB2 := Aside0.mk hb; clear ho hb hg hat))
    go_ret
    exact ⟨_, rfl, HO2.out, HB2.out⟩
/-- New: a decoder of these bytes -/
theorem new_any (A : Option Addr) (c : Nat) (xs : List Int) (w : World) (hC : (Kd.int .u8).C w A xs.length xs) (hc : xs.length ≤ c) (hl : xs.length ≤ 140737488351232) :
    Calls Tryz.prog 77 #[.slice A xs.length c] w fun e w' => ∃ b, e = .returned (.pointer (some ⟨b, 0, none⟩)) ∧ Dec w' b xs 0 ∧ w.heap.size ≤ b ∧ Below w.heap.size w w' := by
  have HN := Aside0.mk (clone_any A c xs w hC hc hl)
  clear hC
  go_enter Tryz.func77, Tryz.ntmps77
  go_wp2_with fail
  refine HN.out.mono ?_
  rintro e w1 ⟨v, rfl, hr, hb⟩
  obtain ⟨A1, c1, rfl, hc1, hC1⟩ := Kd.R_reads hr
  have HB := Aside0.mk hb
  have HC1 := Aside0.mk hC1
  have hs := hb.size
  clear hb hC1 hr
  go_wp2
  go_ret
  refine ⟨w1.heap.size, rfl, Dec.mk' (blk_new w1 _) rfl hc1 (Kd.C_alloc HC1.out _) ?_, hs, below_alloc HB.out _⟩
  intro ad e hp
  have := C_lt HC1.out ad e hp
  omega
end Go.Proofs.YtgafnjgiikdofaaGreatDoor.Xl
namespace Go.Proofs.YtgafnjgiikdofaaGreatDoor.Xt
set_option linter.unusedVariables false
open Go.RowKit Go.Proofs.YtgafnjgiikdofaaGreatDoorW.PrintWords Go.Proofs.YtgafnjgiikdofaaGreatDoorW.PrintLast Go.Proofs.YtgafnjgiikdofaaGreatDoorW.PrintMore
open Go.Proofs.YtgafnjgiikdofaaGreatDoor.Fr Go.Proofs.YtgafnjgiikdofaaGreatDoor.B
/-- a slice of l's bytes, marked room behind it -/
def LentV (w : World) (base : Nat) (A : Option Addr) (c : Nat) (l : List Int) : Prop :=
  l.length + 2 ≤ c ∧ (Kd.int .u8).R 5 w base (fun _ => True) (.slice A (l.length + 2) c) (l ++ [77, 78])
set_option maxHeartbeats 1000000 in
theorem lent_is (A : Option Addr) (c : Nat) (l : List Int) (w : World) (hC : (Kd.int .u8).C w A l.length l) (hl : l.length ≤ 140737488351232) :
    Calls Tryz.prog 36 #[.slice A l.length c] w fun e w' => ∃ A' c', e = .returned (.slice A' l.length c') ∧ LentV w' w.heap.size A' c' l ∧ Below w.heap.size w w' := by
  have HC := Aside0.mk hC
  obtain ⟨n, hn⟩ : ∃ n, n = l.length := ⟨_, rfl⟩
  have HN := Aside0.mk hn
  rw [← hn] at hC hl ⊢
  clear hn HC
  obtain ⟨i0, hi0, _, hsz, _⟩ := info_parts info5
  have HLEN := Aside0.mk (show (l ++ [77, 78]).length = n + 2 by rw [HN.out]; simp)
  go_enter Tryz.func36, Tryz.ntmps36
  go_wp2_with (first
    | ((with_reducible refine gate_dst (N := 4) rfl ?_); refine Kd.R_lit (Kd.int .u8) _ 5 ?hg (N := 4) ?hd (xs := ([] : List Int)) (inner := []) (ok := fun _ => True) (okp := fun _ => True) ?hr ?hp (fun _ hk => hk) trivial (Below.refl _ _) (Nat.le_refl _) (by simp) ?_; (case hd => rfl); (case hg => rfl); (case hr => first | (go_simp; done) | (go_simp; rfl)); (case hp => exact (Reps.none _ _)); intro v1 w1 ho1 hb hg_ hnew_; clear hg_ hnew_; have HO1 := Aside0.mk ho1; have HB1 := Aside0.mk hb; clear hb ho1)
    | ((with_reducible refine gate_builtin (b := .append) (xs := #[.tmp 4, .tmp 5]) rfl ?_); at_builtin; refine Kd.R_append_row (Value.int .u8) (0 : Int) (h1 := fun _ => rfl) (w0 := w) w.heap.size rfl (.tmp 4) (.tmp 5) 48 5 (.int .u8 0) 1 rfl Tryz.underlying48 info5 rfl (by decide) v1 [] l A n c (fun _ => True) rfl rfl (fun _ _ => trivial) HO1.out (Kd.C_below hC HB1.out) HB1.out HB1.out.size ?aL ?_; (case aL => simp; omega); intro v2 w2 ho hb hg hat; have HO2 := Aside0.mk ho; have HB2 := Aside0.mk hb; clear ho hb hg hat)
    | ((with_reducible refine gate_dst (N := 8) rfl ?_); refine Kd.R_lit (Kd.int .u8) _ 5 ?hg (N := 8) ?hd (xs := ([77, 78] : List Int)) (inner := [.int .u8 77, .int .u8 78]) (ok := fun _ => True) (okp := fun _ => True) ?hr ?hp (fun _ hk => hk) trivial (Below.refl _ _) (Nat.le_refl _) (by simp) ?_; (case hd => rfl); (case hg => rfl); (case hr => first | (go_simp; done) | (go_simp; rfl)); (case hp => exact (Reps.one (show Kd.M (Kd.int .u8) _ _ _ 77 [.int .u8 77] from rfl) (Reps.one (show Kd.M (Kd.int .u8) _ _ _ 78 [.int .u8 78] from rfl) (Reps.none _ _)))); intro v3 w3 ho3 hb hg_ hnew_; clear hg_ hnew_; obtain ⟨A3, c3, rfl, hc3, hC3⟩ := Kd.R_reads ho3; have HC3 := Aside0.mk (show (Kd.int .u8).C w3 A3 2 [77, 78] from hC3); have HO3 := Aside0.mk (show (Kd.int .u8).R 5 w3 w.heap.size (fun _ => True) v2 l from Kd.R_below HO2.out hb); have HB3 := Aside0.mk (below_step HB2.out hb); clear hb ho3 hC3)
    | ((with_reducible refine gate_builtin (b := .append) (xs := #[.tmp 7, .tmp 8]) rfl ?_); at_builtin; refine Kd.R_append_row (Value.int .u8) (0 : Int) (h1 := fun _ => rfl) (w0 := w) w.heap.size rfl (.tmp 7) (.tmp 8) 48 5 (.int .u8 0) 1 rfl Tryz.underlying48 info5 rfl (by decide) v2 l [77, 78] A3 2 c3 (fun _ => True) rfl rfl (fun _ _ => trivial) HO3.out HC3.out HB3.out HB3.out.size ?aL ?_; (case aL => have := HN.out; simp; omega); intro v4 w4 ho hb hg hat; obtain ⟨A4, c4, rfl, hc4, hC4⟩ := Kd.R_reads ho; clear hC4; rw [HLEN.out] at hc4 ho; have hcut := cut_to (P := Tryz.prog) 48 5 .i64 Tryz.underlying48 hi0 A4 (n + 2) c4 (n : Int) (by omega) (by omega) hc4; rw [Int.toNat_natCast] at hcut; have HO4 := Aside0.mk ho; have HB4 := Aside0.mk hb; clear ho hb hg hat))
  go_ret
  refine ⟨A4, c4, rfl, ⟨?_, ?_⟩, HB4.out⟩
  · rw [← HN.out]; exact hc4
  · rw [← HN.out]; exact HO4.out
set_option maxHeartbeats 1000000 in
/-- lent bytes, as they were -/
theorem stays_is (A : Option Addr) (c : Nat) (A1 : Option Addr) (c1 : Nat) (l : List Int) (w : World) (base : Nat) (hL : LentV w base A c l) (hC : (Kd.int .u8).C w A1 l.length l) (hl : l.length ≤ 140737488351232) :
    Calls Tryz.prog 40 #[.slice A l.length c, .slice A1 l.length c1] w fun e w' => e = .returned (.bool true) ∧ ∃ n, w' = w.drewN n := by
  obtain ⟨hc, hR⟩ := hL
  have hn0 : (l ++ [77, 78]).length = l.length + 2 := by simp
  obtain ⟨_, _, hCx⟩ := Kd.R_reads' hR
  rw [hn0] at hCx
  have hT := Kd.C_take (m := l.length) (xs := l ++ [77, 78]) (by rw [hn0]; exact hCx) (by simp)
  have ht : (l ++ [77, 78]).take l.length = l := by simp
  rw [ht] at hT
  obtain ⟨_, _, hcell0⟩ := Kd.reads_of_C (d := (0 : Int)) hCx
  obtain ⟨ad, rfl, hcell⟩ := hcell0 (by omega)
  have c77 := hcell l.length (by omega)
  have c78 := hcell (l.length + 1) (by omega)
  simp at c77 c78
  obtain ⟨i0, hi0, _, hsz, _⟩ := info_parts info5
  obtain ⟨n, hn⟩ : ∃ n, n = l.length := ⟨_, rfl⟩
  have hcv1 := fun m => Kd.C_string (P := Tryz.prog) (c := c) Tryz.underlying48 Tryz.underlying5 Tryz.underlying9 (Kd.C_drewN hT m)
  have hcv2 := fun m => Kd.C_string (P := Tryz.prog) (c := c1) Tryz.underlying48 Tryz.underlying5 Tryz.underlying9 (Kd.C_drewN hC m)
  rw [← hn] at hcv1 hcv2 c77 c78 hc hl ⊢
  obtain ⟨s, hs⟩ : ∃ s, s = strOfNums l := ⟨_, rfl⟩
  rw [← hs] at hcv1 hcv2
  have hcut := cut_to (P := Tryz.prog) 48 5 .i64 Tryz.underlying48 hi0 (some ad) (n + 2) c (n : Int) (by omega) (by omega) hc
  rw [Int.toNat_natCast] at hcut
  have hroom : ∀ W, (Instr.slice 48 (.slice (some ad) n c) none (some (.int .i64 ((n : Int) + 2))) none).run Tryz.prog W = .ok (.slice (some ad) (n + 2) c) W := by
    intro W
    have hel : Tryz.prog.elem 48 = 5 := by kernel_rfl
    rw [run_slice_h W 48 (some ad) n c (by rw [hel]; exact Tryz.underlying48) .i64 ((n : Int) + 2) (by omega) (by omega), hel]
    have : ((n : Int) + 2).toNat = n + 2 := by omega
    simp [sizeOf, typeInfo, hi0, sliced, Result.andThen, this, Addr.add]
  clear hT ht hC hCx hcell hR hn0 hn hs
  obtain ⟨N2, hN2⟩ : ∃ N2, N2 = n + 2 := ⟨_, rfl⟩
  rw [← hN2] at hcut hroom
  have i1 : (n : Int) < (N2 : Int) := by omega
  have i2 : (n : Int) + 1 < (N2 : Int) := by omega
  have i3 : (0 : Int) ≤ (n : Int) + 1 := by omega
  have i4 : ((n : Int) + 1).toNat = n + 1 := by omega
  have i5 : n < N2 := by omega
  have i6 : n + 1 < N2 := by omega
  have c78' : w.cell? { block := ad.block, off := ad.off + (n + 1) } = some (.int .u8 78) := by simpa [Addr.add] using c78
  clear hN2 hc
  have i7 : IntKind.i64.wrap ((n : Int) + 1) = (n : Int) + 1 := by simp [IntKind.wrap, IntKind.bits, IntKind.signed]; omega
  go_enter Tryz.func40, Tryz.ntmps40
  go_wp2
  go_quiet (fail)
  go_wp2
  go_ret
  exact ⟨rfl, _, rfl⟩
end Go.Proofs.YtgafnjgiikdofaaGreatDoor.Xt
namespace Go.Proofs.YtgafnjgiikdofaaGreatDoor.Xr
set_option linter.unusedVariables false
set_option linter.unusedSimpArgs false
open Go.RowKit Go.Proofs.YtgafnjgiikdofaaGreatDoorW.PrintWords Go.Proofs.YtgafnjgiikdofaaGreatDoorW.PrintLast Go.Proofs.YtgafnjgiikdofaaGreatDoorW.PrintMore
open Go.Proofs.YtgafnjgiikdofaaGreatDoor.B Go.Proofs.YtgafnjgiikdofaaGreatDoor.Xc Go.Proofs.YtgafnjgiikdofaaGreatDoor.Xd Go.Proofs.YtgafnjgiikdofaaGreatDoor.Xe Go.Proofs.YtgafnjgiikdofaaGreatDoor.Xl Go.Proofs.YtgafnjgiikdofaaGreatDoor.Fr
theorem shl_val (c : Int) (i : Nat) (hi : i < 8) (hc : 0 ≤ c) (hc1 : c < 128) : shl .i64 c (IntKind.u64.wrap (wrap64 (7 * (i : Int)))) = c * 128 ^ i := by
  have hw7 : IntKind.u64.wrap (wrap64 (7 * (i : Int))) = 7 * (i : Int) := by
    rw [show wrap64 (7 * (i : Int)) = 7 * (i : Int) from by unfold wrap64; omega]
    simp [IntKind.wrap, IntKind.bits, IntKind.signed]; omega
  rw [hw7]
  unfold shl
  have ht : min (7 * (i : Int)).toNat IntKind.i64.bits = 7 * i := by simp only [IntKind.bits]; omega
  rw [ht, show (2 : Int) ^ (7 * i) = 128 ^ i from by rw [Int.pow_mul]; rfl]
  have hcases : i = 0 ∨ i = 1 ∨ i = 2 ∨ i = 3 ∨ i = 4 ∨ i = 5 ∨ i = 6 ∨ i = 7 := by omega
  rcases hcases with rfl | rfl | rfl | rfl | rfl | rfl | rfl | rfl <;> simp [IntKind.wrap, IntKind.bits, IntKind.signed] <;> omega
theorem rd_at {xs : List Int} {n : Nat} (h : n < xs.length) : rd xs (n : Int) = xs[n] := by unfold rd; simp [List.getD_eq_getElem?_getD, List.getElem?_eq_getElem h]
def fixR (a : Nat) (r : Int × Int × Int) : Int × Int × Int := if r.2.2 = 0 then (r.1, (a : Int) + r.2.1, 0) else (0, 0, r.2.2)
theorem pow_bd (i : Nat) (hi : i < 8) : (1 : Int) ≤ 128 ^ i ∧ (128 : Int) ^ i * 128 ≤ 72057594037927936 ∧ (128 : Int) ^ (i + 1) = 128 ^ i * 128 := by
  have hcases : i = 0 ∨ i = 1 ∨ i = 2 ∨ i = 3 ∨ i = 4 ∨ i = 5 ∨ i = 6 ∨ i = 7 := by omega
  rcases hcases with rfl | rfl | rfl | rfl | rfl | rfl | rfl | rfl <;> decide
theorem mul_bd {c p : Int} (h0 : 0 ≤ c) (h1 : c < 128) (hp : 1 ≤ p) : 0 ≤ c * p ∧ c * p ≤ 127 * p := ⟨Int.mul_nonneg h0 (by omega), Int.mul_le_mul_of_nonneg_right (by omega) (by omega)⟩
theorem rnumber_dn (xs : List Int) (hb : Byts xs) (hl : xs.length ≤ 4611686018427387904) (a : Nat) : ∀ f k acc (i : Nat), f + i = 8 → f < k → a + i ≤ xs.length → 0 ≤ acc → acc < 128 ^ i →
    icehouseref01_number.l0 k xs (a : Int) acc (i : Int) = some (fixR a (dn f (xs.drop (a + i)) acc i)) := by
  intro f
  induction f with
  | zero =>
    intro k acc i hf hk hai h0 h1
    obtain ⟨k, rfl⟩ : ∃ m, k = m + 1 := ⟨k - 1, by omega⟩
    rw [icehouseref01_number.l0, if_neg (by omega)]
    rfl
  | succ f ih =>
    intro k acc i hf hk hai h0 h1
    obtain ⟨k, rfl⟩ : ∃ m, k = m + 1 := ⟨k - 1, by omega⟩
    have hi8 : i < 8 := by omega
    have k1 : f + (i + 1) = 8 := by omega
    have k2 : f < k := by omega
    have e3 : wrap64 ((i : Int) + 1) = ((i + 1 : Nat) : Int) := by unfold wrap64; omega
    have e2 : wrap64 (((a + i : Nat) : Int) + 1) = (a : Int) + ((i : Int) + 1) := by unfold wrap64; omega
    have e1 : wrap64 ((a : Int) + (i : Int)) = ((a + i : Nat) : Int) := by unfold wrap64; omega
    rw [icehouseref01_number.l0, if_pos (by omega), e1]
    by_cases hlt : a + i < xs.length
    · rw [if_neg (by omega), if_pos (by omega), if_pos (by omega)]
      have hu : 0 ≤ IntKind.u64.wrap (wrap64 (7 * (i : Int))) := by
        rw [show wrap64 (7 * (i : Int)) = 7 * (i : Int) from by unfold wrap64; omega]
        have e : IntKind.u64.wrap (7 * (i : Int)) = 7 * (i : Int) := by simp [IntKind.wrap, IntKind.bits, IntKind.signed]; omega
        rw [e]; omega
      rw [if_pos hu]
      have hc : rd xs ((a + i : Nat) : Int) = xs[a + i] := rd_at hlt
      rw [hc, List.drop_eq_getElem_cons hlt]
      have hbc := hb xs[a + i] (List.getElem_mem hlt)
      obtain ⟨c, hcc⟩ : ∃ c, c = xs[a + i] := ⟨_, rfl⟩
      rw [← hcc] at hbc ⊢
      have ew : wrap64 c = c := by unfold wrap64; omega
      have et : Int.tmod c 128 = c % 128 := by rw [Int.tmod_eq_emod_of_nonneg (by omega)]
      have es : shl .i64 (c % 128) (IntKind.u64.wrap (wrap64 (7 * (i : Int)))) = (c % 128) * 128 ^ i := shl_val _ i hi8 (by omega) (by omega)
      have k3 : a + (i + 1) ≤ xs.length := by omega
      have hp := pow_bd i hi8
      have hm := mul_bd (c := c % 128) (p := 128 ^ i) (by omega) (by omega) hp.1
      have ea : wrap64 (acc + (c % 128) * 128 ^ i) = acc + (c % 128) * 128 ^ i := by
        obtain ⟨pp, hpp⟩ : ∃ pp : Int, pp = 128 ^ i := ⟨_, rfl⟩
        obtain ⟨qq, hqq⟩ : ∃ qq : Int, qq = (c % 128) * 128 ^ i := ⟨_, rfl⟩
        rw [← hqq, ← hpp] at hm
        rw [← hpp] at h1 hp
        rw [← hqq]
        unfold wrap64; omega
      have hacc : 0 ≤ acc + (c % 128) * 128 ^ i ∧ acc + (c % 128) * 128 ^ i < 128 ^ (i + 1) := by
        rw [hp.2.2]
        obtain ⟨pp, hpp⟩ : ∃ pp : Int, pp = 128 ^ i := ⟨_, rfl⟩
        obtain ⟨qq, hqq⟩ : ∃ qq : Int, qq = (c % 128) * 128 ^ i := ⟨_, rfl⟩
        rw [← hqq, ← hpp] at hm
        rw [← hqq]
        rw [← hpp] at h1 ⊢
        clear hpp hqq hp es ea
        omega
      clear hm hp h1
      rw [ew, et, es, ea]
      rw [e2, e3]
      have ed : dn (f + 1) (c :: xs.drop (a + i + 1)) acc i = (if c < 128 then (if 0 < i ∧ c = 0 then (0, 0, 21) else (acc + c * 128 ^ i, (i : Int) + 1, 0)) else dn f (xs.drop (a + i + 1)) (acc + (c % 128) * 128 ^ i) (i + 1)) := by rw [dn]
      rw [ed]
      clear ed
      --show _ = some (fixR a (if c < 128 then (if 0 < i ∧ c = 0 then (0, 0, 21) else (acc + c * 128 ^ i, (i : Int) + 1, 0)) else dn f (xs.drop (a + i + 1)) (acc + (c % 128) * 128 ^ i) (i + 1)))
      by_cases hc128 : c < 128
      · rw [if_pos hc128, if_pos hc128]
        have hcm : c % 128 = c := by omega
        rw [hcm]
        by_cases hc0 : c = 0
        · rw [if_pos hc0]
          by_cases hi0 : 0 < i
          · rw [if_pos (by omega), if_pos ⟨hi0, hc0⟩]; rfl
          · rw [if_neg (by omega), if_neg (fun h => hi0 h.1)]; rfl
        · rw [if_neg hc0, if_neg (fun h => hc0 h.2)]; rfl
      · rw [if_neg hc128, if_neg hc128]
        exact ih k _ (i + 1) k1 k2 k3 hacc.1 hacc.2
    · rw [if_pos (by omega), List.drop_of_length_le (by omega)]
      rfl
theorem dn_bd : ∀ f (xs : List Int) acc (i : Nat), 0 ≤ (dn f xs acc i).2.1 ∧ (dn f xs acc i).2.1 ≤ (i : Int) + xs.length
  | 0, xs, acc, i => ⟨Int.le_refl _, by show (0 : Int) ≤ _; omega⟩
  | f + 1, [], acc, i => ⟨Int.le_refl _, by show (0 : Int) ≤ _; omega⟩
  | f + 1, c :: r, acc, i => by
    unfold dn
    rw [List.length_cons]
    split
    · split
      · exact ⟨Int.le_refl _, by show (0 : Int) ≤ _; omega⟩
      · exact ⟨by show (0 : Int) ≤ (i : Int) + 1; omega, by show (i : Int) + 1 ≤ _; omega⟩
    · have ih := dn_bd f r (acc + (c % 128) * 128 ^ i) (i + 1)
      omega
theorem dn_zero : ∀ f (xs : List Int) acc (i : Nat) (d : Int × Int × Int), d = dn f xs acc i → d.2.2 ≠ 0 → d.1 = 0 ∧ d.2.1 = 0
  | 0, xs, acc, i, d, h, hz => by subst h; exact ⟨rfl, rfl⟩
  | f + 1, [], acc, i, d, h, hz => by subst h; exact ⟨rfl, rfl⟩
  | f + 1, c :: r, acc, i, d, h, hz => by
    rw [dn] at h
    split at h
    · split at h
      · subst h; exact ⟨rfl, rfl⟩
      · subst h; exact absurd rfl hz
    · exact dn_zero f r _ _ d h hz
/-- a step of a decoder: what is read; the bytes that are left, and the error -/
def stepD (xs : List Int) (er : Int) : Int × List Int × Int := if er = 0 then ((dn 8 xs 0 0).1, xs.drop (dn 8 xs 0 0).2.1.toNat, (dn 8 xs 0 0).2.2) else (0, xs, er)
/-- the document's decoder at block b: its bytes, its place, the bytes that are left, the error -/
abbrev RDx (w : World) (N b : Nat) (A : Option Addr) (c : Nat) (xs : List Int) (a : Nat) (ys : List Int) (er : Int) : Prop :=
  w.heap[b]? = some (.cells #[.slice A xs.length c, .int .i64 (a : Int), .int .i64 er] 139 (0, 0)) ∧ xs.length ≤ c ∧ (Kd.int .u8).C w A xs.length xs ∧ (∀ ad, A = some ad → 0 < xs.length → ad.block ≠ b) ∧ ys = xs.drop a ∧ a ≤ xs.length ∧ Byts xs ∧ xs.length ≤ 4611686018427387904 ∧ b < N ∧ (∀ ad, A = some ad → 0 < xs.length → ad.block < N)
def RDec (w : World) (N b : Nat) (ys : List Int) (er : Int) : Prop := ∃ A c xs, ∃ a : Nat, RDx w N b A c xs a ys er
def rnumR (xs : List Int) (a : Nat) : Int × Int × Int := fixR a (dn 8 (xs.drop a) 0 0)
theorem rnum_calls (A : Option Addr) (c : Nat) (xs : List Int) (a : Nat) (w : World) (hC : (Kd.int .u8).C w A xs.length xs) (hc : xs.length ≤ c) (hb : Byts xs) (hl : xs.length ≤ 4611686018427387904) (ha : a ≤ xs.length) :
    Calls Tryz.prog 129 #[.slice A xs.length c, .int .i64 (a : Int)] w fun e w' => e = .returned (.tuple #[.int .i64 (rnumR xs a).1, .int .i64 (rnumR xs a).2.1, .int .i64 (rnumR xs a).2.2]) ∧ Drawn0 w w' := by
  refine icehouseref01_number.calls 9 A c xs (a : Int) _ _ _ w hC hc ?_
  have hd := rnumber_dn xs hb hl a 8 9 0 0 (by omega) (by omega) (by omega) (by omega) (by simp)
  rw [Nat.add_zero] at hd
  exact hd
set_option maxHeartbeats 2000000 in
set_option maxRecDepth 100000 in
theorem rnumber_x (N b : Nat) (w : World) (A : Option Addr) (c : Nat) (xs : List Int) (a : Nat) (ys : List Int) (er : Int) (h : RDx w N b A c xs a ys er) :
    Calls Tryz.prog 110 #[.pointer (some ⟨b, 0, none⟩)] w fun e w' => e = .returned (.int .i64 (stepD ys er).1) ∧ (∃ a' : Nat, RDx w' N b A c xs a' (stepD ys er).2.1 (stepD ys er).2.2 ∧ ((stepD ys er).2.2 ≠ 0 → a' = a)) ∧ Fr (fun k => k = b) w w' := by
  have HH := Aside0.mk h
  obtain ⟨hblk, hc, hC, hne, hys, ha, hbyt, hl, hN⟩ := h
  have c0 := blk_cell hblk 0
  have c1 := blk_cell hblk 1
  have c2 := blk_cell hblk 2
  have f1 := blk_frozen hblk 1
  have f2 := blk_frozen hblk 2
  simp at c0 c1 c2
  have HBK := Aside0.mk hblk
  by_cases he : er = 0
  · have HD := Aside0.mk (show stepD ys er = ((dn 8 ys 0 0).1, ys.drop (dn 8 ys 0 0).2.1.toNat, (dn 8 ys 0 0).2.2) from by unfold stepD; rw [if_pos he])
    subst he
    have hr := fun W (hb : Below w.heap.size w W) => rnum_calls A c xs a W (Kd.C_below hC hb) hc hbyt hl ha
    have HFX := Aside0.mk (show rnumR xs a = fixR a (dn 8 ys 0 0) from by rw [hys]; rfl)
    have hdb := dn_bd 8 ys 0 0
    obtain ⟨d, hd⟩ : ∃ d, d = dn 8 ys 0 0 := ⟨_, rfl⟩
    have HDE := Aside0.mk hd
    rw [← hd] at HD HFX hdb
    have HDB := Aside0.mk hdb
    obtain ⟨n, hn⟩ : ∃ n, n = xs.length := ⟨_, rfl⟩
    obtain ⟨q, hq⟩ : ∃ q, q = rnumR xs a := ⟨_, rfl⟩
    rw [← hn, ← hq] at hr
    rw [← hn] at c0 hblk
    have HQ := Aside0.mk hq
    have HN := Aside0.mk hn
    have HR := Aside0.mk hr
    have HF := Aside0.mk (And.intro hc (And.intro hC (And.intro hne (And.intro hys (And.intro ha (And.intro hbyt (And.intro hl hN)))))))
    have HCE : Aside0 (w.cell? ⟨b, 0, none⟩ = some (.slice A n c) ∧ w.cell? ⟨b, 1, none⟩ = some (.int .i64 (a : Int))) := ⟨c0, c1⟩
    clear hblk hc hC hne hys ha hbyt hl hN hd hn hq hr hdb
    go_enter Tryz.func110, Tryz.ntmps110
    go_upto_region 3 with fail
    have HB0 : Aside0 (Below w.heap.size w w.drew) := ⟨below_drew (Below.refl _ _)⟩
    refine start_ (S := fun W => W.cell? ⟨b, 0, none⟩ = some (.slice A n c) ∧ W.cell? ⟨b, 1, none⟩ = some (.int .i64 (a : Int))) (ds := []) #[false, false, false, false, false, false, false, false, false, false, false, false, false, false, false, false] (by kernel_rfl) rfl rfl HCE.out (fun hHeld => ?_)
    refine pure_ (i := 0) (N := some 12) #[true, false, false, false, false, false, false, false, false, false, false, false, false, false, false, false] rfl rfl (by kernel_rfl) (fun _ _ _ h => h) (.inl ⟨by rfl, by (intro w; go_simp <;> with_reducible rfl)⟩) rfl ?_
    (try simp only [Act.put, List.setIfInBounds_toArray, List.set_cons_zero, List.set_cons_succ])
    refine pure_ (i := 1) (N := some 13) #[true, true, false, false, false, false, false, false, false, false, false, false, false, false, false, false] rfl rfl (by kernel_rfl) (fun _ _ _ h => h) (.inl ⟨by rfl, by (intro w; go_simp <;> with_reducible rfl)⟩) rfl ?_
    (try simp only [Act.put, List.setIfInBounds_toArray, List.set_cons_zero, List.set_cons_succ])
    refine pure_ (i := 2) (N := some 14) #[true, true, true, false, false, false, false, false, false, false, false, false, false, false, false, false] rfl rfl (by kernel_rfl) (fun _ _ _ h => h) (.inl ⟨by rfl, by (intro w; go_simp <;> with_reducible rfl)⟩) rfl ?_
    (try simp only [Act.put, List.setIfInBounds_toArray, List.set_cons_zero, List.set_cons_succ])
    refine pure_ (i := 4) (N := some 16) #[true, true, true, false, true, false, false, false, false, false, false, false, false, false, false, false] rfl rfl (by kernel_rfl) (fun _ _ _ h => h) (.inl ⟨by rfl, by (intro w; go_simp <;> with_reducible rfl)⟩) rfl ?_
    (try simp only [Act.put, List.setIfInBounds_toArray, List.set_cons_zero, List.set_cons_succ])
    refine pure_ (i := 5) (N := some 17) #[true, true, true, false, true, true, false, false, false, false, false, false, false, false, false, false] rfl rfl (by kernel_rfl) (fun _ _ _ h => h) (.inl ⟨by rfl, by (intro w; go_simp <;> with_reducible rfl)⟩) rfl ?_
    (try simp only [Act.put, List.setIfInBounds_toArray, List.set_cons_zero, List.set_cons_succ])
    refine pure_ (i := 6) (N := some 18) #[true, true, true, false, true, true, true, false, false, false, false, false, false, false, false, false] rfl rfl (by kernel_rfl) (fun _ _ _ h => h) (.inl ⟨by rfl, by (intro w; go_simp <;> with_reducible rfl)⟩) rfl ?_
    (try simp only [Act.put, List.setIfInBounds_toArray, List.set_cons_zero, List.set_cons_succ])
    refine take_ (i := 3) (N := some 15) #[true, true, true, true, true, true, true, false, false, false, false, false, false, false, false, false] rfl rfl (by kernel_rfl) (fun _ _ _ h => h) (.inl ⟨by rfl, by (intro w hSw; (try dsimp only at hSw); go_simp <;> with_reducible rfl)⟩) hHeld rfl ?_
    (try simp only [Act.put, List.setIfInBounds_toArray, List.set_cons_zero, List.set_cons_succ])
    refine take_ (i := 7) (N := some 19) #[true, true, true, true, true, true, true, true, false, false, false, false, false, false, false, false] rfl rfl (by kernel_rfl) (fun _ _ _ h => h) (.inl ⟨by rfl, by (intro w hSw; (try dsimp only at hSw); go_simp <;> with_reducible rfl)⟩) hHeld rfl ?_
    (try simp only [Act.put, List.setIfInBounds_toArray, List.set_cons_zero, List.set_cons_succ])
    refine one_ (i := 8) (N := some 20) #[true, true, true, true, true, true, true, true, true, false, false, false, false, false, false, false] rfl rfl (by kernel_rfl) (by simp) (fun K hK => ?_)
    refine goes_ Tryz.func129 (by kernel_rfl) rfl #[.slice A n c, .int .i64 (a : Int)] (by rfl) rfl rfl (by simp only [List.map_toArray, List.map_cons, List.map_nil]; rfl) ?_
    with_reducible refine (HR.out _ HB0.out).mono ?_
    rintro e wn ⟨rfl, ⟨nd, hwn⟩⟩
    refine ⟨_, rfl, ?_⟩
    have HWN : Aside0 (wn = w.drew.drewN nd) := ⟨hwn⟩
    clear hwn
    refine hK.out _ _ ⟨by rw [HWN.out]; exact HCE.out.1, by rw [HWN.out]; exact HCE.out.2⟩ (fun hHeld => ?_)
    clear hK K
    refine norm_ (a' := ?_) ?_ ?_
    rotate_left
    · show Act.put _ (some 20) _ = _
      simp only [Act.put, List.setIfInBounds_toArray, List.set_cons_zero, List.set_cons_succ]
      rfl
    refine pure_ (i := 9) (N := some 11) #[true, true, true, true, true, true, true, true, true, true, false, false, false, false, false, false] rfl rfl (by kernel_rfl) (fun _ _ _ h => h) (.inl ⟨by rfl, by (intro w; go_simp <;> with_reducible rfl)⟩) rfl ?_
    (try simp only [Act.put, List.setIfInBounds_toArray, List.set_cons_zero, List.set_cons_succ])
    refine pure_ (i := 10) (N := some 21) #[true, true, true, true, true, true, true, true, true, true, true, false, false, false, false, false] rfl rfl (by kernel_rfl) (fun _ _ _ h => h) (.inl ⟨by rfl, by (intro w; go_simp <;> with_reducible rfl)⟩) rfl ?_
    (try simp only [Act.put, List.setIfInBounds_toArray, List.set_cons_zero, List.set_cons_succ])
    refine pure_ (i := 11) (N := some 22) #[true, true, true, true, true, true, true, true, true, true, true, true, false, false, false, false] rfl rfl (by kernel_rfl) (fun _ _ _ h => h) (.inl ⟨by rfl, by (intro w; go_simp <;> with_reducible rfl)⟩) rfl ?_
    (try simp only [Act.put, List.setIfInBounds_toArray, List.set_cons_zero, List.set_cons_succ])
    refine pure_ (i := 12) (N := some 23) #[true, true, true, true, true, true, true, true, true, true, true, true, true, false, false, false] rfl rfl (by kernel_rfl) (fun _ _ _ h => h) (.inl ⟨by rfl, by (intro w; go_simp <;> with_reducible rfl)⟩) rfl ?_
    (try simp only [Act.put, List.setIfInBounds_toArray, List.set_cons_zero, List.set_cons_succ])
    refine pure_ (i := 13) (N := some 3) #[true, true, true, true, true, true, true, true, true, true, true, true, true, true, false, false] rfl rfl (by kernel_rfl) (fun _ _ _ h => h) (.inl ⟨by rfl, by (intro w; go_simp <;> with_reducible rfl)⟩) rfl ?_
    (try simp only [Act.put, List.setIfInBounds_toArray, List.set_cons_zero, List.set_cons_succ])
    refine pure_ (i := 14) (N := some 4) #[true, true, true, true, true, true, true, true, true, true, true, true, true, true, true, false] rfl rfl (by kernel_rfl) (fun _ _ _ h => h) (.inl ⟨by rfl, by (intro w; go_simp <;> with_reducible rfl)⟩) rfl ?_
    (try simp only [Act.put, List.setIfInBounds_toArray, List.set_cons_zero, List.set_cons_succ])
    refine pure_ (i := 15) (N := some 5) #[true, true, true, true, true, true, true, true, true, true, true, true, true, true, true, true] rfl rfl (by kernel_rfl) (fun _ _ _ h => h) (.inl ⟨by rfl, by (intro w; go_simp <;> with_reducible rfl)⟩) rfl ?_
    (try simp only [Act.put, List.setIfInBounds_toArray, List.set_cons_zero, List.set_cons_succ])
    refine done_ (by kernel_rfl) ?_
    obtain ⟨q1, q2, q3⟩ := q
    simp only at HQ ⊢
    by_cases h3 : q3 = 0
    · have hd3 : d.2.2 = 0 := by
        have h1 := HQ.out
        rw [HFX.out] at h1
        unfold fixR at h1
        by_cases h2 : d.2.2 = 0
        · exact h2
        · rw [if_neg h2] at h1; cases h1; exact h3
      have hqv : q1 = d.1 ∧ q2 = (a : Int) + d.2.1 := by
        have h1 := HQ.out
        rw [HFX.out] at h1
        unfold fixR at h1
        rw [if_pos hd3] at h1
        cases h1; exact ⟨rfl, rfl⟩
      have HQV := Aside0.mk hqv
      have HD3 := Aside0.mk hd3
      subst h3
      clear hqv hd3
      have g1 : wn.cell? ⟨b, 1, none⟩ = some (.int .i64 (a : Int)) := by rw [HWN.out]; exact c1
      have gf : wn.frozen? ⟨b, 1, none⟩ = false := by rw [HWN.out]; exact f1
      clear c0 c1 c2 f1 f2
      go_wp2
      go_ret
      have hb2 : wn.heap[b]? = some (.cells #[.slice A xs.length c, .int .i64 (a : Int), .int .i64 0] 139 (0, 0)) := by rw [HWN.out]; exact HBK.out
      have hfr : Fr (fun k => k = b) w (wn.setCell ⟨b, 1, none⟩ (.int .i64 q2)) := Fr.setCell (S := fun k => k = b) (by rw [HWN.out]; exact ((Fr.refl _ w).drew).drewN _) (.inl rfl) _
      obtain ⟨hc, hC, hne, hys, ha, hbyt, hl, hN⟩ := HF.out
      have hdb := HDB.out
      rw [hys, List.length_drop] at hdb
      refine ⟨by rw [HD.out, HQV.out.1]; rfl, ?_, hfr⟩
      rw [HD.out]
      refine ⟨a + d.2.1.toNat, ⟨?_, hc, hfr.C hC (fun ad e hp => hne ad e hp), hne, ?_, by omega, hbyt, hl, hN⟩, fun hz => absurd HD3.out hz⟩
      · have hp := blk_put hb2 1 (.int .i64 q2) rfl
        rw [HQV.out.2] at hp ⊢
        rw [HD3.out]
        have e : ((a + d.2.1.toNat : Nat) : Int) = (a : Int) + d.2.1 := by omega
        rw [e]
        simpa using hp
      · show ys.drop d.2.1.toNat = _
        rw [hys, List.drop_drop]
    · have hd3 : d.2.2 = q3 ∧ q1 = 0 ∧ ¬ d.2.2 = 0 := by
        have h1 := HQ.out
        rw [HFX.out] at h1
        unfold fixR at h1
        by_cases h2 : d.2.2 = 0
        · rw [if_pos h2] at h1; cases h1; exact absurd rfl h3
        · rw [if_neg h2] at h1; cases h1; exact ⟨rfl, rfl, h2⟩
      have HD3 := Aside0.mk hd3
      have hz : d.1 = 0 ∧ d.2.1 = 0 := dn_zero 8 ys 0 0 d HDE.out (HD3.out.2.2)
      have HZ := Aside0.mk hz
      have n1 : (q3 != 0) = true := by simpa using h3
      have n2 : (q3 == 0) = false := by simpa using h3
      clear hd3 hz h3
      have g1 : wn.cell? ⟨b, 2, none⟩ = some (.int .i64 0) := by rw [HWN.out]; exact c2
      have gf : wn.frozen? ⟨b, 2, none⟩ = false := by rw [HWN.out]; exact f2
      clear c0 c1 c2 f1 f2
      go_wp2
      go_ret
      have hb2 : wn.heap[b]? = some (.cells #[.slice A xs.length c, .int .i64 (a : Int), .int .i64 0] 139 (0, 0)) := by rw [HWN.out]; exact HBK.out
      have hfr : Fr (fun k => k = b) w (wn.setCell ⟨b, 2, none⟩ (.int .i64 q3)) := Fr.setCell (S := fun k => k = b) (by rw [HWN.out]; exact ((Fr.refl _ w).drew).drewN _) (.inl rfl) _
      obtain ⟨hc, hC, hne, hys, ha, hbyt, hl, hN⟩ := HF.out
      refine ⟨by rw [HD.out]; simp only [HZ.out.1]; rfl, ?_, hfr⟩
      rw [HD.out]
      refine ⟨a, ⟨?_, hc, hfr.C hC (fun ad e hp => hne ad e hp), hne, ?_, ha, hbyt, hl, hN⟩, fun _ => rfl⟩
      · have hp := blk_put hb2 2 (.int .i64 q3) rfl
        rw [HD3.out.1]
        simpa using hp
      · show ys.drop d.2.1.toNat = _
        rw [HZ.out.2]; exact hys
  · have HD := Aside0.mk (show stepD ys er = (0, ys, er) from by unfold stepD; rw [if_neg he])
    have hen : (er != 0) = true := by simpa using he
    have hen2 : (er == 0) = false := by simpa using he
    clear he hblk hC hne hN
    go_enter Tryz.func110, Tryz.ntmps110
    go_wp2
    go_ret
    exact ⟨by rw [HD.out]; rfl, by rw [HD.out]; exact ⟨a, HH.out, fun _ => rfl⟩, Fr.refl _ _⟩
theorem rnumber_any (N b : Nat) (w : World) (ys : List Int) (er : Int) (h : RDec w N b ys er) :
    Calls Tryz.prog 110 #[.pointer (some ⟨b, 0, none⟩)] w fun e w' => e = .returned (.int .i64 (stepD ys er).1) ∧ RDec w' N b (stepD ys er).2.1 (stepD ys er).2.2 ∧ Fr (fun k => k = b) w w' := by
  obtain ⟨A, c, xs, a, h⟩ := h
  refine (rnumber_x N b w A c xs a ys er h).mono ?_
  rintro e w' ⟨he, ⟨a', hx, _⟩, hf⟩
  exact ⟨he, ⟨A, c, xs, a', hx⟩, hf⟩
theorem RDec.below {w w' : World} {N b : Nat} {ys : List Int} {er : Int} (h : RDec w N b ys er) (hb : Below N w w') : RDec w' N b ys er := by
  obtain ⟨A, c, xs, a, hblk, hc, hC, hne, hys, ha, hbyt, hl, hbN, hAN⟩ := h
  refine ⟨A, c, xs, a, (hb.block b hbN).trans hblk, hc, ?_, hne, hys, ha, hbyt, hl, hbN, hAN⟩
  refine Kd.C_of_reads (d := (0 : Int)) ?_
  obtain ⟨h1, h2, h3⟩ := Kd.reads_of_C (d := (0 : Int)) hC
  refine ⟨h1, h2, fun hp => ?_⟩
  obtain ⟨ad, e, hcell⟩ := h3 hp
  refine ⟨ad, e, fun j hj => ?_⟩
  have hlt : (ad.add j).block < N := by
    have hb : (ad.add j).block = ad.block := by unfold Addr.add; split <;> rfl
    rw [hb]
    exact hAN ad e hp
  exact (hb.cell hlt).trans (hcell j hj)
def doneV (ys : List Int) (er : Int) : Int := if er = 0 then (if 0 < ys.length then 21 else 0) else er
set_option maxHeartbeats 1000000 in
theorem rleft_any (N b : Nat) (w : World) (ys : List Int) (er : Int) (h : RDec w N b ys er) :
    Calls Tryz.prog 112 #[.pointer (some ⟨b, 0, none⟩)] w fun e w' => e = .returned (.int .i64 (ys.length : Int)) ∧ ∃ n, w' = w.drewN n := by
  obtain ⟨A, c, xs, a, hblk, hc, hC, hne, hys, ha, hbyt, hl, hN⟩ := h
  have c0 := blk_cell hblk 0
  have c1 := blk_cell hblk 1
  simp at c0 c1
  obtain ⟨n, hn⟩ : ∃ n, n = xs.length := ⟨_, rfl⟩
  have HL : Aside0 ((ys.length : Int) = wrap64 ((n : Int) - (a : Int))) := ⟨by rw [hys, List.length_drop, hn, Go.IntWalk.wrap64_in _ (by omega)]; omega⟩
  have e1 : IntKind.i64.wrap ((n : Int) - (a : Int)) = ((n - a : Nat) : Int) := by rw [i64_w, Go.IntWalk.wrap64_in _ (by omega)]; omega
  have HE : Aside0 (((n - a : Nat) : Int) = (ys.length : Int)) := ⟨by rw [hys, List.length_drop, hn]⟩
  rw [← hn] at c0
  clear hblk hc hC hne hys hbyt hN hn ha hl
  go_enter Tryz.func112, Tryz.ntmps112
  go_wp2
  go_quiet (fail)
  go_wp2
  go_ret
  exact ⟨by first | (rw [← HE.out]; rfl) | (rw [HL.out]; rfl), _, rfl⟩
theorem rdone_any (N b : Nat) (w : World) (ys : List Int) (er : Int) (h : RDec w N b ys er) :
    Calls Tryz.prog 83 #[.pointer (some ⟨b, 0, none⟩)] w fun e w' => e = .returned (.int .i64 (doneV ys er)) ∧ ∃ n, w' = w.drewN n := by
  have hle := rleft_any N b w ys er h
  obtain ⟨A, c, xs, a, hblk, hc, hC, hne, hys, ha, hbyt, hl, hN⟩ := h
  have c2 := blk_cell hblk 2
  simp at c2
  clear hblk hc hC hne hys hbyt hN ha hl
  by_cases he : er = 0
  · have HD : Aside0 (doneV ys er = if 0 < ys.length then 21 else 0) := ⟨by unfold doneV; rw [if_pos he]⟩
    obtain ⟨m, hm⟩ : ∃ m, m = ys.length := ⟨_, rfl⟩
    rw [← hm] at hle HD
    have e1 : (er == 0) = true := by simpa using he
    have HE := Aside0.mk he
    clear hm he
    by_cases hm0 : 0 < m
    · have h1 : decide (0 < m) = true := decide_eq_true hm0
      have h2 : decide ((0 : Int) < (m : Int)) = true := decide_eq_true (by omega)
      have HD2 : Aside0 (doneV ys er = 21) := ⟨by rw [HD.out, if_pos hm0]⟩
      go_enter Tryz.func83, Tryz.ntmps83
      go_wp2_with fail
      refine hle.mono ?_
      rintro e w1 ⟨rfl, n, rfl⟩
      clear hle
      go_wp2
      go_ret
      exact ⟨by rw [HD2.out]; rfl, n, rfl⟩
    · have h1 : decide (0 < m) = false := decide_eq_false hm0
      have h2 : decide ((0 : Int) < (m : Int)) = false := decide_eq_false (by omega)
      have HD2 : Aside0 (doneV ys er = er) := ⟨by rw [HD.out, if_neg hm0, HE.out]⟩
      go_enter Tryz.func83, Tryz.ntmps83
      go_wp2_with fail
      refine hle.mono ?_
      rintro e w1 ⟨rfl, n, rfl⟩
      clear hle
      go_wp2
      go_ret
      exact ⟨by rw [HD2.out]; rfl, n, rfl⟩
  · have HD : Aside0 (doneV ys er = er) := ⟨by unfold doneV; rw [if_neg he]⟩
    have e1 : (er == 0) = false := by simpa using he
    clear he hle
    go_enter Tryz.func83, Tryz.ntmps83
    go_wp2
    go_ret
    exact ⟨by rw [HD.out]; rfl, 0, rfl⟩
set_option maxHeartbeats 1000000 in
theorem rnew_any (A : Option Addr) (c : Nat) (xs : List Int) (w : World) (hC : (Kd.int .u8).C w A xs.length xs) (hc : xs.length ≤ c) (hl : xs.length ≤ 140737488351232) (hb : Byts xs) :
    Calls Tryz.prog 81 #[.slice A xs.length c] w fun e w' => ∃ b, e = .returned (.pointer (some ⟨b, 0, none⟩)) ∧ RDec w' w'.heap.size b xs 0 ∧ w.heap.size ≤ b ∧ Below w.heap.size w w' := by
  obtain ⟨n, hn⟩ : ∃ n, n = xs.length := ⟨_, rfl⟩
  rw [← hn] at hC hc ⊢
  have HC := Aside0.mk hC
  have HN := Aside0.mk hn
  have HL := Aside0.mk hl
  have HBY := Aside0.mk hb
  clear hn hb hl hC
  go_enter Tryz.func81, Tryz.ntmps81
  go_wp2_with (first
    | ((with_reducible refine gate_dst (N := 3) rfl ?_); refine Kd.R_lit (Kd.int .u8) _ 5 ?hg (N := 3) ?hd (xs := ([] : List Int)) (inner := []) (ok := fun _ => True) (okp := fun _ => True) ?hr ?hp (fun _ hk => hk) trivial (Below.refl _ _) (Nat.le_refl _) (by simp) ?_; (case hd => rfl); (case hg => rfl); (case hr => first | (go_simp; done) | (go_simp; rfl)); (case hp => exact (Reps.none _ _)); intro v1 w1 ho hb hg hat; have HO1 := Aside0.mk ho; have HB1 := Aside0.mk hb; clear ho hb hg hat)
    | ((with_reducible refine gate_builtin (b := .append) (xs := #[.tmp 3, .tmp 4]) rfl ?_); at_builtin; refine Kd.R_append_rows (Kd.int .u8) (w0 := w) w.heap.size rfl (.tmp 3) (.tmp 4) 48 5 (.int .u8 0) 1 rfl Tryz.underlying48 info5 rfl (by decide) (by omega) v1 [] xs A n c (fun _ => True) (fun _ => False) rfl rfl ?aO ?aR (fun _ _ h => h) (fun _ h => h.elim) ?aF ?aB ?aS ?aL ?_; (case aR => exact (Kd.C_below HC.out HB1.out)); (case aO => exact HO1.out); (case aF => exact (fun _ _ => trivial)); (case aB => exact HB1.out); (case aS => exact HB1.out.size); (case aL => have := HL.out; have := HN.out; simp; omega); intro v2 w2 ho hb hg hat; obtain ⟨A2, c2, rfl, hc2⟩ := OwnRow.slice_ ho.2; have HO2 := Aside0.mk ho; have HB2 := Aside0.mk hb; have HX2 := Aside0.mk hc2; clear ho hb hg hat hc2))
  go_ret
  have hO := HO2.out
  have hX := HX2.out
  rw [List.nil_append] at hO hX
  have hCx := (Kd.R_reads' hO).2.2
  have hlt : ∀ ad, A2 = some ad → 0 < xs.length → ad.block < w2.heap.size := fun ad e _ => by subst e; exact ((Kd.R_bound hO).1 ad.block rfl).2.2.1
  refine ⟨w2.heap.size, rfl, ⟨A2, c2, xs, 0, ?_, hX, Kd.C_alloc hCx _, fun ad e hp => by have := hlt ad e hp; omega, by simp, Nat.zero_le _, HBY.out, by have := HL.out; omega, ?_, fun ad e hp => ?_⟩, HB2.out.size, below_alloc HB2.out _⟩
  · exact blk_new _ _
  · rw [World.size_alloc]; omega
  · rw [World.size_alloc]; have := hlt ad e hp; omega
end Go.Proofs.YtgafnjgiikdofaaGreatDoor.Xr
