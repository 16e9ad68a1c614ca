/- The sum CRC-32C, as plain Lean: by bits and by nibbles it is the same; one byte that is another one makes another sum. -/
import Derived.Test.YtpgcbdopnkbmhaaDoorA2
namespace Go.Proofs.YtpgcbdopnkbmhaaDoor.Cr
set_option linter.unusedVariables false
open Go.RowKit Go.Proofs.YtpgcbdopnkbmhaaDoorW.PrintWords Go.Proofs.YtpgcbdopnkbmhaaDoorW.PrintLast Go.Proofs.YtpgcbdopnkbmhaaDoorW.PrintMore
open Go.Proofs.YtpgcbdopnkbmhaaDoor.A
abbrev poly : BitVec 32 := 2197175160#32
/-- one step of the register -/
def st (d : BitVec 32) : BitVec 32 := (d >>> 1) ^^^ (if d.getLsbD 0 then poly else 0#32)
theorem st_xor (a b : BitVec 32) : st (a ^^^ b) = st a ^^^ st b := by
  unfold st
  rw [BitVec.ushiftRight_xor_distrib, BitVec.getLsbD_xor]
  apply BitVec.eq_of_getLsbD_eq
  intro i hi
  cases a.getLsbD 0 <;> cases b.getLsbD 0 <;> simp only [BitVec.getLsbD_xor, Bool.xor_false, Bool.xor_true, Bool.not_true, Bool.not_false, if_true, Bool.false_eq_true, if_false] <;> cases (a >>> 1).getLsbD i <;> cases (b >>> 1).getLsbD i <;> cases poly.getLsbD i <;> simp
theorem st_inj (a b : BitVec 32) (h : st a = st b) : a = b := by
  have hx : st (a ^^^ b) = 0#32 := by rw [st_xor, h]; simp
  have hz : ∀ d : BitVec 32, st d = 0#32 → d = 0#32 := by
    intro d hd
    unfold st at hd
    have h31 := congrArg (fun x : BitVec 32 => x.getLsbD 31) hd
    cases hb : d.getLsbD 0 with
    | true =>
      rw [hb] at h31
      simp only [if_true, BitVec.getLsbD_xor, BitVec.getLsbD_ushiftRight] at h31
      rw [BitVec.getLsbD_of_ge d (1 + 31) (by omega), show poly.getLsbD 31 = true from by decide +kernel] at h31
      simp at h31
    | false =>
      rw [hb] at hd
      simp only [Bool.false_eq_true, if_false, BitVec.xor_zero] at hd
      apply BitVec.eq_of_getLsbD_eq
      intro i hi
      cases i with
      | zero => rw [hb]; simp
      | succ i =>
        have := congrArg (fun x : BitVec 32 => x.getLsbD i) hd
        simp at this
        rw [Nat.add_comm]
        simpa using this
  have := hz _ hx
  have h2 : a ^^^ b ^^^ b = 0#32 ^^^ b := by rw [this]
  simpa [BitVec.xor_assoc] using h2
/-- four steps -/
def st4 (d : BitVec 32) : BitVec 32 := st (st (st (st d)))
theorem st4_xor (a b : BitVec 32) : st4 (a ^^^ b) = st4 a ^^^ st4 b := by unfold st4; simp only [st_xor]
theorem st4_inj (a b : BitVec 32) (h : st4 a = st4 b) : a = b := st_inj _ _ (st_inj _ _ (st_inj _ _ (st_inj _ _ h)))
/-- a byte taken in -/
def byte (c : BitVec 32) (x : BitVec 32) : BitVec 32 := st4 (st4 (c ^^^ x))
theorem byte_inj_c (c d x : BitVec 32) (h : byte c x = byte d x) : c = d := by
  have := st4_inj _ _ (st4_inj _ _ h)
  have h2 : c ^^^ x ^^^ x = d ^^^ x ^^^ x := by rw [this]
  simpa [BitVec.xor_assoc] using h2
theorem byte_inj_x (c x y : BitVec 32) (h : byte c x = byte c y) : x = y := by
  have := st4_inj _ _ (st4_inj _ _ h)
  have h2 : c ^^^ (c ^^^ x) = c ^^^ (c ^^^ y) := by rw [this]
  simpa [← BitVec.xor_assoc] using h2
/-- the register behind a row of bytes -/
def reg (c : BitVec 32) (xs : List Int) : BitVec 32 := xs.foldl (fun c x => byte c (BitVec.ofInt 32 x)) c
theorem reg_inj : ∀ (xs : List Int) (c d : BitVec 32), reg c xs = reg d xs → c = d
  | [], c, d, h => h
  | x :: xs, c, d, h => byte_inj_c c d _ (reg_inj xs _ _ h)
theorem reg_app (c : BitVec 32) (xs ys : List Int) : reg c (xs ++ ys) = reg (reg c xs) ys := List.foldl_append
/-- the sum -/
def crc (xs : List Int) : Int := ((reg 0xffffffff#32 xs ^^^ 0xffffffff#32).toNat : Int)
theorem crc_one (pre post : List Int) (x y : Int) (hx : 0 ≤ x ∧ x < 256) (hy : 0 ≤ y ∧ y < 256) (hne : x ≠ y) : crc (pre ++ x :: post) ≠ crc (pre ++ y :: post) := by
  intro h
  unfold crc at h
  have h1 : reg 0xffffffff#32 (pre ++ x :: post) ^^^ 0xffffffff#32 = reg 0xffffffff#32 (pre ++ y :: post) ^^^ 0xffffffff#32 := BitVec.eq_of_toNat_eq (by omega)
  have h2 : reg 0xffffffff#32 (pre ++ x :: post) ^^^ 0xffffffff#32 ^^^ 0xffffffff#32 = reg 0xffffffff#32 (pre ++ y :: post) ^^^ 0xffffffff#32 ^^^ 0xffffffff#32 := by rw [h1]
  rw [BitVec.xor_assoc, BitVec.xor_assoc, BitVec.xor_self, BitVec.xor_zero, BitVec.xor_zero, reg_app, reg_app] at h2
  have h3 := byte_inj_x _ _ _ (reg_inj post _ _ h2)
  have h4 := congrArg BitVec.toNat h3
  simp only [BitVec.toNat_ofInt] at h4
  omega
theorem crc_range (xs : List Int) : 0 ≤ crc xs ∧ crc xs < 4294967296 := by
  unfold crc
  have := (reg 0xffffffff#32 xs ^^^ 0xffffffff#32).isLt
  omega
/-! The machine's numbers -/
/-- a number as a register's -/
def I (b : BitVec 32) : Int := (b.toNat : Int)
theorem I_range (b : BitVec 32) : 0 ≤ I b ∧ I b < 4294967296 := by unfold I; have := b.isLt; omega
theorem wrap_u32 (n : Int) : IntKind.u32.wrap n = n % 4294967296 := by simp [IntKind.wrap, IntKind.bits, IntKind.signed]
theorem ofInt_I (b : BitVec 32) : BitVec.ofInt 32 (I b) = b := by unfold I; simp
theorem xor_I (a b : BitVec 32) : Go.bits .xor .u32 (I a) (I b) = I (a ^^^ b) := by
  simp only [Go.bits]
  rw [wrap_u32, show (BitVec.ofInt IntKind.u32.bits (I a)) = a from ofInt_I a, show (BitVec.ofInt IntKind.u32.bits (I b)) = b from ofInt_I b]
  have := (a ^^^ b).isLt
  show ((a ^^^ b).toNat : Int) % 4294967296 = ((a ^^^ b).toNat : Int)
  omega
theorem and_I (a b : BitVec 32) : Go.bits .and .u32 (I a) (I b) = I (a &&& b) := by
  simp only [Go.bits]
  rw [wrap_u32, show (BitVec.ofInt IntKind.u32.bits (I a)) = a from ofInt_I a, show (BitVec.ofInt IntKind.u32.bits (I b)) = b from ofInt_I b]
  have := (a &&& b).isLt
  show ((a &&& b).toNat : Int) % 4294967296 = ((a &&& b).toNat : Int)
  omega
theorem shr_I (a : BitVec 32) (k : Nat) : I a / (2 : Int) ^ k = I (a >>> k) := by
  unfold I
  rw [BitVec.toNat_ushiftRight, Nat.shiftRight_eq_div_pow]
  simp
theorem I_of (x : Int) (h0 : 0 ≤ x) (h1 : x < 4294967296) : x = I (BitVec.ofInt 32 x) := by
  unfold I
  rw [BitVec.toNat_ofInt]
  omega
/-- the table -/
def tab : List Int := [0, 274646895, 549293790, 820201905, 1098587580, 1361435347, 1640403810, 1905808397, 2197175160, 2460548119, 2722870694, 2987750089, 3280807620, 3553878443, 3811616794, 4084100981]
theorem tab_st4 : ∀ i : Fin 16, st4 (BitVec.ofNat 32 i.val) = BitVec.ofInt 32 (tab.getD i.val 0) := by decide +kernel
/-- four steps are a shift and a look into the table -/
theorem st_high (d : BitVec 32) (h : d.getLsbD 0 = false) : st d = d >>> 1 := by unfold st; rw [h]; simp
theorem st4_split (d : BitVec 32) : st4 d = (d >>> 4) ^^^ st4 (d &&& 15#32) := by
  have h1 : d = (d &&& 0xfffffff0#32) ^^^ (d &&& 15#32) := by
    apply BitVec.eq_of_getLsbD_eq
    intro i hi
    simp only [BitVec.getLsbD_xor, BitVec.getLsbD_and]
    have : (0xfffffff0#32).getLsbD i = !(15#32).getLsbD i := by
      have : ∀ j : Fin 32, (0xfffffff0#32).getLsbD j.val = !(15#32).getLsbD j.val := by decide +kernel
      exact this ⟨i, hi⟩
    rw [this]
    cases d.getLsbD i <;> cases (15#32).getLsbD i <;> rfl
  have h2 : st4 (d &&& 0xfffffff0#32) = d >>> 4 := by
    have g : ∀ k < 4, (d &&& 0xfffffff0#32).getLsbD k = false := by
      intro k hk
      rw [BitVec.getLsbD_and]
      have : ∀ j : Fin 4, (0xfffffff0#32).getLsbD j.val = false := by decide +kernel
      rw [this ⟨k, hk⟩]; simp
    unfold st4
    have a1 := st_high (d &&& 0xfffffff0#32) (g 0 (by omega))
    have a2 := st_high ((d &&& 0xfffffff0#32) >>> 1) (by rw [BitVec.getLsbD_ushiftRight]; exact g 1 (by omega))
    have a3 := st_high ((d &&& 0xfffffff0#32) >>> 1 >>> 1) (by rw [BitVec.getLsbD_ushiftRight, BitVec.getLsbD_ushiftRight]; exact g 2 (by omega))
    have a4 := st_high ((d &&& 0xfffffff0#32) >>> 1 >>> 1 >>> 1) (by rw [BitVec.getLsbD_ushiftRight, BitVec.getLsbD_ushiftRight, BitVec.getLsbD_ushiftRight]; exact g 3 (by omega))
    rw [a1, a2, a3, a4]
    apply BitVec.eq_of_getLsbD_eq
    intro i hi
    simp only [BitVec.getLsbD_ushiftRight, BitVec.getLsbD_and]
    by_cases hl : i < 28
    · have : ∀ j : Fin 28, (0xfffffff0#32).getLsbD (1 + (1 + (1 + (1 + j.val)))) = true := by decide +kernel
      rw [this ⟨i, hl⟩, show 1 + (1 + (1 + (1 + i))) = 4 + i from by omega]; simp
    · rw [BitVec.getLsbD_of_ge d (4 + i) (by omega), BitVec.getLsbD_of_ge d (1 + (1 + (1 + (1 + i)))) (by omega)]; simp
  conv => lhs; rw [h1]
  rw [st4_xor, h2]
theorem and15_lt (d : BitVec 32) : (d &&& 15#32).toNat < 16 := by
  rw [BitVec.toNat_and]
  exact Nat.lt_of_le_of_lt Nat.and_le_right (by decide)
theorem st4_tab (d : BitVec 32) : st4 d = (d >>> 4) ^^^ BitVec.ofInt 32 (tab.getD (d &&& 15#32).toNat 0) := by
  rw [st4_split]
  have h := tab_st4 ⟨(d &&& 15#32).toNat, and15_lt d⟩
  simp only at h
  rw [← h]
  simp
/-- a byte is below 256 -/
theorem shr8 (x : BitVec 32) (h : x.toNat < 256) : x >>> 8 = 0#32 := by
  apply BitVec.eq_of_toNat_eq
  rw [BitVec.toNat_ushiftRight, Nat.shiftRight_eq_div_pow]
  simp
  omega
/-- what the program does with a byte -/
def half (c y : BitVec 32) : BitVec 32 := (c >>> 4) ^^^ BitVec.ofInt 32 (tab.getD ((c ^^^ y) &&& 15#32).toNat 0)
theorem half_st4 (c y : BitVec 32) : half c y ^^^ (y >>> 4) = st4 (c ^^^ y) := by
  rw [st4_tab, BitVec.ushiftRight_xor_distrib]
  unfold half
  rw [BitVec.xor_assoc, BitVec.xor_comm _ (y >>> 4), ← BitVec.xor_assoc]
theorem byte_is (c x : BitVec 32) (h : x.toNat < 256) : byte c x = half (half c x) (x >>> 4) := by
  unfold byte
  rw [← half_st4 c x, ← half_st4 (half c x) (x >>> 4)]
  have : x >>> 4 >>> 4 = 0#32 := by rw [← BitVec.shiftRight_add]; exact shr8 x h
  rw [this, BitVec.xor_zero]
/-- n steps -/
def stn : Nat → BitVec 32 → BitVec 32
  | 0, d => d
  | n + 1, d => st (stn n d)
theorem byte_stn (c x : BitVec 32) : byte c x = stn 8 (c ^^^ x) := rfl
theorem lsb_and (v : BitVec 32) : I (v &&& 1#32) = 1 ↔ v.getLsbD 0 = true := by
  have h : v &&& 1#32 = if v.getLsbD 0 then 1#32 else 0#32 := by
    apply BitVec.eq_of_getLsbD_eq
    intro i hi
    rw [BitVec.getLsbD_and]
    cases i with
    | zero => cases v.getLsbD 0 <;> simp
    | succ i =>
      have : (1#32).getLsbD (i + 1) = false := by simp
      rw [this]
      cases v.getLsbD 0 <;> simp
  rw [h]
  cases v.getLsbD 0 <;> simp [I]
/-- a step of the reference's -/
def rst (r x : BitVec 32) (k : Nat) : BitVec 32 := (r >>> 1) ^^^ (if (r ^^^ x >>> k).getLsbD 0 then poly else 0#32)
theorem rst_inv (r x d : BitVec 32) (k : Nat) (h : stn k d = r ^^^ x >>> k) : stn (k + 1) d = rst r x k ^^^ x >>> (k + 1) := by
  show st (stn k d) = _
  rw [h]
  unfold st rst
  rw [BitVec.ushiftRight_xor_distrib, BitVec.shiftRight_add]
  rw [BitVec.xor_assoc, BitVec.xor_assoc, BitVec.xor_comm (x >>> k >>> 1)]
theorem ref_in (xs : List Int) (i : Nat) (hi : i < xs.length) (x : BitVec 32) (hx : xs[i] = I x) (hl : xs.length < 9223372036854775807) (d : BitVec 32) : ∀ n (j : Nat) (r : BitVec 32) (k : Nat), j + n = 8 → stn j d = r ^^^ x >>> j →
    ∃ r', stn 8 d = r' ^^^ x >>> 8 ∧ icehouseref01_Sum.l1 (k + n + 1) xs (I r) i j = icehouseref01_Sum.l0 k xs (I r') (wrap64 (i + 1)) := by
  intro n
  induction n with
  | zero =>
    intro j r k hj h
    obtain rfl : j = 8 := by omega
    exact ⟨r, h, by simp only [icehouseref01_Sum.l1]; rw [if_neg (by omega)]⟩
  | succ n ih =>
    intro j r k hj h
    obtain ⟨r', h1, h2⟩ := ih (j + 1) (rst r x j) k (by omega) (rst_inv r x d j h)
    refine ⟨r', h1, ?_⟩
    rw [← h2]
    rw [show k + (n + 1) + 1 = (k + n + 1) + 1 from by omega]
    conv => lhs; rw [icehouseref01_Sum.l1]
    have hr : rd xs (i : Int) = I x := by rw [← hx]; simp [rd, hi]
    have hu : IntKind.u64.wrap (j : Int) = (j : Int) := by
      have : IntKind.u64.wrap (j : Int) = (j : Int) % 18446744073709551616 := by simp [IntKind.wrap, IntKind.bits, IntKind.signed]
      rw [this]; omega
    have hIx := I_range x
    have hw : wrap64 ((j : Int) + 1) = ((j + 1 : Nat) : Int) := by unfold wrap64; omega
    rw [if_pos (by omega), if_pos (by omega), if_pos (by omega), if_pos (by rw [hu]; omega), hr, hu, hw]
    have hs : shr .u32 (I x % 4294967296) (j : Int) = I (x >>> j) := by
      unfold shr
      rw [show I x % 4294967296 = I x by omega, ← shr_I]
      simp only [IntKind.bits]
      rw [show min (j : Int).toNat 32 = j from by omega]
    rw [hs, show (1 : Int) = I 1#32 from rfl, and_I, and_I, xor_I]
    have he : (r &&& 1#32) ^^^ (x >>> j &&& 1#32) = (r ^^^ x >>> j) &&& 1#32 := by
      apply BitVec.eq_of_getLsbD_eq
      intro q hq
      simp only [BitVec.getLsbD_xor, BitVec.getLsbD_and]
      cases (1#32).getLsbD q <;> simp
    rw [he]
    have h2' : I r / (2 : Int) = I (r >>> 1) := by have := shr_I r 1; simpa using this
    rw [h2', show (2197175160 : Int) = I poly from rfl, xor_I]
    by_cases hb : (r ^^^ x >>> j).getLsbD 0 = true
    · have e : rst r x j = r >>> 1 ^^^ poly := by unfold rst; rw [hb]; simp
      rw [e, if_pos (show I ((r ^^^ x >>> j) &&& 1#32) = I 1#32 from (lsb_and _).2 hb)]
    · have e : rst r x j = r >>> 1 := by unfold rst; rw [if_neg hb, BitVec.xor_zero]
      rw [e, if_neg (fun h' : I ((r ^^^ x >>> j) &&& 1#32) = I 1#32 => hb ((lsb_and _).1 h'))]
theorem ref_in8 (xs : List Int) (i : Nat) (hi : i < xs.length) (x : BitVec 32) (hx : xs[i] = I x) (hl : xs.length < 9223372036854775807) (r : BitVec 32) (k : Nat) :
    ∃ r', stn 8 (r ^^^ x) = r' ^^^ x >>> 8 ∧ icehouseref01_Sum.l1 (k + 9) xs (I r) i 0 = icehouseref01_Sum.l0 k xs (I r') (wrap64 (i + 1)) :=
  ref_in xs i hi x hx hl (r ^^^ x) 8 0 r k (by omega) (by simp [stn])
theorem ref_sum (xs : List Int) (hb : ∀ c ∈ xs, 0 ≤ c ∧ c < 256) (hl : xs.length < 9223372036854775807) : ∀ n (i : Nat) (r : BitVec 32) (k : Nat), i + n = xs.length → 10 * n < k →
    icehouseref01_Sum.l0 k xs (I r) i = some (I (reg r (xs.drop i) ^^^ 0xffffffff#32)) := by
  intro n
  induction n with
  | zero =>
    intro i r k hi hk
    obtain ⟨k, rfl⟩ : ∃ m, k = m + 1 := ⟨k - 1, by omega⟩
    simp only [icehouseref01_Sum.l0]
    rw [if_neg (by omega), List.drop_eq_nil_of_le (by omega), show (4294967295 : Int) = I 0xffffffff#32 from rfl, xor_I]; rfl
  | succ n ih =>
    intro i r k hi hk
    obtain ⟨k, rfl⟩ : ∃ m, k = m + 9 + 1 := ⟨k - 10, by omega⟩
    have hlt : i < xs.length := by omega
    have hbi := hb xs[i] (List.getElem_mem hlt)
    have hx := I_of xs[i] hbi.1 (by omega)
    have hxn : (BitVec.ofInt 32 xs[i]).toNat < 256 := by rw [BitVec.toNat_ofInt]; omega
    obtain ⟨r', h1, h2⟩ := ref_in8 xs i hlt _ hx hl r k
    conv => lhs; rw [icehouseref01_Sum.l0]
    rw [if_pos (by omega), h2, show wrap64 ((i : Int) + 1) = ((i + 1 : Nat) : Int) by unfold wrap64; omega]
    rw [ih (i + 1) r' k (by omega) (by omega)]
    rw [shr8 _ hxn, BitVec.xor_zero, ← byte_stn] at h1
    rw [List.drop_eq_getElem_cons hlt, ← h1]
    rfl
theorem ref_sum_is (xs : List Int) (hb : ∀ c ∈ xs, 0 ≤ c ∧ c < 256) (hl : xs.length < 9223372036854775807) : icehouseref01_Sum.f (10 * xs.length + 1) xs = some (crc xs) := by
  have h := ref_sum xs hb hl xs.length 0 0xffffffff#32 (10 * xs.length + 1) (by omega) (by omega)
  rw [List.drop_zero] at h
  exact h
end Go.Proofs.YtpgcbdopnkbmhaaDoor.Cr
