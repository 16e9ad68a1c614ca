/- Unframe of a frame with one byte that is another one: no frame of that length. -/
import Derived.Test.YtpgcbdopnkbmhaaDoorUf
namespace Go.Proofs.YtpgcbdopnkbmhaaDoor.Ur
set_option linter.unusedVariables false
open Go.RowKit Go.Proofs.YtpgcbdopnkbmhaaDoorW.PrintWords Go.Proofs.YtpgcbdopnkbmhaaDoorW.PrintLast Go.Proofs.YtpgcbdopnkbmhaaDoorW.PrintMore
open Go.Proofs.YtpgcbdopnkbmhaaDoor.A Go.Proofs.YtpgcbdopnkbmhaaDoor.Cn Go.Proofs.YtpgcbdopnkbmhaaDoor.Dn Go.Proofs.YtpgcbdopnkbmhaaDoor.Cr Go.Proofs.YtpgcbdopnkbmhaaDoor.Fr Go.Proofs.YtpgcbdopnkbmhaaDoor.Su Go.Proofs.YtpgcbdopnkbmhaaDoor.Le Go.Proofs.YtpgcbdopnkbmhaaDoor.Cc Go.Proofs.YtpgcbdopnkbmhaaDoor.Fm Go.Proofs.YtpgcbdopnkbmhaaDoor.Un Go.Proofs.YtpgcbdopnkbmhaaDoor.Uf
/-- what is read as a number was written as it -/
theorem dn_inv : ∀ f xs acc (i : Nat) (sz k : Int), Byts xs → dn (f + 1) xs acc i = (sz, k, 0) → ∃ m : Int, 0 ≤ m ∧ m < 128 ^ (f + 1) ∧ sz = acc + m * 128 ^ i ∧ k = (i : Int) + (enc f m).length ∧ (enc f m) <+: xs ∧ (0 < i → 0 < m) := by
  intro f
  induction f with
  | zero =>
    intro xs acc i sz k hb h
    cases xs with
    | nil => simp [dn] at h
    | cons c r =>
      have hc := hb c (by simp)
      simp only [dn] at h
      by_cases h1 : c < 128
      · rw [if_pos h1] at h
        by_cases h2 : 0 < i ∧ c = 0
        · rw [if_pos h2] at h; simp at h
        · rw [if_neg h2] at h
          simp only [Prod.mk.injEq] at h
          exact ⟨c, hc.1, by simp; omega, h.1.symm, by rw [← h.2.1]; simp [enc], by simp [enc], fun hi => by omega⟩
      · rw [if_neg h1] at h; simp at h
  | succ f ih =>
    intro xs acc i sz k hb h
    cases xs with
    | nil => simp [dn] at h
    | cons c r =>
      have hc := hb c (by simp)
      rw [show f + 1 + 1 = (f + 1) + 1 from rfl] at h
      unfold dn at h
      by_cases h1 : c < 128
      · rw [if_pos h1] at h
        by_cases h2 : 0 < i ∧ c = 0
        · rw [if_pos h2] at h; simp at h
        · rw [if_neg h2] at h
          simp only [Prod.mk.injEq] at h
          have hp : (1 : Int) ≤ 128 ^ (f + 1) := Int.pow_pos (by decide)
          refine ⟨c, hc.1, by rw [Int.pow_succ]; omega, h.1.symm, ?_, ?_, fun hi => by omega⟩
          · rw [← h.2.1]; unfold enc; rw [if_neg (by omega)]; simp
          · unfold enc; rw [if_neg (by omega)]; simp
      · rw [if_neg h1] at h
        obtain ⟨m, m0, m1, e1, e2, e3, e4⟩ := ih r _ (i + 1) sz k (fun x hx => hb x (by simp [hx])) h
        have hmp := e4 (by omega)
        have hgt : (c % 128 + m * 128) > 127 := by omega
        have hdiv : (c % 128 + m * 128) / 128 = m := by omega
        have hmod : (c % 128 + m * 128) % 128 + 128 = c := by omega
        refine ⟨c % 128 + m * 128, by omega, by rw [Int.pow_succ]; omega, ?_, ?_, ?_, fun _ => by omega⟩
        · rw [e1, Int.pow_succ, Int.add_mul, Int.mul_assoc, Int.mul_comm 128 (128 ^ i)]; omega
        · unfold enc; rw [if_pos hgt, hdiv, e2]; simp; omega
        · unfold enc; rw [if_pos hgt, hdiv, hmod]; exact (List.prefix_cons_inj c).2 e3
/-- a greater number takes no fewer bytes -/
theorem enc_mono : ∀ f (m n : Int), m ≤ n → (enc f m).length ≤ (enc f n).length := by
  intro f
  induction f with
  | zero => intro m n h; simp [enc]
  | succ f ih =>
    intro m n h
    unfold enc
    by_cases hm : m > 127
    · rw [if_pos hm, if_pos (by omega)]
      have := ih (m / 128) (n / 128) (by omega)
      simp; exact this
    · rw [if_neg hm]
      split <;> simp
theorem enc_plus_inj (m n : Int) (h : ((enc 7 m).length : Int) + m = (enc 7 n).length + n) : m = n := by
  rcases Int.lt_trichotomy m n with h1 | h1 | h1
  · have := enc_mono 7 m n (by omega); omega
  · exact h1
  · have := enc_mono 7 n m (by omega); omega
theorem be_inj (a b c d a' b' c' d' : Int) (ha : 0 ≤ a ∧ a < 256) (hb : 0 ≤ b ∧ b < 256) (hc : 0 ≤ c ∧ c < 256) (hd : 0 ≤ d ∧ d < 256) (ha' : 0 ≤ a' ∧ a' < 256) (hb' : 0 ≤ b' ∧ b' < 256) (hc' : 0 ≤ c' ∧ c' < 256) (hd' : 0 ≤ d' ∧ d' < 256)
    (h : be a b c d = be a' b' c' d') : a = a' ∧ b = b' ∧ c = c' ∧ d = d' := by unfold be at h; omega
theorem xor8_ne (a x : Int) (ha : 0 ≤ a ∧ a < 256) (hx : 0 ≤ x ∧ x < 256) (hx0 : x ≠ 0) : 0 ≤ Go.bits .xor .u8 a x ∧ Go.bits .xor .u8 a x < 256 ∧ Go.bits .xor .u8 a x ≠ a := by
  have hw : ∀ n : Int, IntKind.u8.wrap n = n % 256 := fun n => by simp [IntKind.wrap, IntKind.bits, IntKind.signed]
  have e : Go.bits .xor .u8 a x = ((BitVec.ofInt 8 a ^^^ BitVec.ofInt 8 x).toNat : Int) := by
    simp only [Go.bits]
    rw [hw]
    have := (BitVec.ofInt 8 a ^^^ BitVec.ofInt 8 x).isLt
    show ((BitVec.ofInt 8 a ^^^ BitVec.ofInt 8 x).toNat : Int) % 256 = ((BitVec.ofInt 8 a ^^^ BitVec.ofInt 8 x).toNat : Int)
    omega
  have hlt := (BitVec.ofInt 8 a ^^^ BitVec.ofInt 8 x).isLt
  rw [e]
  refine ⟨by omega, by omega, fun h => hx0 ?_⟩
  have h2 : BitVec.ofInt 8 a ^^^ BitVec.ofInt 8 x = BitVec.ofInt 8 a := by
    apply BitVec.eq_of_toNat_eq
    have : ((BitVec.ofInt 8 a).toNat : Int) = a := by rw [BitVec.toNat_ofInt]; omega
    omega
  have h3 : BitVec.ofInt 8 a ^^^ (BitVec.ofInt 8 a ^^^ BitVec.ofInt 8 x) = BitVec.ofInt 8 a ^^^ BitVec.ofInt 8 a := by rw [h2]
  rw [← BitVec.xor_assoc, BitVec.xor_self, BitVec.zero_xor] at h3
  have h4 := congrArg BitVec.toNat h3
  rw [BitVec.toNat_ofInt] at h4
  simp at h4
  omega
/-- a row of the frame's shape whose sum is another one -/
def Shape (xs : List Int) (kb : Int) (n : Nat) (g0 g1 g2 g3 : Int) (b : List Int) : Prop := xs = 165 :: kb :: (enc 7 (n : Int) ++ ([g0, g1, g2, g3] ++ b)) ∧ b.length = n
theorem Shape.sum {xs : List Int} {kb : Int} {n : Nat} {g0 g1 g2 g3 : Int} {b : List Int} (h : Shape xs kb n g0 g1 g2 g3 b) :
    (xs.take ((enc 7 (n : Int)).length + 2)).drop 1 = kb :: enc 7 (n : Int) ∧ (xs.take ((enc 7 (n : Int)).length + 6 + n)).drop ((enc 7 (n : Int)).length + 6) = b ∧
    xs[(enc 7 (n : Int)).length + 2]? = some g0 ∧ xs[(enc 7 (n : Int)).length + 3]? = some g1 ∧ xs[(enc 7 (n : Int)).length + 4]? = some g2 ∧ xs[(enc 7 (n : Int)).length + 5]? = some g3 ∧ xs[1]? = some kb ∧
    xs.length = (enc 7 (n : Int)).length + 6 + n := by
  obtain ⟨hx, hb⟩ := h
  obtain ⟨ee, hee⟩ : ∃ ee, ee = enc 7 (n : Int) := ⟨_, rfl⟩
  rw [← hee] at hx ⊢
  refine ⟨?_, ?_, ?_, ?_, ?_, ?_, ?_, ?_⟩
  · rw [hx]
    exact mid_cut [165] (kb :: ee) ([g0, g1, g2, g3] ++ b) 1 rfl (ee.length + 2) (by simp; omega)
  · rw [hx]
    have := mid_cut (165 :: kb :: (ee ++ [g0, g1, g2, g3])) b [] (ee.length + 6) (by simp) (ee.length + 6 + n) (by simp; omega)
    simpa using this
  · rw [hx]; simp
  · rw [hx, show ee.length + 3 = (ee.length + 1) + 2 from rfl]; simp
  · rw [hx, show ee.length + 4 = (ee.length + 2) + 2 from rfl]; simp
  · rw [hx, show ee.length + 5 = (ee.length + 3) + 2 from rfl]; simp
  · rw [hx]; simp
  · rw [hx]; simp; omega
/-- the frame with another byte at p, behind the first and beside the length: of the frame's shape, another sum -/
theorem rot_sum (kind : Int) (b : List Int) (hb : Byts b) (p : Nat) (y : Int) (hy : 0 ≤ y ∧ y < 256) (hp0 : 0 < p) (hp : p < (frameB kind b).length) (hne : (frameB kind b)[p]? ≠ some y) (hnl : ¬ (2 ≤ p ∧ p < (enc 7 (b.length : Int)).length + 2)) :
    ∃ kb g0 g1 g2 g3 b', Shape ((frameB kind b).set p y) kb b.length g0 g1 g2 g3 b' ∧ crc (kb :: enc 7 (b.length : Int) ++ b') ≠ be g0 g1 g2 g3 := by
  have hsh := frame_shape kind b []
  simp only [List.append_nil] at hsh
  have hfl := frameB_len kind b
  have hSr := crc_range (headB kind b ++ b)
  have hS1 : crc ((kind % 256) :: enc 7 (b.length : Int) ++ b) = crc (headB kind b ++ b) := rfl
  obtain ⟨S, hS⟩ : ∃ S, S = crc (headB kind b ++ b) := ⟨_, rfl⟩
  rw [← hS] at hsh hSr hS1
  have hbe := be_four S hSr.1 hSr.2
  obtain ⟨ee, hee⟩ : ∃ ee, ee = enc 7 (b.length : Int) := ⟨_, rfl⟩
  rw [← hee] at hsh hfl hnl hS1 ⊢
  obtain ⟨fr, hfr⟩ : ∃ fr, fr = frameB kind b := ⟨_, rfl⟩
  rw [← hfr] at hsh hfl hp hne ⊢
  unfold Shape
  rw [← hee]
  by_cases h1 : p = 1
  · subst h1
    refine ⟨y, S / 16777216 % 256, S / 65536 % 256, S / 256 % 256, S % 256, b, ⟨by rw [hsh]; simp [four], rfl⟩, ?_⟩
    rw [hbe, ← hS1]
    have hky : y ≠ kind % 256 := fun h => hne (by rw [hsh]; simp [h])
    exact crc_one [] (ee ++ b) y (kind % 256) hy (by omega) hky
  · have hpe : ee.length + 2 ≤ p := by omega
    by_cases h4 : p < ee.length + 6
    · obtain ⟨j, rfl⟩ : ∃ j, p = ee.length + j + 2 := ⟨p - ee.length - 2, by omega⟩
      have hset : fr.set (ee.length + j + 2) y = 165 :: (kind % 256) :: (ee ++ ((four S).set j y ++ b)) := by
        rw [hsh]
        simp only [List.set_cons_succ]
        rw [List.set_append_right _ _ (by omega), show ee.length + j - ee.length = j from by omega, List.set_append_left _ _ (by simp [four]; omega)]
      have hj : (four S)[j]? ≠ some y := by
        intro h
        apply hne
        rw [hsh]
        simp only [List.getElem?_cons_succ]
        rw [List.getElem?_append_right (by omega), show ee.length + j - ee.length = j from by omega, List.getElem?_append_left (by simp [four]; omega)]
        exact h
      have hj4 : j = 0 ∨ j = 1 ∨ j = 2 ∨ j = 3 := by omega
      rcases hj4 with rfl | rfl | rfl | rfl
      · refine ⟨kind % 256, y, S / 65536 % 256, S / 256 % 256, S % 256, b, ⟨by rw [hset]; simp [four], rfl⟩, fun h => hj ?_⟩
        rw [hS1, ← hbe] at h
        have := be_inj _ _ _ _ _ _ _ _ (by omega) (by omega) (by omega) (by omega) hy (by omega) (by omega) (by omega) h
        simp [four, this.1]
      · refine ⟨kind % 256, S / 16777216 % 256, y, S / 256 % 256, S % 256, b, ⟨by rw [hset]; simp [four], rfl⟩, fun h => hj ?_⟩
        rw [hS1, ← hbe] at h
        have := be_inj _ _ _ _ _ _ _ _ (by omega) (by omega) (by omega) (by omega) (by omega) hy (by omega) (by omega) h
        simp [four, this.2.1]
      · refine ⟨kind % 256, S / 16777216 % 256, S / 65536 % 256, y, S % 256, b, ⟨by rw [hset]; simp [four], rfl⟩, fun h => hj ?_⟩
        rw [hS1, ← hbe] at h
        have := be_inj _ _ _ _ _ _ _ _ (by omega) (by omega) (by omega) (by omega) (by omega) (by omega) hy (by omega) h
        simp [four, this.2.2.1]
      · refine ⟨kind % 256, S / 16777216 % 256, S / 65536 % 256, S / 256 % 256, y, b, ⟨by rw [hset]; simp [four], rfl⟩, fun h => hj ?_⟩
        rw [hS1, ← hbe] at h
        have := be_inj _ _ _ _ _ _ _ _ (by omega) (by omega) (by omega) (by omega) (by omega) (by omega) (by omega) hy h
        simp [four, this.2.2.2]
    · obtain ⟨j, rfl⟩ : ∃ j, p = ee.length + (4 + j) + 2 := ⟨p - ee.length - 6, by omega⟩
      have hjl : j < b.length := by omega
      have hset : fr.set (ee.length + (4 + j) + 2) y = 165 :: (kind % 256) :: (ee ++ (four S ++ b.set j y)) := by
        rw [hsh]
        simp only [List.set_cons_succ]
        rw [List.set_append_right _ _ (by omega), show ee.length + (4 + j) - ee.length = 4 + j from by omega, List.set_append_right _ _ (by simp [four]), show 4 + j - (four S).length = j from by simp [four]]
      have hj : b[j] ≠ y := by
        intro h
        apply hne
        rw [hsh]
        simp only [List.getElem?_cons_succ]
        rw [List.getElem?_append_right (by omega), show ee.length + (4 + j) - ee.length = 4 + j from by omega, List.getElem?_append_right (by simp [four]), show 4 + j - (four S).length = j from by simp [four], List.getElem?_eq_getElem hjl, h]
      refine ⟨kind % 256, S / 16777216 % 256, S / 65536 % 256, S / 256 % 256, S % 256, b.set j y, ⟨by rw [hset]; rfl, by simp⟩, ?_⟩
      rw [hbe, ← hS1]
      have hbj := hb b[j] (List.getElem_mem hjl)
      have e1 : b = b.take j ++ b[j] :: b.drop (j + 1) := by rw [← List.drop_eq_getElem_cons hjl, List.take_append_drop]
      have e2 : b.set j y = b.take j ++ y :: b.drop (j + 1) := by rw [List.set_eq_take_append_cons_drop, if_pos hjl]
      rw [e2]
      conv => rhs; rw [e1]
      have := crc_one ((kind % 256) :: ee ++ b.take j) (b.drop (j + 1)) y b[j] hy hbj (fun h => hj h.symm)
      simpa using this
/-- Unframe of a frame with another byte at p -/
theorem un_rot (kind : Int) (b : List Int) (hl : b.length ≤ 1048576) (hb : Byts b) (p : Nat) (y : Int) (hy : 0 ≤ y ∧ y < 256) (hp : p < (frameB kind b).length) (hne : (frameB kind b)[p]? ≠ some y) (A : Option Addr) (c : Nat) (w : World)
    (hC : (Kd.int .u8).C w A (frameB kind b).length ((frameB kind b).set p y)) (hc : (frameB kind b).length ≤ c) (hT : Tab w) :
    Calls Tryd.prog 17 #[.slice A (frameB kind b).length c] w fun e w' => ∃ (r1 : Int) (v : Value) (r3 r4 : Int), e = .returned (.tuple #[.int .i64 r1, v, .int .i64 r3, .int .i64 r4]) ∧ (r4 ≠ 0 ∨ r3 ≠ ((frameB kind b).length : Int)) ∧ Below w.heap.size w w' := by
  have hfl := frameB_len kind b
  have he8 := enc_len8 (b.length : Int)
  have he1 := enc_pos 7 (b.length : Int)
  have hsh := frame_shape kind b []
  simp only [List.append_nil] at hsh
  have hfb := frameB_byts kind b hb hl
  have hrot := rot_sum kind b hb p y hy
  obtain ⟨fr, hfr⟩ : ∃ fr, fr = frameB kind b := ⟨_, rfl⟩
  rw [← hfr] at hfl hsh hfb hp hne hC hc hrot ⊢
  obtain ⟨xs, hxs⟩ : ∃ xs, xs = fr.set p y := ⟨_, rfl⟩
  have hlx : xs.length = fr.length := by rw [hxs]; simp
  rw [← hxs] at hC hrot
  rw [← hlx] at hC hc ⊢
  have hxb : Byts xs := by
    intro x hx
    rw [hxs] at hx
    rcases List.mem_or_eq_of_mem_set hx with h | h
    · exact hfb x h
    · rw [h]; exact hy
  by_cases hm : xs[0]'(by omega) = 165
  · have hp0 : 0 < p := by
      rcases Nat.eq_zero_or_pos p with h | h
      · subst h
        exfalso
        have : xs[0]'(by omega) = y := by simp [hxs]
        rw [this] at hm
        apply hne
        rw [hsh, hm]; simp
      · exact h
    obtain ⟨sz, k, er, hd⟩ : ∃ sz k er, dn 8 (xs.drop 2) 0 0 = (sz, k, er) := ⟨_, _, _, rfl⟩
    by_cases her : er = 0
    · subst her
      obtain ⟨m, m0, m1, e1, e2, e3, _⟩ := dn_inv 7 (xs.drop 2) 0 0 sz k (fun x hx => hxb x (List.mem_of_mem_drop hx)) hd
      have hsz : sz = m := by rw [e1]; simp
      subst hsz
      have hk' : k = ((enc 7 sz).length : Int) := by rw [e2]; simp
      subst hk'
      by_cases hbig : 1048576 < sz
      · refine (un_big A c xs w hC hxb hc (by omega) hm sz _ hd hbig).mono ?_
        rintro e w' ⟨rfl, hb'⟩
        exact ⟨_, _, _, _, rfl, .inl (by decide), hb'⟩
      · obtain ⟨z, hz⟩ : ∃ z : Nat, sz = (z : Int) := ⟨sz.toNat, by omega⟩
        subst hz
        have hz8 := enc_len8 (z : Int)
        have hz1 := enc_pos 7 (z : Int)
        by_cases hend : xs.length < (enc 7 (z : Int)).length + 6 + z
        · refine (un_end A c xs w hC hxb hc (by omega) hm z _ hd (by omega) hz8 hend (by omega)).mono ?_
          rintro e w' ⟨rfl, hb'⟩
          exact ⟨_, _, _, _, rfl, .inl (by decide), hb'⟩
        · have h := un_sum A c xs w hC hxb hc (by omega) hm z _ hd (by omega) hz8 hz1 (by omega) (by omega) hT _ rfl
            (xs[(enc 7 (z : Int)).length + 2]'(by omega)) (xs[(enc 7 (z : Int)).length + 3]'(by omega)) (xs[(enc 7 (z : Int)).length + 4]'(by omega)) (xs[(enc 7 (z : Int)).length + 5]'(by omega)) (xs[1]'(by omega))
            (List.getElem?_eq_getElem _) (List.getElem?_eq_getElem _) (List.getElem?_eq_getElem _) (List.getElem?_eq_getElem _) (List.getElem?_eq_getElem _)
          refine h.mono ?_
          rintro e w' ⟨hb', ⟨_, rfl⟩ | ⟨hS, v, rfl, _⟩⟩
          · exact ⟨_, _, _, _, rfl, .inl (by decide), hb'⟩
          · refine ⟨_, _, _, _, rfl, .inr (fun hL => ?_), hb'⟩
            have hzn : (z : Int) = (b.length : Int) := enc_plus_inj _ _ (by omega)
            have hzn' : z = b.length := by omega
            subst hzn'
            have hnl : ¬ (2 ≤ p ∧ p < (enc 7 (b.length : Int)).length + 2) := by
              rintro ⟨g1, g2⟩
              obtain ⟨t, ht⟩ := e3
              apply hne
              have h1 : xs[p]? = some y := by rw [hxs]; simp [hp]
              have h2 : (xs.drop 2)[p - 2]? = some y := by rw [List.getElem?_drop, show 2 + (p - 2) = p from by omega]; exact h1
              rw [← ht, List.getElem?_append_left (by omega)] at h2
              have h3 : (fr.drop 2)[p - 2]? = some y := by
                rw [hsh]
                show (enc 7 (b.length : Int) ++ _)[p - 2]? = some y
                rw [List.getElem?_append_left (by omega)]
                exact h2
              rw [List.getElem?_drop, show 2 + (p - 2) = p from by omega] at h3
              exact h3
            obtain ⟨kb, g0, g1, g2, g3, b', hshape, hcrc⟩ := hrot hp0 hp hne hnl
            obtain ⟨s1, s2, s3, s4, s5, s6, _, _⟩ := hshape.sum
            rw [s1, s2] at hS
            apply hcrc
            rw [hS]
            have q0 : xs[(enc 7 (b.length : Int)).length + 2]'(by omega) = g0 := by rw [List.getElem?_eq_getElem (by omega)] at s3; injection s3
            have q1 : xs[(enc 7 (b.length : Int)).length + 3]'(by omega) = g1 := by rw [List.getElem?_eq_getElem (by omega)] at s4; injection s4
            have q2 : xs[(enc 7 (b.length : Int)).length + 4]'(by omega) = g2 := by rw [List.getElem?_eq_getElem (by omega)] at s5; injection s5
            have q3 : xs[(enc 7 (b.length : Int)).length + 5]'(by omega) = g3 := by rw [List.getElem?_eq_getElem (by omega)] at s6; injection s6
            rw [q0, q1, q2, q3]
    · refine (un_num A c xs w hC hxb hc (by omega) hm sz k er hd her).mono ?_
      rintro e w' ⟨rfl, hb'⟩
      exact ⟨_, _, _, _, rfl, .inl her, hb'⟩
  · refine (un_magic A c xs w hC (by omega) hm).mono ?_
    rintro e w' ⟨rfl, hb'⟩
    exact ⟨_, _, _, _, rfl, .inl (by decide), hb'⟩
end Go.Proofs.YtpgcbdopnkbmhaaDoor.Ur
