/- A decoder that New made: what its calls answer, and what is left of its bytes. -/
import Derived.Test.YtpgcbdopnkbmhaaKn
import Derived.Test.YtpgcbdopnkbmhaaDn
import Derived.Test.YtpgcbdopnkbmhaaFr
import Derived.Outline
namespace Go.Proofs.Ytpgcbdopnkbmhaa.De
set_option linter.unusedVariables false
open Go.RowKit Go.Proofs.YtpgcbdopnkbmhaaW.PrintWords Go.Proofs.YtpgcbdopnkbmhaaW.PrintLast Go.Proofs.YtpgcbdopnkbmhaaW.PrintMore
open Go.Proofs.Ytpgcbdopnkbmhaa.A Go.Proofs.Ytpgcbdopnkbmhaa.Cn Go.Proofs.Ytpgcbdopnkbmhaa.Kn Go.Proofs.Ytpgcbdopnkbmhaa.Dn Go.Proofs.Ytpgcbdopnkbmhaa.Fr
/-- a decoder at block b: the bytes that are left, its error -/
def Dec (w : World) (b : Nat) (xs : List Int) (er : Int) : Prop :=
  ∃ A c, w.heap[b]? = some (.cells #[.slice A xs.length c, .int .i64 er, .bool true] 36 (0, 0)) ∧ xs.length ≤ c ∧ (Kd.int .u8).C w A xs.length xs ∧ ∀ ad, A = some ad → 0 < xs.length → ad.block ≠ b
/-- the decoder behind a store of its bytes and its error -/
theorem Dec.mk' {w : World} {b : Nat} {A : Option Addr} {n c : Nat} {er : Int} {xs : List Int} (hblk : w.heap[b]? = some (.cells #[.slice A n c, .int .i64 er, .bool true] 36 (0, 0)))
    (hn : n = xs.length) (hc : xs.length ≤ c) (hC : (Kd.int .u8).C w A xs.length xs) (hne : ∀ ad, A = some ad → 0 < xs.length → ad.block ≠ b) : Dec w b xs er := by
  subst hn
  exact ⟨A, c, hblk, hc, hC, hne⟩
theorem far_drop {A A' : Option Addr} {c s b n : Nat} (hA : A' = if c = s then A else A.map fun x => x.add (s * 1)) (hne : ∀ ad, A = some ad → 0 < n → ad.block ≠ b) :
    ∀ ad, A' = some ad → 0 < n - s → ad.block ≠ b := by
  intro ad e h
  rw [hA] at e
  split at e
  · exact hne ad e (by omega)
  · cases A with
    | none => simp at e
    | some a =>
      simp at e
      have := hne a rfl (by omega)
      rw [← e]
      unfold Addr.add
      split <;> exact this
theorem none_false (b : Nat) (w : World) (h : w.cell? ⟨b, 2, none⟩ = some (.bool true)) : Calls Try.prog 24 #[.pointer (some ⟨b, 0, none⟩)] w fun e w' => e = .returned (.bool false) ∧ w = w' := by
  go_enter Try.func24, Try.ntmps24
  go_wp2
  go_ret
  exact ⟨rfl, rfl⟩
set_option maxHeartbeats 1000000 in
theorem number_ok (b : Nat) (w : World) (xs : List Int) (n : Int) (s : Nat) (e0 : Int) (h : Dec w b xs 0) (hb : Byts xs) (hd : dn 8 xs 0 0 = (n, (s : Int), e0)) (hs : s ≤ xs.length) :
    Calls Try.prog 12 #[.pointer (some ⟨b, 0, none⟩)] w fun e w' => e = .returned (.int .i64 n) ∧ Dec w' b (xs.drop s) e0 ∧ Fr (fun k => k = b) w w' := by
  have HF := Aside0.mk ((number_is' xs hb).trans (congrArg some hd))
  obtain ⟨A, c, hblk, hc, hC, hne⟩ := h
  have c0 := blk_cell hblk 0
  have c1 := blk_cell hblk 1
  have c2 := blk_cell hblk 2
  have f0 := blk_frozen hblk 0
  have f1 := blk_frozen hblk 1
  simp at c0 c1 c2
  have HB := Aside0.mk hblk
  clear hblk
  have hn := none_false b w c2
  have HN := Aside0.mk hn
  obtain ⟨i0, hi0, _, hsz, _⟩ := info_parts info5
  have hcut := cut_from (P := Try.prog) 22 5 .i64 Try.underlying22 hi0 1 hsz A xs.length c (s : Int) (by omega) (by omega)
  rw [Int.toNat_natCast] at hcut
  obtain ⟨A', hA'⟩ : ∃ A', A' = (if c = s then A else A.map fun x => x.add (s * 1)) := ⟨_, rfl⟩
  rw [← hA'] at hcut
  have hC' := Kd.C_drop (m := s) hC hs hc
  have hA2 : (if c = s then A else A.map fun x => x.add (s * (Kd.int .u8).sz)) = A' := by rw [hA']; rfl
  rw [hA2] at hC'
  have HC' := Aside0.mk hC'
  have HA' := Aside0.mk hA'
  have HCT := Aside0.mk hcut
  clear hcut hn hd hC' hA2 hA'
  go_enter Try.func12, Try.ntmps12
  go_wp2_with fail
  refine HN.out.mono ?_
  rintro e w' ⟨rfl, rfl⟩
  go_wp2_with fail
  refine (codec_number.calls 9 A c xs n s e0 _ hC hc HF.out).mono ?_
  rintro e w' ⟨rfl, ⟨nd, rfl⟩⟩
  have hcut := HCT.out
  go_wp2_with fail
  go_region
  go_wp2
  go_ret
  have fr : Fr (fun k => k = b) w (((w.drewN (nd + 1)).setCell ⟨b, 1, none⟩ (.int .i64 e0)).setCell ⟨b, 0, none⟩ (.slice A' (xs.length - s) (c - s))) :=
    Fr.setCell (S := fun k => k = b) (Fr.setCell (S := fun k => k = b) ((Fr.refl _ w).drewN _) (.inl rfl) _) (.inl rfl) _
  have hl : (xs.drop s).length = xs.length - s := List.length_drop
  have far := far_drop HA'.out hne
  refine ⟨rfl, Dec.mk' (blk_put (blk_put (blk_drewN HB.out _) 1 _ rfl) 0 _ rfl) hl.symm (by omega) (fr.C HC'.out ?_) ?_, fr⟩
  · intro ad e h; exact far ad e (by omega)
  · intro ad e h; exact far ad e (by omega)
theorem and1 (m : Int) (h0 : 0 ≤ m) (h1 : m < 4611686018427387904) : Go.bits .and .i64 m 1 = m % 2 := by
  have := bits_mask .i64 62 (by decide) (fun n h0 h1 => by simp [IntKind.wrap, IntKind.bits, IntKind.signed]; omega) 1 (by decide) m h0 h1
  exact this
theorem xor_neg1 (a : Int) (h0 : 0 ≤ a) (h1 : a < 4611686018427387904) : Go.bits .xor .i64 a (-1) = -a - 1 := by
  simp only [Go.bits]
  rw [show (BitVec.ofInt IntKind.i64.bits (-1)) = BitVec.allOnes _ from by decide +kernel, BitVec.xor_allOnes]
  rw [BitVec.toNat_not, BitVec.toNat_ofInt]
  simp [IntKind.bits, IntKind.wrap, IntKind.signed]
  omega
theorem xor_0 (a : Int) (h0 : 0 ≤ a) (h1 : a < 4611686018427387904) : Go.bits .xor .i64 a 0 = a := by
  simp only [Go.bits]
  rw [show (BitVec.ofInt IntKind.i64.bits 0) = 0#_ from rfl, BitVec.xor_zero]
  rw [BitVec.toNat_ofInt]
  simp [IntKind.bits, IntKind.wrap, IntKind.signed]
  omega
set_option maxHeartbeats 1000000 in
/-- a signed number that was written is read as it was -/
theorem signed_ok (b : Nat) (w : World) (xs rest : List Int) (z : Int) (h : Dec w b xs 0) (hb : Byts xs) (hx : xs = enc 7 (zig z) ++ rest) (hz : -36028797018963968 ≤ z) (hz2 : z < 36028797018963968) :
    Calls Try.prog 13 #[.pointer (some ⟨b, 0, none⟩)] w fun e w' => e = .returned (.int .i64 z) ∧ Dec w' b rest 0 ∧ Fr (fun k => k = b) w w' := by
  have hzb := zig_bd z hz hz2
  have hr := read_enc (zig z) rest hzb.1 hzb.2
  rw [← hx] at hr
  have hd : xs.drop (enc 7 (zig z)).length = rest := by rw [hx]; simp
  have hl : (enc 7 (zig z)).length ≤ xs.length := by rw [hx]; simp
  have H := number_ok b w xs (zig z) _ 0 h hb hr hl
  rw [hd] at H
  have HN := Aside0.mk H
  have ha := and1 (zig z) hzb.1 (by omega)
  obtain ⟨m, hm⟩ : ∃ m, m = zig z := ⟨_, rfl⟩
  rw [← hm] at ha HN hzb
  obtain ⟨q, hq⟩ : ∃ q, q = m % 2 := ⟨_, rfl⟩
  rw [← hq] at ha
  have h2 : (0 ≤ q ∧ q ≤ 1) := by omega
  have hfin : Go.bits .xor .i64 (m / 2) (-q) = z := by
    rw [hq, hm]
    unfold zig at hm ⊢
    split at hm
    · rw [if_pos (by assumption)]
      rw [show (-2 * z - 1) % 2 = 1 by omega, xor_neg1 _ (by omega) (by omega)]; omega
    · rw [if_neg (by assumption)]
      rw [show (2 * z) % 2 = 0 by omega, show (-(0 : Int)) = 0 from rfl, xor_0 _ (by omega) (by omega)]; omega
  have HFIN := Aside0.mk hfin
  clear H hr hd hl h hb hx hm hq hfin
  go_enter Try.func13, Try.ntmps13
  go_wp2_with fail
  refine HN.out.mono ?_
  rintro e w' ⟨rfl, hd', fr⟩
  have hd' := Aside0.mk hd'
  have fr := Aside0.mk fr
  go_wp2
  go_ret
  exact ⟨by first | rfl | exact congrArg (fun x => Ending.returned (.int .i64 x)) HFIN.out, hd'.out, fr.out⟩
theorem err_ok (b : Nat) (w : World) (xs : List Int) (er : Int) (h : Dec w b xs er) : Calls Try.prog 16 #[.pointer (some ⟨b, 0, none⟩)] w fun e w' => e = .returned (.int .i64 er) ∧ w = w' := by
  obtain ⟨A, c, hblk, hc, hC, hne⟩ := h
  have c1 := blk_cell hblk 1
  have c2 := blk_cell hblk 2
  simp at c1 c2
  have HN := Aside0.mk (none_false b w c2)
  clear hblk hC hne
  go_enter Try.func16, Try.ntmps16
  go_wp2_with fail
  refine HN.out.mono ?_
  rintro e w' ⟨rfl, rfl⟩
  go_wp2
  go_ret
  exact ⟨rfl, rfl⟩
theorem done_ok (b : Nat) (w : World) (h : Dec w b [] 0) : Calls Try.prog 17 #[.pointer (some ⟨b, 0, none⟩)] w fun e w' => e = .returned (.int .i64 0) ∧ w = w' := by
  have HN := Aside0.mk (err_ok b w [] 0 h)
  obtain ⟨A, c, hblk, hc, hC, hne⟩ := h
  have c0 := blk_cell hblk 0
  simp at c0
  clear hblk hC hne
  go_enter Try.func17, Try.ntmps17
  go_wp2_with fail
  refine HN.out.mono ?_
  rintro e w' ⟨rfl, rfl⟩
  go_wp2
  go_ret
  exact ⟨rfl, rfl⟩
theorem str_bytes (s : ByteArray) : strOfNums (bytesOf s) = s := by
  cases s with
  | mk d =>
    simp only [strOfNums, bytesOf, List.map_map]
    congr 1
    have : d.toList.map ((fun n => UInt8.ofNat n.toNat) ∘ fun b : UInt8 => (b.toNat : Int)) = d.toList := by
      rw [List.map_congr_left (g := id) (fun x _ => by simp), List.map_id]
    rw [this]
set_option maxHeartbeats 1000000 in
/-- a text that was written is read as it was -/
theorem text_ok (b : Nat) (w : World) (xs rest : List Int) (s : ByteArray) (h : Dec w b xs 0) (hb : Byts xs) (hx : xs = enc 7 s.size ++ (bytesOf s ++ rest)) (hs : s.size ≤ 65536) :
    Calls Try.prog 15 #[.pointer (some ⟨b, 0, none⟩)] w fun e w' => e = .returned (.string s) ∧ Dec w' b rest 0 ∧ Fr (fun k => k = b) w w' := by
  have hr := read_enc (s.size : Int) (bytesOf s ++ rest) (by omega) (by omega)
  rw [← hx] at hr
  have hd : xs.drop (enc 7 (s.size : Int)).length = bytesOf s ++ rest := by rw [hx]; simp
  have hl : (enc 7 (s.size : Int)).length ≤ xs.length := by rw [hx]; simp
  have H := number_ok b w xs _ _ 0 h hb hr hl
  rw [hd] at H
  have HN := Aside0.mk H
  have hbl := bytesOf_length s
  obtain ⟨A, c, hblk, hc, hC, hne⟩ := h
  have c0 := blk_cell hblk 0
  have c2 := blk_cell hblk 2
  simp at c0 c2
  have HNO := Aside0.mk (none_false b w c2)
  clear H hr hd hl hx hblk c2 hC hne
  go_enter Try.func15, Try.ntmps15
  go_wp2_with fail
  refine HNO.out.mono ?_
  rintro e w' ⟨rfl, rfl⟩
  go_wp2_with fail
  refine HN.out.mono ?_
  rintro e w1 ⟨rfl, hd1, fr⟩
  clear c0
  obtain ⟨A1, k1, hblk, hc1, hC1, hne1⟩ := hd1
  have hlen : (bytesOf s ++ rest).length = s.size + rest.length := by rw [List.length_append, hbl]
  have HT := Aside0.mk (Kd.C_take (m := s.size) hC1 (by omega))
  have HD := Aside0.mk (Kd.C_drop (m := s.size) hC1 (by omega) hc1)
  obtain ⟨N, hN⟩ : ∃ N, N = (bytesOf s ++ rest).length := ⟨_, rfl⟩
  rw [← hN] at hblk hc1 hne1 hlen
  obtain ⟨A', hA'⟩ : ∃ A', A' = (if k1 = s.size then A1 else A1.map fun x => x.add (s.size * 1)) := ⟨_, rfl⟩
  have HA' := Aside0.mk hA'
  obtain ⟨i0, hi0, _, hsz, _⟩ := info_parts info5
  have hto := cut_to (P := Try.prog) 22 5 .i64 Try.underlying22 hi0 A1 N k1 (s.size : Int) (by omega) (by omega) (by omega)
  have hcut := cut_from (P := Try.prog) 22 5 .i64 Try.underlying22 hi0 1 hsz A1 N k1 (s.size : Int) (by omega) (by omega)
  rw [Int.toNat_natCast] at hcut hto
  rw [← hA'] at hcut
  have htake : (bytesOf s ++ rest).take s.size = bytesOf s := by rw [← hbl]; simp
  have hdrop : (bytesOf s ++ rest).drop s.size = rest := by rw [← hbl]; simp
  have HT2 := HT.out
  rw [htake] at HT2
  have hcv := Kd.C_string (P := Try.prog) (c := k1) Try.underlying22 Try.underlying5 Try.underlying9 HT2
  rw [hbl, str_bytes] at hcv
  have c0 := blk_cell hblk 0
  have c1 := blk_cell hblk 1
  have f0 := blk_frozen hblk 0
  simp at c0 c1
  have HB := Aside0.mk hblk
  have FR := Aside0.mk fr
  have HN := Aside0.mk hN
  have HDR := Aside0.mk hdrop
  have hNle : (s.size : Int) ≤ (N : Int) := by omega
  clear hblk fr hN hA' htake hdrop HT2 hlen hC1
  go_wp2
  go_ret
  refine ⟨rfl, ?_, ?_⟩
  · have H := HD.out
    rw [HDR.out] at H
    have hl : rest.length = N - s.size := by rw [HN.out, List.length_append, hbl]; omega
    have e : (if k1 = s.size then A1 else A1.map (fun x => x.add (s.size * (Kd.int .u8).sz))) = A' := by rw [HA'.out]; rfl
    rw [e] at H
    have far := far_drop HA'.out hne1
    have f2 : Fr (fun k => k = b) w1 (w1.setCell ⟨b, 0, none⟩ (.slice A' (N - s.size) (k1 - s.size))) := Fr.setCell (S := fun k => k = b) (Fr.refl _ w1) (.inl rfl) _
    refine Dec.mk' (blk_put HB.out 0 _ rfl) hl.symm (by omega) (f2.C H ?_) ?_
    · intro ad e h; exact far ad e (by omega)
    · intro ad e h; exact far ad e (by omega)
  · exact Fr.setCell (S := fun k => k = b) FR.out (.inl rfl) _
end Go.Proofs.Ytpgcbdopnkbmhaa.De
