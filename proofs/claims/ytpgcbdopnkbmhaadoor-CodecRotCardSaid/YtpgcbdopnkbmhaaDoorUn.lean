/- codec.Unframe, walked, way by way. -/
import Derived.Test.YtpgcbdopnkbmhaaDoorFm
namespace Go.Proofs.YtpgcbdopnkbmhaaDoor.Un
set_option linter.unusedVariables false
open Go.RowKit Go.Proofs.YtpgcbdopnkbmhaaDoorW.PrintWords Go.Proofs.YtpgcbdopnkbmhaaDoorW.PrintLast Go.Proofs.YtpgcbdopnkbmhaaDoorW.PrintMore
open Go.Proofs.YtpgcbdopnkbmhaaDoor.A Go.Proofs.YtpgcbdopnkbmhaaDoor.Cn Go.Proofs.YtpgcbdopnkbmhaaDoor.Dn Go.Proofs.YtpgcbdopnkbmhaaDoor.Cr Go.Proofs.YtpgcbdopnkbmhaaDoor.Fr Go.Proofs.YtpgcbdopnkbmhaaDoor.Su Go.Proofs.YtpgcbdopnkbmhaaDoor.Le Go.Proofs.YtpgcbdopnkbmhaaDoor.Cc Go.Proofs.YtpgcbdopnkbmhaaDoor.Fm
/-- no frame: why -/
def NoFrame (w : World) (er : Int) (e : Ending) (w' : World) : Prop := e = .returned (.tuple #[.int .i64 0, .slice none 0 0, .int .i64 0, .int .i64 er]) ∧ Below w.heap.size w w'
/-- the first byte is another one -/
theorem un_magic (A : Option Addr) (c : Nat) (xs : List Int) (w : World) (hC : (Kd.int .u8).C w A xs.length xs) (h : 0 < xs.length) (hm : xs[0] ≠ 165) :
    Calls Tryd.prog 17 #[.slice A xs.length c] w (NoFrame w 21) := by
  have HB := Aside0.mk (Below.refl w.heap.size w)
  obtain ⟨ad, rfl, hcell⟩ := get_byte hC 0 h
  have hcell' : w.cell? ad = some (.int .u8 xs[0]) := by simpa [Addr.add] using hcell
  obtain ⟨x, hx⟩ : ∃ x, x = xs[0] := ⟨_, rfl⟩
  rw [← hx] at hcell hcell' hm
  obtain ⟨n, hn⟩ : ∃ n, n = xs.length := ⟨_, rfl⟩
  rw [← hn] at h ⊢
  have g0 : decide (0 < n) = true := decide_eq_true h
  have g1 : (x != 165) = true := by simpa using hm
  have g2 : (0 : Int) < (n : Int) := by omega
  clear hC hm hx hn
  go_enter Tryd.func17, Tryd.ntmps17
  go_wp2
  exact bodyPost_ret (v := .tuple #[.int .i64 0, .slice none 0 0, .int .i64 0, .int .i64 21]) (by simp [results, Tryd.results17, go_sem]) rfl ⟨rfl, HB.out⟩
/-- no byte, or the first one alone -/
theorem un_none (A : Option Addr) (c : Nat) (w : World) : Calls Tryd.prog 17 #[.slice A 0 c] w (NoFrame w 20) := by
  have HB := Aside0.mk (Below.refl w.heap.size w)
  go_enter Tryd.func17, Tryd.ntmps17
  go_wp2
  exact bodyPost_ret (v := .tuple #[.int .i64 0, .slice none 0 0, .int .i64 0, .int .i64 20]) (by simp [results, Tryd.results17, go_sem]) rfl ⟨rfl, HB.out⟩
theorem un_one (A : Option Addr) (c : Nat) (w : World) (hC : (Kd.int .u8).C w A 1 [165]) : Calls Tryd.prog 17 #[.slice A 1 c] w (NoFrame w 20) := by
  have HB := Aside0.mk (Below.refl w.heap.size w)
  obtain ⟨ad, rfl, hcell⟩ := get_byte (l := [165]) hC 0 (by simp)
  have hcell' : w.cell? ad = some (.int .u8 165) := by simpa [Addr.add] using hcell
  clear hC hcell
  go_enter Tryd.func17, Tryd.ntmps17
  go_wp2
  exact bodyPost_ret (v := .tuple #[.int .i64 0, .slice none 0 0, .int .i64 0, .int .i64 20]) (by simp [results, Tryd.results17, go_sem]) rfl ⟨rfl, HB.out⟩
set_option maxHeartbeats 1000000 in
/-- the length is no number -/
theorem un_num (A : Option Addr) (c : Nat) (xs : List Int) (w : World) (hC : (Kd.int .u8).C w A xs.length xs) (hb : Byts xs) (hc : xs.length ≤ c) (h : 2 ≤ xs.length) (hm : xs[0] = 165) (sz k er : Int) (hd : dn 8 (xs.drop 2) 0 0 = (sz, k, er)) (her : er ≠ 0) :
    Calls Tryd.prog 17 #[.slice A xs.length c] w (NoFrame w er) := by
  have HB := Aside0.mk (Below.refl w.heap.size w)
  obtain ⟨ad, rfl, hcell⟩ := get_byte hC 0 (by omega)
  have hcell' : w.cell? ad = some (.int .u8 165) := by rw [← hm]; simpa [Addr.add] using hcell
  obtain ⟨i0, hi0, _, hsz, _⟩ := info_parts info5
  obtain ⟨n, hn⟩ : ∃ n, n = xs.length := ⟨_, rfl⟩
  have hD := Kd.C_drop (m := 2) hC h hc
  have hl2 : (xs.drop 2).length = n - 2 := by rw [hn]; simp
  have hcut := cut_from (P := Tryd.prog) 22 5 .i64 Tryd.underlying22 hi0 1 hsz (some ad) n c (2 : Int) (by omega) (by omega)
  rw [show ((2 : Int)).toNat = 2 from rfl] at hcut
  obtain ⟨A2, hA2⟩ : ∃ A2, A2 = (if c = 2 then some ad else (some ad).map fun x => x.add (2 * 1)) := ⟨_, rfl⟩
  have hA2' : (if c = 2 then some ad else (some ad).map fun x => x.add (2 * (Kd.int .u8).sz)) = A2 := by rw [hA2]; rfl
  rw [← hA2] at hcut
  rw [hA2'] at hD
  obtain ⟨n2, hn2⟩ : ∃ n2, n2 = n - 2 := ⟨_, rfl⟩
  obtain ⟨c2, hc2⟩ : ∃ c2, c2 = c - 2 := ⟨_, rfl⟩
  have hnum := codec_number.calls 9 A2 c2 (xs.drop 2) _ _ _ w hD (by rw [hl2]; omega) ((number_is' (xs.drop 2) (fun x hx => hb x (List.mem_of_mem_drop hx))).trans (congrArg some hd))
  rw [hl2, ← hn2] at hnum
  rw [← hn2, ← hc2] at hcut
  have HNUM := Aside0.mk hnum
  have HN := Aside0.mk hn
  have HN2 := Aside0.mk hn2
  have HC := Aside0.mk hC
  have HCC := Aside0.mk hc
  rw [← hn] at h hc ⊢
  have g0 : decide (0 < n) = true := decide_eq_true (by omega)
  have g2 : (0 : Int) < (n : Int) := by omega
  have g3 : decide (n < 2) = false := decide_eq_false (by omega)
  have g4 : (er != 0) = true := by simpa using her
  clear hC hn hn2 hc2 hD hA2 hA2' hl2 hnum hd hm hb hcell
  go_enter Tryd.func17, Tryd.ntmps17
  go_wp2_with fail
  refine HNUM.out.mono ?_
  rintro e w' ⟨rfl, ⟨nd, rfl⟩⟩
  go_wp2
  exact bodyPost_ret (v := .tuple #[.int .i64 0, .slice none 0 0, .int .i64 0, .int .i64 er]) (by simp [results, Tryd.results17, go_sem]) rfl ⟨rfl, pw_below_drewN HB.out nd⟩
set_option maxHeartbeats 1000000 in
/-- the length is above the bound -/
theorem un_big (A : Option Addr) (c : Nat) (xs : List Int) (w : World) (hC : (Kd.int .u8).C w A xs.length xs) (hb : Byts xs) (hc : xs.length ≤ c) (h : 2 ≤ xs.length) (hm : xs[0] = 165) (sz k : Int) (hd : dn 8 (xs.drop 2) 0 0 = (sz, k, 0)) (hbig : 1048576 < sz) :
    Calls Tryd.prog 17 #[.slice A xs.length c] w (NoFrame w 21) := by
  have HB := Aside0.mk (Below.refl w.heap.size w)
  obtain ⟨ad, rfl, hcell⟩ := get_byte hC 0 (by omega)
  have hcell' : w.cell? ad = some (.int .u8 165) := by rw [← hm]; simpa [Addr.add] using hcell
  obtain ⟨i0, hi0, _, hsz, _⟩ := info_parts info5
  obtain ⟨n, hn⟩ : ∃ n, n = xs.length := ⟨_, rfl⟩
  have hD := Kd.C_drop (m := 2) hC h hc
  have hl2 : (xs.drop 2).length = n - 2 := by rw [hn]; simp
  have hcut := cut_from (P := Tryd.prog) 22 5 .i64 Tryd.underlying22 hi0 1 hsz (some ad) n c (2 : Int) (by omega) (by omega)
  rw [show ((2 : Int)).toNat = 2 from rfl] at hcut
  obtain ⟨A2, hA2⟩ : ∃ A2, A2 = (if c = 2 then some ad else (some ad).map fun x => x.add (2 * 1)) := ⟨_, rfl⟩
  have hA2' : (if c = 2 then some ad else (some ad).map fun x => x.add (2 * (Kd.int .u8).sz)) = A2 := by rw [hA2]; rfl
  rw [← hA2] at hcut
  rw [hA2'] at hD
  obtain ⟨n2, hn2⟩ : ∃ n2, n2 = n - 2 := ⟨_, rfl⟩
  obtain ⟨c2, hc2⟩ : ∃ c2, c2 = c - 2 := ⟨_, rfl⟩
  have hnum := codec_number.calls 9 A2 c2 (xs.drop 2) _ _ _ w hD (by rw [hl2]; omega) ((number_is' (xs.drop 2) (fun x hx => hb x (List.mem_of_mem_drop hx))).trans (congrArg some hd))
  rw [hl2, ← hn2] at hnum
  rw [← hn2, ← hc2] at hcut
  have HNUM := Aside0.mk hnum
  have HN := Aside0.mk hn
  have HN2 := Aside0.mk hn2
  have HC := Aside0.mk hC
  have HCC := Aside0.mk hc
  rw [← hn] at h hc ⊢
  have g0 : decide (0 < n) = true := decide_eq_true (by omega)
  have g2 : (0 : Int) < (n : Int) := by omega
  have g3 : decide (n < 2) = false := decide_eq_false (by omega)
  have g5 : decide (1048576 < sz) = true := decide_eq_true hbig
  clear hC hn hn2 hc2 hD hA2 hA2' hl2 hnum hd hm hb hcell
  clear hbig
  go_enter Tryd.func17, Tryd.ntmps17
  go_wp2_with fail
  refine HNUM.out.mono ?_
  rintro e w' ⟨rfl, ⟨nd, rfl⟩⟩
  go_wp2
  exact bodyPost_ret (v := .tuple #[.int .i64 0, .slice none 0 0, .int .i64 0, .int .i64 21]) (by simp [results, Tryd.results17, go_sem]) rfl ⟨rfl, pw_below_drewN HB.out nd⟩
set_option maxHeartbeats 1000000 in
/-- the bytes end within the frame -/
theorem un_end (A : Option Addr) (c : Nat) (xs : List Int) (w : World) (hC : (Kd.int .u8).C w A xs.length xs) (hb : Byts xs) (hc : xs.length ≤ c) (h : 2 ≤ xs.length) (hm : xs[0] = 165) (sz k : Nat) (hd : dn 8 (xs.drop 2) 0 0 = ((sz : Int), (k : Int), 0)) (hbig : sz ≤ 1048576) (hk : k ≤ 8) (hend : xs.length < k + 6 + sz) (hx : xs.length ≤ 9223372036854775807) :
    Calls Tryd.prog 17 #[.slice A xs.length c] w (NoFrame w 20) := by
  have HB := Aside0.mk (Below.refl w.heap.size w)
  obtain ⟨ad, rfl, hcell⟩ := get_byte hC 0 (by omega)
  have hcell' : w.cell? ad = some (.int .u8 165) := by rw [← hm]; simpa [Addr.add] using hcell
  obtain ⟨i0, hi0, _, hsz, _⟩ := info_parts info5
  obtain ⟨n, hn⟩ : ∃ n, n = xs.length := ⟨_, rfl⟩
  have hD := Kd.C_drop (m := 2) hC h hc
  have hl2 : (xs.drop 2).length = n - 2 := by rw [hn]; simp
  have hcut := cut_from (P := Tryd.prog) 22 5 .i64 Tryd.underlying22 hi0 1 hsz (some ad) n c (2 : Int) (by omega) (by omega)
  rw [show ((2 : Int)).toNat = 2 from rfl] at hcut
  obtain ⟨A2, hA2⟩ : ∃ A2, A2 = (if c = 2 then some ad else (some ad).map fun x => x.add (2 * 1)) := ⟨_, rfl⟩
  have hA2' : (if c = 2 then some ad else (some ad).map fun x => x.add (2 * (Kd.int .u8).sz)) = A2 := by rw [hA2]; rfl
  rw [← hA2] at hcut
  rw [hA2'] at hD
  obtain ⟨n2, hn2⟩ : ∃ n2, n2 = n - 2 := ⟨_, rfl⟩
  obtain ⟨c2, hc2⟩ : ∃ c2, c2 = c - 2 := ⟨_, rfl⟩
  have hnum := codec_number.calls 9 A2 c2 (xs.drop 2) _ _ _ w hD (by rw [hl2]; omega) ((number_is' (xs.drop 2) (fun x hx => hb x (List.mem_of_mem_drop hx))).trans (congrArg some hd))
  rw [hl2, ← hn2] at hnum
  rw [← hn2, ← hc2] at hcut
  have HNUM := Aside0.mk hnum
  have HN := Aside0.mk hn
  have HN2 := Aside0.mk hn2
  have HC := Aside0.mk hC
  have HCC := Aside0.mk hc
  rw [← hn] at h hc ⊢
  have g0 : decide (0 < n) = true := decide_eq_true (by omega)
  have g2 : (0 : Int) < (n : Int) := by omega
  have g3 : decide (n < 2) = false := decide_eq_false (by omega)
  rw [← HN.out] at hend hx
  have g5 : decide ((1048576 : Int) < (sz : Int)) = false := decide_eq_false (by omega)
  have g6 : decide ((n : Int) - ((k : Int) + 2) < 4 + (sz : Int)) = true := decide_eq_true (by omega)
  have g7 : (0 : Int) ≤ (k : Int) + 2 := by omega
  have g8 : (sz : Int) ≤ 1048576 := by omega
  have g9 : (k : Int) ≤ 8 := by omega
  clear hC hn hn2 hc2 hD hA2 hA2' hl2 hnum hd hm hb hcell
  clear hbig hend
  go_enter Tryd.func17, Tryd.ntmps17
  go_wp2_with fail
  refine HNUM.out.mono ?_
  rintro e w' ⟨rfl, ⟨nd, rfl⟩⟩
  go_wp2
  exact bodyPost_ret (v := .tuple #[.int .i64 0, .slice none 0 0, .int .i64 0, .int .i64 20]) (by simp [results, Tryd.results17, go_sem]) rfl ⟨rfl, pw_below_drewN HB.out nd⟩
/-- four bytes as a number, the highest first -/
def be (a b c d : Int) : Int := a * 16777216 + b * 65536 + c * 256 + d
theorem be_bits (a b c d : Int) (a0 : 0 ≤ a) (a1 : a < 256) (b0 : 0 ≤ b) (b1 : b < 256) (c0 : 0 ≤ c) (c1 : c < 256) (d0 : 0 ≤ d) (d1 : d < 256) :
    Go.bits .or .u32 (Go.bits .or .u32 (Go.bits .or .u32 (a * 16777216) (b * 65536)) (c * 256)) d = be a b c d := by
  have hk : ∀ n : Int, 0 ≤ n → n < 2 ^ 32 → IntKind.u32.wrap n = n := fun n h0 h1 => by rw [wrap_u32]; omega
  rw [bits_join .u32 32 (by decide) hk 24 (a * 16777216) (b * 65536) (by omega) (by omega) (by omega) (by omega) (by omega) (by omega)]
  rw [bits_join .u32 32 (by decide) hk 16 (a * 16777216 + b * 65536) (c * 256) (by omega) (by omega) (by omega) (by omega) (by omega) (by omega)]
  rw [bits_join .u32 32 (by decide) hk 8 (a * 16777216 + b * 65536 + c * 256) d (by omega) (by omega) (by omega) (by omega) (by omega) (by omega)]
  rfl
set_option maxHeartbeats 2000000 in
/-- the sum is another one, or it is the frame -/
theorem un_sum (A : Option Addr) (c : Nat) (xs : List Int) (w : World) (hC : (Kd.int .u8).C w A xs.length xs) (hb : Byts xs) (hc : xs.length ≤ c) (h : 2 ≤ xs.length) (hm : xs[0] = 165) (sz k : Nat) (hd : dn 8 (xs.drop 2) 0 0 = ((sz : Int), (k : Int), 0)) (hbig : sz ≤ 1048576) (hk : k ≤ 8) (hk1 : 1 ≤ k) (hend : k + 6 + sz ≤ xs.length) (hx : xs.length ≤ 9223372036854775000) (hT : Tab w)
    (S : Int) (hS : S = crc ((xs.take (k + 2)).drop 1 ++ (xs.take (k + 6 + sz)).drop (k + 6))) (x0 x1 x2 x3 kd : Int) (e0 : xs[k + 2]? = some x0) (e1 : xs[k + 3]? = some x1) (e2 : xs[k + 4]? = some x2) (e3 : xs[k + 5]? = some x3) (ek : xs[1]? = some kd) :
    Calls Tryd.prog 17 #[.slice A xs.length c] w fun e w' => Below w.heap.size w w' ∧ ((S ≠ be x0 x1 x2 x3 ∧ e = .returned (.tuple #[.int .i64 0, .slice none 0 0, .int .i64 0, .int .i64 22])) ∨
      (S = be x0 x1 x2 x3 ∧ ∃ v, e = .returned (.tuple #[.int .i64 kd, v, .int .i64 ((k + 6 + sz : Nat) : Int), .int .i64 0]) ∧ Kd.R (Kd.int .u8) 5 w' w.heap.size (fun _ => True) v ((xs.take (k + 6 + sz)).drop (k + 6)))) := by
  have HB := Aside0.mk (Below.refl w.heap.size w)
  obtain ⟨ad, rfl, hcell⟩ := get_byte hC 0 (by omega)
  have hcell' : w.cell? ad = some (.int .u8 165) := by rw [← hm]; simpa [Addr.add] using hcell
  obtain ⟨i0, hi0, _, hsz, _⟩ := info_parts info5
  obtain ⟨n, hn⟩ : ∃ n, n = xs.length := ⟨_, rfl⟩
  have hD := Kd.C_drop (m := 2) hC h hc
  have hl2 : (xs.drop 2).length = n - 2 := by rw [hn]; simp
  have hcut := cut_from (P := Tryd.prog) 22 5 .i64 Tryd.underlying22 hi0 1 hsz (some ad) n c (2 : Int) (by omega) (by omega)
  rw [show ((2 : Int)).toNat = 2 from rfl] at hcut
  obtain ⟨A2, hA2⟩ : ∃ A2, A2 = (if c = 2 then some ad else (some ad).map fun x => x.add (2 * 1)) := ⟨_, rfl⟩
  have hA2' : (if c = 2 then some ad else (some ad).map fun x => x.add (2 * (Kd.int .u8).sz)) = A2 := by rw [hA2]; rfl
  rw [← hA2] at hcut
  rw [hA2'] at hD
  obtain ⟨n2, hn2⟩ : ∃ n2, n2 = n - 2 := ⟨_, rfl⟩
  obtain ⟨c2, hc2⟩ : ∃ c2, c2 = c - 2 := ⟨_, rfl⟩
  have hnum := codec_number.calls 9 A2 c2 (xs.drop 2) _ _ _ w hD (by rw [hl2]; omega) ((number_is' (xs.drop 2) (fun x hx => hb x (List.mem_of_mem_drop hx))).trans (congrArg some hd))
  rw [hl2, ← hn2] at hnum
  rw [← hn2, ← hc2] at hcut
  have HNUM := Aside0.mk hnum
  have HN := Aside0.mk hn
  have HN2 := Aside0.mk hn2
  have HC := Aside0.mk hC
  have HCC := Aside0.mk hc
  rw [← hn] at h hc ⊢
  have g0 : decide (0 < n) = true := decide_eq_true (by omega)
  have g2 : (0 : Int) < (n : Int) := by omega
  have g3 : decide (n < 2) = false := decide_eq_false (by omega)
  rw [← HN.out] at hend hx
  obtain ⟨K, hK⟩ : ∃ K, K = k + 2 := ⟨_, rfl⟩
  obtain ⟨K1, hK1⟩ : ∃ K1, K1 = k + 3 := ⟨_, rfl⟩
  obtain ⟨K2, hK2⟩ : ∃ K2, K2 = k + 4 := ⟨_, rfl⟩
  obtain ⟨K3, hK3⟩ : ∃ K3, K3 = k + 5 := ⟨_, rfl⟩
  obtain ⟨K4, hK4⟩ : ∃ K4, K4 = k + 6 := ⟨_, rfl⟩
  obtain ⟨E, hE⟩ : ∃ E, E = k + 6 + sz := ⟨_, rfl⟩
  rw [← hK] at e0 hS
  rw [← hK1] at e1
  rw [← hK2] at e2
  rw [← hK3] at e3
  rw [← hE, ← hK4] at hS
  rw [← hE, ← hK4]
  -- the cells
  have cell_of : ∀ (i : Nat) (x : Int), xs[i]? = some x → w.cell? (ad.add i) = some (.int .u8 x) ∧ 0 ≤ x ∧ x < 256 := by
    intro i x hi
    obtain ⟨hlt, rfl⟩ := List.getElem?_eq_some_iff.1 hi
    obtain ⟨ad', e', hc'⟩ := get_byte HC.out i hlt
    injection e' with e'
    subst e'
    exact ⟨hc', hb _ (List.getElem_mem hlt)⟩
  obtain ⟨d0, b0, b0'⟩ := cell_of _ _ e0
  obtain ⟨d1, b1, b1'⟩ := cell_of _ _ e1
  obtain ⟨d2, b2, b2'⟩ := cell_of _ _ e2
  obtain ⟨d3, b3, b3'⟩ := cell_of _ _ e3
  obtain ⟨dk, bk, bk'⟩ := cell_of _ _ ek
  have hbe := be_bits x0 x1 x2 x3 b0 b0' b1 b1' b2 b2' b3 b3'
  obtain ⟨Bv, hBv⟩ : ∃ Bv, Bv = be x0 x1 x2 x3 := ⟨_, rfl⟩
  rw [← hBv] at hbe ⊢
  -- the cuts
  have hcut2 := cut_mid (P := Tryd.prog) 22 5 .i64 .i64 Tryd.underlying22 hi0 1 hsz (some ad) n c (K4 : Int) (E : Int) (by omega) (by omega) (by omega) hc
  have hcut3 := cut_mid (P := Tryd.prog) 22 5 .i64 .i64 Tryd.underlying22 hi0 1 hsz (some ad) n c (1 : Int) (K : Int) (by omega) (by omega) (by omega) hc
  rw [Int.toNat_natCast, Int.toNat_natCast, show E - K4 = sz by omega] at hcut2
  rw [Int.toNat_natCast, show ((1 : Int)).toNat = 1 from rfl] at hcut3
  have hM2 := Kd.C_mid (k := Kd.int .u8) (lo := K4) (hi := E) HC.out (by omega) (by rw [← HN.out]; omega) HCC.out
  have hM3 := Kd.C_mid (k := Kd.int .u8) (lo := 1) (hi := K) HC.out (by omega) (by rw [← HN.out]; omega) HCC.out
  have hl3 : ((xs.take K).drop 1).length = K - 1 := by rw [List.length_drop, List.length_take, ← HN.out]; omega
  have hl4 : ((xs.take E).drop K4).length = sz := by rw [List.length_drop, List.length_take, ← HN.out]; omega
  obtain ⟨A3, hA3⟩ : ∃ A3, A3 = (if c = K4 then some ad else (some ad).map fun x => x.add (K4 * 1)) := ⟨_, rfl⟩
  have hA3' : (if c = K4 then some ad else (some ad).map fun x => x.add (K4 * (Kd.int .u8).sz)) = A3 := by rw [hA3]; rfl
  obtain ⟨A4, hA4⟩ : ∃ A4, A4 = (if c = 1 then some ad else (some ad).map fun x => x.add (1 * 1)) := ⟨_, rfl⟩
  have hA4' : (if c = 1 then some ad else (some ad).map fun x => x.add (1 * (Kd.int .u8).sz)) = A4 := by rw [hA4]; rfl
  rw [← hA3] at hcut2
  rw [← hA4] at hcut3
  rw [hA3'] at hM2
  rw [hA4'] at hM3
  obtain ⟨c3, hc3⟩ : ∃ c3, c3 = c - K4 := ⟨_, rfl⟩
  obtain ⟨c4, hc4⟩ : ∃ c4, c4 = c - 1 := ⟨_, rfl⟩
  obtain ⟨n4, hn4⟩ : ∃ n4, n4 = K - 1 := ⟨_, rfl⟩
  rw [← hc3] at hcut2
  rw [← hc4, ← hn4] at hcut3
  obtain ⟨ys, hys⟩ : ∃ ys, ys = (xs.take E).drop K4 := ⟨_, rfl⟩
  obtain ⟨zs, hzs⟩ : ∃ zs, zs = (xs.take K).drop 1 := ⟨_, rfl⟩
  rw [← hys] at hM2 hl4 hS ⊢
  rw [← hzs] at hM3 hl3 hS
  have hcl := fun m => clone_any A3 c3 ys (w.drewN m) (Kd.C_drewN hM2 m) (by omega) (by omega)
  rw [hl4] at hcl hM2
  rw [hl3, ← hn4] at hM3
  have HCL := Aside0.mk hcl
  have HM3 := Aside0.mk hM3
  have HYB := Aside0.mk (show ∀ x ∈ zs ++ ys, 0 ≤ x ∧ x < 256 by
    intro x hx
    rcases List.mem_append.1 hx with h | h
    · rw [hzs] at h; exact hb x (List.mem_of_mem_take (List.mem_of_mem_drop h))
    · rw [hys] at h; exact hb x (List.mem_of_mem_take (List.mem_of_mem_drop h)))
  have HL3 := Aside0.mk (show n4 = zs.length by rw [hl3, hn4])
  have HL4 := Aside0.mk (show sz = ys.length by rw [hl4])
  have HT := Aside0.mk hT
  have HS := Aside0.mk hS
  have HC4 := Aside0.mk (show n4 ≤ c4 by omega)
  have HLS := Aside0.mk (show zs.length + ys.length ≤ 140737488351232 by omega)
  -- the sums
  have j0 : (k : Int) + 2 = (K : Int) := by omega
  have j4 : (K : Int) + 4 = (K4 : Int) := by omega
  clear hBv
  have jE : (K4 : Int) + (sz : Int) = (E : Int) := by omega
  have q1 : (K : Int) + 1 = (K1 : Int) := by omega
  have q2 : (K : Int) + 2 = (K2 : Int) := by omega
  have q3 : (K : Int) + 3 = (K3 : Int) := by omega
  have r1 : IntKind.i64.wrap ((K : Int) + 1) = (K1 : Int) := by rw [q1]; simp [IntKind.wrap, IntKind.bits, IntKind.signed]; omega
  have r2 : IntKind.i64.wrap ((K : Int) + 2) = (K2 : Int) := by rw [q2]; simp [IntKind.wrap, IntKind.bits, IntKind.signed]; omega
  have r3 : IntKind.i64.wrap ((K : Int) + 3) = (K3 : Int) := by rw [q3]; simp [IntKind.wrap, IntKind.bits, IntKind.signed]; omega
  have g5 : decide ((1048576 : Int) < (sz : Int)) = false := decide_eq_false (by omega)
  have g6 : decide ((n : Int) - (K : Int) < 4 + (sz : Int)) = false := decide_eq_false (by omega)
  have g8 : (sz : Int) ≤ 1048576 := by omega
  have g9 : (k : Int) ≤ 8 := by omega
  have i0' : (K : Int) < (n : Int) := by omega
  have i1 : (K1 : Int) < (n : Int) := by omega
  have i2 : (K2 : Int) < (n : Int) := by omega
  have i3 : (K3 : Int) < (n : Int) := by omega
  have i0n : K < n := by omega
  have i1n : K1 < n := by omega
  have i2n : K2 < n := by omega
  have i3n : K3 < n := by omega
  have iK : (K : Int) ≤ 10 := by omega
  have iE : (E : Int) ≤ 1048590 := by omega
  have iK4 : (K4 : Int) ≤ 14 := by omega
  have i1k : (1 : Int) < (n : Int) := by omega
  clear hC hn hn2 hc2 hD hA2 hA2' hl2 hnum hd hm hb hcell
  clear hbig hend hK hK1 hK2 hK3 hK4 hE cell_of hA3 hA3' hA4 hA4' hc3 hc4 hn4 hys hzs hl3 hl4 hM2 hM3 hcl hS hT e0 e1 e2 e3 ek q1 q2 q3 hk hk1
  go_enter Tryd.func17, Tryd.ntmps17
  go_wp2_with fail
  refine HNUM.out.mono ?_
  rintro e w' ⟨rfl, ⟨nd, rfl⟩⟩
  go_wp2_with fail
  refine (HCL.out nd).mono ?_
  rintro e w1 ⟨v3, rfl, hr3, hb3⟩
  have HB1 := Aside0.mk (below_step (pw_below_drewN HB.out nd) hb3)
  have HR3 := Aside0.mk hr3
  obtain ⟨A5, c5, rfl, hc5, hC5⟩ := Kd.R_reads hr3
  rw [← HL4.out] at hc5 hC5 ⊢
  have HC5 := Aside0.mk hC5
  have HC5' := Aside0.mk hc5
  have D0 := pw_cell_below HB1.out d0
  have D1 := pw_cell_below HB1.out d1
  have D2 := pw_cell_below HB1.out d2
  have D3 := pw_cell_below HB1.out d3
  have DK := Aside0.mk dk
  clear hr3 hb3 hC5 hc5 d0 d1 d2 d3 dk hcell'
  go_wp2_with fail
  go_quiet (fail)
  have HM3w := Aside0.mk (Kd.C_drewN (Kd.C_below HM3.out HB1.out) nq)
  have HC5w := Aside0.mk (Kd.C_drewN HC5.out nq)
  have HBw := Aside0.mk (pw_below_drewN HB1.out nq)
  have HR3w := Aside0.mk (Kd.R_drewN HR3.out nq)
  clear D0 D1 D2 D3 hbe
  obtain ⟨W, hW⟩ : ∃ W, W = w1.drewN nq := ⟨_, rfl⟩
  rw [← hW] at HM3w HC5w HBw HR3w ⊢
  clear hW
  have HCC2 := Aside0.mk (concat2 W A4 A5 c4 c5 n4 sz zs ys HL3.out HL4.out HC4.out HC5'.out HM3w.out HC5w.out HLS.out)
  go_wp2_with fail
  refine HCC2.out.mono ?_
  rintro e w4 ⟨v4, rfl, hr4, hb4⟩
  have HB4 := Aside0.mk (below_step (below_alloc HBw.out _) hb4)
  have HR3x := Aside0.mk (Kd.R_lower (Kd.R_below (Kd.R_alloc HR3w.out _) hb4) (show w.heap.size ≤ (w.drewN nd).heap.size from Nat.le_refl _))
  obtain ⟨qs, hqs⟩ : ∃ qs, qs = zs ++ ys := ⟨_, rfl⟩
  have hsS := HS.out
  have hyb := HYB.out
  rw [← hqs] at hr4 hsS hyb
  obtain ⟨A6, c6, rfl, hc6, hC6⟩ := Kd.R_reads hr4
  have hsum := sum_is A6 c6 qs w4 hC6 hyb (Fm.Tab_below HT.out HB4.out)
  rw [← hsS] at hsum
  obtain ⟨m6, hm6⟩ : ∃ m6, m6 = qs.length := ⟨_, rfl⟩
  rw [← hm6] at hsum ⊢
  have HSUM := Aside0.mk hsum
  have dk4 := pw_cell_below HB4.out DK.out
  have dk5 : w4.cell? { block := ad.block, off := ad.off + 1 } = some (.int .u8 kd) := by simpa [Addr.add] using dk4
  have jL : (E : Int) = ((E : Nat) : Int) := rfl
  clear hsum hr4 hb4 hC6 hc6 hqs hyb hsS hm6 HCC2 jL
  go_wp2_with fail
  refine HSUM.out.mono ?_
  rintro e w' ⟨rfl, rfl⟩
  by_cases hSB : S = Bv
  · have g10 : (S != Bv) = false := by simpa using hSB
    have HSB := Aside0.mk hSB
    clear hSB
    go_wp2
    exact bodyPost_ret (v := .tuple #[.int .i64 kd, .slice A5 sz c5, .int .i64 (E : Int), .int .i64 0]) (by simp [results, Tryd.results17, go_sem]) rfl ⟨HB4.out, .inr ⟨HSB.out, _, rfl, by have := HR3x.out; rw [← HL4.out] at this; exact this⟩⟩
  · have g10 : (S != Bv) = true := by simpa using hSB
    have HSB := Aside0.mk hSB
    clear hSB
    go_wp2
    exact bodyPost_ret (v := .tuple #[.int .i64 0, .slice none 0 0, .int .i64 0, .int .i64 22]) (by simp [results, Tryd.results17, go_sem]) rfl ⟨HB4.out, .inl ⟨HSB.out, rfl⟩⟩
end Go.Proofs.YtpgcbdopnkbmhaaDoor.Un
