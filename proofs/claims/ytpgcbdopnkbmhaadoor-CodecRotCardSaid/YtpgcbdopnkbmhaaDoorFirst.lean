/- The law CodecFirst, walked: it answers true where the bytes behind the frame have room. -/
import Derived.Test.YtpgcbdopnkbmhaaDoorUf
import Derived.Test.YtpgcbdopnkbmhaaDoorFrames
import Derived.Test.YtpgcbdopnkbmhaaDoorBk
namespace Go.Proofs.YtpgcbdopnkbmhaaDoor.First
set_option linter.unusedVariables false
open Go.RowKit Go.Proofs.YtpgcbdopnkbmhaaDoorW.PrintWords Go.Proofs.YtpgcbdopnkbmhaaDoorW.PrintLast Go.Proofs.YtpgcbdopnkbmhaaDoorW.PrintMore
open Go.Proofs.YtpgcbdopnkbmhaaDoor.A Go.Proofs.YtpgcbdopnkbmhaaDoor.Cn Go.Proofs.YtpgcbdopnkbmhaaDoor.Dn Go.Proofs.YtpgcbdopnkbmhaaDoor.Cr Go.Proofs.YtpgcbdopnkbmhaaDoor.Fr Go.Proofs.YtpgcbdopnkbmhaaDoor.Su Go.Proofs.YtpgcbdopnkbmhaaDoor.Le Go.Proofs.YtpgcbdopnkbmhaaDoor.Cc Go.Proofs.YtpgcbdopnkbmhaaDoor.Fm Go.Proofs.YtpgcbdopnkbmhaaDoor.Un Go.Proofs.YtpgcbdopnkbmhaaDoor.Uf Go.Proofs.YtpgcbdopnkbmhaaDoor.Frames Go.Proofs.YtpgcbdopnkbmhaaDoor.Kn
/-- the place: a whole number brought into a length -/
theorem rem_in (x : Int) (L : Nat) (hL : 0 < L) : ∃ (T : Int) (p : Nat), Int.tmod x L = T ∧ Int.tmod (T + L) L = p ∧ (T + L) % L = p ∧ p < L ∧ -(L : Int) < T ∧ T < L := by
  have h1 : Int.tmod x L < L := Int.tmod_lt_of_pos x (by omega)
  have h2 : -(L : Int) < Int.tmod x L := Int.lt_tmod_of_pos x (by omega)
  refine ⟨Int.tmod x L, ((Int.tmod x L + L) % L).toNat, rfl, ?_, ?_, ?_, h2, h1⟩
  · rw [Int.tmod_eq_emod_of_nonneg (by omega), Int.toNat_of_nonneg (Int.emod_nonneg _ (by omega))]
  · rw [Int.toNat_of_nonneg (Int.emod_nonneg _ (by omega))]
  · have := Int.emod_lt_of_pos (Int.tmod x L + L) (show (0 : Int) < L by omega)
    have h3 := Int.emod_nonneg (Int.tmod x L + L) (show (L : Int) ≠ 0 by omega)
    omega
set_option maxHeartbeats 2000000 in
theorem walk (kind : Int) (A : Option Addr) (c : Nat) (b : List Int) (A2 : Option Addr) (c2 : Nat) (more : List Int) (cut : Int) (w : World)
    (hC : (Kd.int .u8).C w A b.length b) (hb : ∀ x ∈ b, 0 ≤ x ∧ x < 256) (hc : b.length ≤ c) (hl : b.length ≤ 140737488351232)
    (hC2 : (Kd.int .u8).C w A2 more.length more) (hb2 : ∀ x ∈ more, 0 ≤ x ∧ x < 256) (hc2 : more.length ≤ c2) (hl2 : more.length ≤ 70368744177664) (hT : Tab w) :
    Calls Tryd.prog 5 #[.int .i64 kind, .slice A b.length c, .slice A2 more.length c2, .int .i64 cut] w fun e w' => e = .returned (.bool true) ∧ Below w.heap.size w w' := by
  have HT := Aside0.mk hT
  have HFA := Aside0.mk (frame_any kind A c b w hC hb hc hT)
  by_cases hbad : (frameR kind b).2 ≠ 0
  · obtain ⟨f1, f2, hf⟩ : ∃ f1 f2, frameR kind b = (f1, f2) := ⟨_, _, rfl⟩
    rw [hf] at hbad HFA
    have g0 : (f2 != 0) = true := by simpa using hbad
    clear hbad hC hC2 hT hb hb2 hf
    go_enter Tryd.func5, Tryd.ntmps5
    go_wp2_with fail
    refine HFA.out.mono ?_
    rintro e w1 ⟨v1, rfl, hr1, hb1⟩
    have HB1 := Aside0.mk hb1
    clear hr1 hb1
    go_wp2_with fail
    refine (num_any _ _).mono ?_
    rintro e w' ⟨rfl, rfl⟩
    go_wp2_with fail
    refine (knows_true _).mono ?_
    rintro e w6 ⟨rfl, b6⟩
    have B6 := Aside0.mk b6
    clear b6
    go_wp2
    go_ret
    exact ⟨rfl, below_step HB1.out B6.out⟩
  · have hgood : ¬ (kind < 0 ∨ 255 < kind) ∧ ¬ 1048576 < b.length := by
      unfold frameR at hbad
      by_cases h : kind < 0 ∨ 255 < kind
      · rw [if_pos h] at hbad; simp at hbad
      · rw [if_neg h] at hbad
        by_cases h' : 1048576 < b.length
        · rw [if_pos h'] at hbad; simp at hbad
        · exact ⟨h, h'⟩
    have hfr : frameR kind b = (frameB kind b, 0) := by unfold frameR; rw [if_neg hgood.1, if_neg hgood.2]
    rw [hfr] at HFA
    have hk0 : 0 ≤ kind := by omega
    have hk1 : kind ≤ 255 := by omega
    have hlb : b.length ≤ 1048576 := by omega
    have hfl := frameB_len kind b
    have he1 := enc_pos 7 (b.length : Int)
    have he8 := enc_len8 (b.length : Int)
    obtain ⟨fr, hfrm⟩ : ∃ fr, fr = frameB kind b := ⟨_, rfl⟩
    have HFE := Aside0.mk hfrm
    rw [← hfrm] at HFA hfl
    obtain ⟨L, hL⟩ : ∃ L, L = fr.length := ⟨_, rfl⟩
    rw [← hL] at hfl
    have HLL := Aside0.mk hL
    obtain ⟨T, p, q1, q2, q3, hp, hT1, hT2⟩ := rem_in cut L (by omega)
    obtain ⟨n, hn⟩ : ∃ n, n = b.length := ⟨_, rfl⟩
    obtain ⟨m, hm⟩ : ∃ m, m = more.length := ⟨_, rfl⟩
    have HN := Aside0.mk hn
    have HM := Aside0.mk hm
    have hL9 : n + 7 ≤ L := by omega
    have hLu : (L : Int) ≤ 1048600 := by omega
    have g1 : decide ((L : Int) < (n : Int) + 7) = false := decide_eq_false (by omega)
    have g2 : ((L : Int) == 0) = false := beq_eq_false_iff_ne.2 (by omega)
    have hHB := Aside0.mk hb
    have hHB2 := Aside0.mk hb2
    have HC := Aside0.mk hC
    have HC2 := Aside0.mk hC2
    have HCC2 := Aside0.mk hc2
    rw [← hn] at HFA ⊢
    rw [← hm] at hl2 ⊢
    have HC2m := Aside0.mk (show (Kd.int .u8).C w A2 m more by rw [hm]; exact hC2)
    have hcv2 := Kd.C_string (P := Tryd.prog) (c := c) Tryd.underlying22 Tryd.underlying5 Tryd.underlying9 hC
    clear hbad hC hC2 hT hb hb2 hfr hgood hfl he1 he8 hfrm hL hn hm hc2 hcv2
    obtain ⟨i0, hi0, _, hsz, _⟩ := info_parts info5
    go_enter Tryd.func5, Tryd.ntmps5
    go_wp2_with fail
    refine HFA.out.mono ?_
    rintro e w1 ⟨v1, rfl, hr1, hb1⟩
    obtain ⟨A1, c1, rfl, hc1, hC1⟩ := Kd.R_reads hr1
    rw [← HLL.out] at hc1 hC1 ⊢
    have HC1 := Aside0.mk hC1
    have HB1 := Aside0.mk hb1
    have hcut := cut_to (P := Tryd.prog) 22 5 .i64 Tryd.underlying22 hi0 A1 L c1 (p : Int) (by omega) (by omega) hc1
    rw [Int.toNat_natCast] at hcut
    clear hr1 hb1 hC1
    go_wp2_with fail
    refine (num_any _ _).mono ?_
    rintro e w' ⟨rfl, rfl⟩
    go_wp2_with (first
      | ((with_reducible refine gate_dst (N := 38) rfl ?_); refine Kd.R_lit (Kd.int .u8) _ 5 ?hg (N := 38) ?hd (xs := ([] : List Int)) (inner := []) (ok := fun _ => True) (okp := fun _ => True) ?hr ?hp (fun _ hk => hk) trivial (Below.refl _ _) (Nat.le_refl _) (by simp) ?_; (case hd => rfl); (case hg => rfl); (case hr => first | (go_simp; done) | (go_simp; rfl)); (case hp => exact (Reps.none _ _)); intro v2 w2 ho hb hg_ hnew_; clear hg_ hnew_; have HR2 := Aside0.mk ho; have HB2 := Aside0.mk hb; have HC1a := Aside0.mk (Kd.C_below HC1.out hb); clear hb ho)
      | ((with_reducible refine gate_builtin (b := .append) (xs := #[.tmp 38, .tmp 39]) rfl ?_); at_builtin; refine Kd.R_append_row (Value.int .u8) (0 : Int) (h1 := fun _ => rfl) (w0 := w1) w1.heap.size rfl (.tmp 38) (.tmp 39) 22 5 (.int .u8 0) 1 rfl Tryd.underlying22 info5 rfl (by decide) v2 [] fr A1 L c1 (fun _ => True) rfl rfl (fun _ _ => trivial) HR2.out HC1a.out HB2.out HB2.out.size ?aL ?_; (case aL => simp; omega); intro v3 w3 ho hb hg hat; have HR3 := Aside0.mk (show (Kd.int .u8).R 5 w3 w1.heap.size (fun _ => True) v3 fr from ho); have HB3 := Aside0.mk hb; clear ho hb hg hat)
      | ((with_reducible refine gate_builtin (b := .append) (xs := #[.tmp 40, .tmp 41]) rfl ?_); at_builtin; refine Kd.R_append_row (Value.int .u8) (0 : Int) (h1 := fun _ => rfl) (w0 := w1) w1.heap.size rfl (.tmp 40) (.tmp 41) 22 5 (.int .u8 0) 1 rfl Tryd.underlying22 info5 rfl (by decide) v3 fr more A2 m c2 (fun _ => True) rfl rfl (fun _ _ => trivial) HR3.out (Kd.C_below HC2m.out (below_step HB1.out HB3.out)) HB3.out HB3.out.size ?aL ?_; (case aL => have := HLL.out; omega); intro v4 w4 ho hb hg hat; have HR4 := Aside0.mk ho; have HB4 := Aside0.mk hb; clear ho hb hg hat)
      | fail)
    obtain ⟨A4, c4, rfl, hc4, hC4⟩ := Kd.R_reads HR4.out
    have hun := un_frame kind hk0 hk1 b more hlb hHB.out hHB2.out (by have := HM.out; omega) A4 c4 w4 (by rw [← HFE.out]; exact hC4) (by rw [← HFE.out]; exact hc4) (Fm.Tab_below HT.out (below_step HB1.out HB4.out))
    rw [← HFE.out, ← HLL.out] at hun
    obtain ⟨qq, hqq⟩ : ∃ qq, qq = (fr ++ more).length := ⟨_, rfl⟩
    rw [← hqq] at hun ⊢
    have HUN := Aside0.mk hun
    clear hun hC4 hc4 hqq
    refine HUN.out.mono ?_
    rintro e w5 ⟨v5, rfl, hr5, hb5⟩
    have HB5 := Aside0.mk (below_step HB4.out hb5)
    have hcv1 := own_string (P := Tryd.prog) Tryd.underlying22 Tryd.underlying5 Tryd.underlying9 (Kd.own_of_R hr5)
    have hcv2 := Kd.C_string (P := Tryd.prog) (c := c) Tryd.underlying22 Tryd.underlying5 Tryd.underlying9 (Kd.C_below HC.out (below_step HB1.out HB5.out))
    rw [← HN.out] at hcv2
    obtain ⟨ss, hss⟩ : ∃ ss, ss = strOfNums b := ⟨_, rfl⟩
    rw [← hss] at hcv1 hcv2
    have hCp := Kd.C_take (m := p) (xs := fr) (by rw [← HLL.out]; exact Kd.C_below HC1.out HB5.out) (by rw [← HLL.out]; omega)
    have hlp : (fr.take p).length = p := by rw [List.length_take, ← HLL.out]; omega
    rw [hlp] at hCp
    have hcu := un_cut kind b hlb hHB.out p (by rw [← HFE.out, ← HLL.out]; exact hp) A1 c1 w5 (by rw [← HFE.out]; exact hCp) (by omega)
    have HCU := Aside0.mk hcu
    clear hr5 hb5 hCp hlp hcu hss
    go_wp2_with fail
    refine (num_any _ _).mono ?_
    rintro e w' ⟨rfl, rfl⟩
    go_wp2_with fail
    refine HCU.out.mono ?_
    rintro e w6 ⟨rfl, hb6⟩
    have HB6 := Aside0.mk hb6
    clear hb6
    go_wp2_with fail
    refine (num_any _ _).mono ?_
    rintro e w' ⟨rfl, rfl⟩
    go_wp2_with fail
    refine (knows_true _).mono ?_
    rintro e w7 ⟨rfl, b7⟩
    have B7 := Aside0.mk b7
    clear b7
    go_wp2
    go_ret
    exact ⟨rfl, below_step (below_step (below_step HB1.out HB5.out) HB6.out) B7.out⟩
end Go.Proofs.YtpgcbdopnkbmhaaDoor.First
