/- The law CodecRot, walked: it answers true, where the table lies as its text lays it. -/
import Derived.Test.YtpgcbdopnkbmhaaDoorUr
import Derived.Test.YtpgcbdopnkbmhaaDoorFirst
namespace Go.Proofs.YtpgcbdopnkbmhaaDoor.Rot
set_option linter.unusedVariables false
open Go.RowKit Go.Proofs.YtpgcbdopnkbmhaaDoorW.PrintWords Go.Proofs.YtpgcbdopnkbmhaaDoorW.PrintLast Go.Proofs.YtpgcbdopnkbmhaaDoorW.PrintMore
open Go.Proofs.YtpgcbdopnkbmhaaDoor.A Go.Proofs.YtpgcbdopnkbmhaaDoor.Cn Go.Proofs.YtpgcbdopnkbmhaaDoor.Dn Go.Proofs.YtpgcbdopnkbmhaaDoor.Cr Go.Proofs.YtpgcbdopnkbmhaaDoor.Fr Go.Proofs.YtpgcbdopnkbmhaaDoor.Su Go.Proofs.YtpgcbdopnkbmhaaDoor.Le Go.Proofs.YtpgcbdopnkbmhaaDoor.Cc Go.Proofs.YtpgcbdopnkbmhaaDoor.Fm Go.Proofs.YtpgcbdopnkbmhaaDoor.Un Go.Proofs.YtpgcbdopnkbmhaaDoor.Uf Go.Proofs.YtpgcbdopnkbmhaaDoor.Ur Go.Proofs.YtpgcbdopnkbmhaaDoor.Frames Go.Proofs.YtpgcbdopnkbmhaaDoor.Kn Go.Proofs.YtpgcbdopnkbmhaaDoor.First
set_option maxHeartbeats 2000000 in
theorem walk (kind : Int) (A : Option Addr) (c : Nat) (b : List Int) (cut : Int) (x : Int) (w : World)
    (hC : (Kd.int .u8).C w A b.length b) (hb : ∀ x ∈ b, 0 ≤ x ∧ x < 256) (hc : b.length ≤ c) (hl : b.length ≤ 140737488351232) (hx : 0 ≤ x ∧ x < 256) (hT : Tab w) :
    Calls Tryd.prog 6 #[.int .i64 kind, .slice A b.length c, .int .i64 cut, .int .u8 x] w fun e w' => e = .returned (.bool true) ∧ Below w.heap.size w w' := by
  have HT := Aside0.mk hT
  have HFA := Aside0.mk (frame_any kind A c b w hC hb hc hT)
  by_cases hbad : (frameR kind b).2 ≠ 0
  · obtain ⟨f1, f2, hf⟩ : ∃ f1 f2, frameR kind b = (f1, f2) := ⟨_, _, rfl⟩
    rw [hf] at hbad HFA
    have g0 : (f2 != 0) = true := by simpa using hbad
    clear hbad hC hT hb hf
    go_enter Tryd.func6, Tryd.ntmps6
    go_wp2_with fail
    refine HFA.out.mono ?_
    rintro e w1 ⟨v1, rfl, hr1, hb1⟩
    have HB1 := Aside0.mk hb1
    clear hr1 hb1
    go_wp2_with fail
    refine (num_any _ _).mono ?_
    rintro e w' ⟨rfl, rfl⟩
    go_wp2_with fail
    refine (knows_true _).mono ?_
    rintro e w6 ⟨rfl, b6⟩
    have B6 := Aside0.mk b6
    clear b6
    go_wp2
    go_ret
    exact ⟨rfl, below_step HB1.out B6.out⟩
  · have hgood : ¬ (kind < 0 ∨ 255 < kind) ∧ ¬ 1048576 < b.length := by
      unfold frameR at hbad
      by_cases h : kind < 0 ∨ 255 < kind
      · rw [if_pos h] at hbad; simp at hbad
      · rw [if_neg h] at hbad
        by_cases h' : 1048576 < b.length
        · rw [if_pos h'] at hbad; simp at hbad
        · exact ⟨h, h'⟩
    have hfr : frameR kind b = (frameB kind b, 0) := by unfold frameR; rw [if_neg hgood.1, if_neg hgood.2]
    rw [hfr] at HFA
    have hlb : b.length ≤ 1048576 := by omega
    have hfl := frameB_len kind b
    have he1 := enc_pos 7 (b.length : Int)
    have he8 := enc_len8 (b.length : Int)
    have hfb := frameB_byts kind b hb hlb
    obtain ⟨fr, hfrm⟩ : ∃ fr, fr = frameB kind b := ⟨_, rfl⟩
    have HFE := Aside0.mk hfrm
    rw [← hfrm] at HFA hfl hfb
    obtain ⟨L, hL⟩ : ∃ L, L = fr.length := ⟨_, rfl⟩
    rw [← hL] at hfl
    have HLL := Aside0.mk hL
    obtain ⟨T, p, q1, q2, q3, hp, hT1, hT2⟩ := rem_in cut L (by omega)
    obtain ⟨n, hn⟩ : ∃ n, n = b.length := ⟨_, rfl⟩
    have HN := Aside0.mk hn
    have hL9 : n + 7 ≤ L := by omega
    have hLu : (L : Int) ≤ 1048600 := by omega
    have g1 : decide ((L : Int) < (n : Int) + 7) = false := decide_eq_false (by omega)
    have g2 : ((L : Int) == 0) = false := beq_eq_false_iff_ne.2 (by omega)
    have HFB := Aside0.mk hfb
    have hHB := Aside0.mk hb
    rw [← hn] at HFA ⊢
    clear hbad hC hT hb hfr hgood hfl he1 he8 hfrm hL hn hfb
    by_cases hx0 : x = 0
    · subst hx0
      go_enter Tryd.func6, Tryd.ntmps6
      go_wp2_with fail
      refine HFA.out.mono ?_
      rintro e w1 ⟨v1, rfl, hr1, hb1⟩
      obtain ⟨A1, c1, rfl, hc1, hC1⟩ := Kd.R_reads hr1
      rw [← HLL.out]
      have HB1 := Aside0.mk hb1
      clear hr1 hb1 hC1 hc1
      go_wp2_with fail
      refine (num_any _ _).mono ?_
      rintro e w' ⟨rfl, rfl⟩
      go_wp2_with fail
      refine (knows_true _).mono ?_
      rintro e w6 ⟨rfl, b6⟩
      have B6 := Aside0.mk b6
      clear b6
      go_wp2
      go_ret
      exact ⟨rfl, below_step HB1.out B6.out⟩
    · have g3 : (x == 0) = false := beq_eq_false_iff_ne.2 hx0
      have hpl : p < fr.length := by rw [← HLL.out]; exact hp
      have hfp := HFB.out fr[p] (List.getElem_mem hpl)
      have hxor := xor8_ne fr[p] x hfp hx hx0
      obtain ⟨y, hy⟩ : ∃ y, Go.bits .xor .u8 fr[p] x = y := ⟨_, rfl⟩
      rw [hy] at hxor
      have HXOR := Aside0.mk hxor
      obtain ⟨z, hz⟩ : ∃ z, z = fr[p] := ⟨_, rfl⟩
      have HZ := Aside0.mk hz
      rw [← hz] at hy
      have HX := Aside0.mk hx
      clear hxor hz hfp hx hx0
      go_enter Tryd.func6, Tryd.ntmps6
      go_wp2_with fail
      refine HFA.out.mono ?_
      rintro e w1 ⟨v1, rfl, hr1, hb1⟩
      obtain ⟨A1, c1, rfl, hc1, hC1⟩ := Kd.R_reads hr1
      obtain ⟨ad, rfl, _⟩ := get_byte hC1 p hpl
      obtain ⟨g, rfl⟩ := Kd.R_head hr1
      have hbase : w.heap.size ≤ g := Kd.R_base hr1 g rfl
      obtain ⟨hcell, hfroz⟩ := Kd.R_cell (0 : Int) hr1 (p : Int) (by omega) (by omega)
      have hput := (Kd.R_put hr1 (p : Int) y).1
      rw [Int.toNat_natCast] at hcell hfroz hput
      have hrd : rdOf (0 : Int) fr (p : Int) = z := by rw [HZ.out]; simp [rdOf, hpl]
      rw [hrd] at hcell
      have HB1 := Aside0.mk hb1
      have HB2 := Aside0.mk (show Below w.heap.size w (w1.setCell ⟨g, p, none⟩ (.int .u8 y)) from hb1.setCell hbase _)
      obtain ⟨_, _, hCs⟩ := Kd.R_reads' hput
      rw [List.length_set] at hCs
      have hun := un_rot kind b hlb hHB.out p y ⟨HXOR.out.1, HXOR.out.2.1⟩ (by rw [← HFE.out]; exact hpl) (by rw [← HFE.out, List.getElem?_eq_getElem hpl, ← HZ.out]; intro h; injection h with h; rw [HZ.out] at h; exact HXOR.out.2.2 h.symm)
        (some ⟨g, 0, none⟩) c1 (w1.setCell ⟨g, p, none⟩ (.int .u8 y)) (by rw [← HFE.out]; exact hCs) (by rw [← HFE.out]; exact hc1) (Fm.Tab_below HT.out HB2.out)
      rw [← HFE.out, ← HLL.out] at hun
      rw [← HLL.out] at hc1 ⊢
      have HUN := Aside0.mk hun
      clear hr1 hb1 hC1 hput hCs hun hrd
      go_wp2_with fail
      refine (num_any _ _).mono ?_
      rintro e w' ⟨rfl, rfl⟩
      go_wp2_with fail
      refine HUN.out.mono ?_
      rintro e w5 ⟨r1, v5, r3, r4, rfl, hor, hb5⟩
      have HB5 := Aside0.mk (below_step HB2.out hb5)
      clear hb5
      by_cases hr4 : r4 ≠ 0
      · have g4 : (r4 != 0) = true := by simpa using hr4
        clear hr4 hor
        go_wp2_with fail
        refine (num_any _ _).mono ?_
        rintro e w' ⟨rfl, rfl⟩
        go_wp2_with fail
        refine (knows_true _).mono ?_
        rintro e w7 ⟨rfl, b7⟩
        have B7 := Aside0.mk b7
        clear b7
        go_wp2
        go_ret
        exact ⟨rfl, below_step HB5.out B7.out⟩
      · have hr40 : r4 = 0 := by omega
        subst hr40
        have g5 : (r3 != (L : Int)) = true := by simp; omega
        clear hr4 hor
        go_wp2_with fail
        refine (num_any _ _).mono ?_
        rintro e w' ⟨rfl, rfl⟩
        go_wp2_with fail
        refine (knows_true _).mono ?_
        rintro e w7 ⟨rfl, b7⟩
        have B7 := Aside0.mk b7
        clear b7
        go_wp2
        go_ret
        exact ⟨rfl, below_step HB5.out B7.out⟩
end Go.Proofs.YtpgcbdopnkbmhaaDoor.Rot
