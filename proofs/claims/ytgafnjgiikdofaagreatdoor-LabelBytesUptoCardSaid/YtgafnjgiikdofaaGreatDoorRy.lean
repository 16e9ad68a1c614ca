/- Labels read from bytes: the document's From and Read, walked. -/
import Derived.Test.YtgafnjgiikdofaaGreatDoorRw
namespace Go.Proofs.YtgafnjgiikdofaaGreatDoor.Ry
set_option linter.unusedVariables false
set_option linter.unusedSimpArgs false
open Go.RowKit Go.Proofs.YtgafnjgiikdofaaGreatDoorW.PrintWords Go.Proofs.YtgafnjgiikdofaaGreatDoorW.PrintLast Go.Proofs.YtgafnjgiikdofaaGreatDoorW.PrintMore
open Go.Proofs.YtgafnjgiikdofaaGreatDoor.A Go.Proofs.YtgafnjgiikdofaaGreatDoor.R Go.Proofs.YtgafnjgiikdofaaGreatDoor.Xd Go.Proofs.YtgafnjgiikdofaaGreatDoor.Xr Go.Proofs.YtgafnjgiikdofaaGreatDoor.Fr Go.Proofs.YtgafnjgiikdofaaGreatDoor.Cp Go.Proofs.YtgafnjgiikdofaaGreatDoor.Dt Go.Proofs.YtgafnjgiikdofaaGreatDoor.Lr Go.Proofs.YtgafnjgiikdofaaGreatDoor.Sx Go.Proofs.YtgafnjgiikdofaaGreatDoor.Rw
set_option maxHeartbeats 4000000 in
set_option maxRecDepth 100000 in
theorem from_calls (N b B : Nat) (w : World) (xs : List Int) (h : RDec w N b xs 0) (hby : Byts xs) (hBb : B ≤ b) (hNw : N ≤ w.heap.size) :
    Calls Tryz.prog 82 #[.pointer (some ⟨b, 0, none⟩)] w fun e w' => ∃ v, e = .returned v ∧ Kd.R k47 47 w' N (fun _ => True) v (readR xs).1 ∧ RDec w' N b (readR xs).2.1 (readR xs).2.2 ∧ Below B w w' := by
  have HN := Aside0.mk (rnumber_any N b w xs 0 h)
  have hv := stepD_val xs 0 hby
  have HML := Aside0.mk (readN_le xs)
  have HRD : Aside0 (readK (readN xs) (stepD xs 0).2.1 (stepD xs 0).2.2 [] = readR xs) := ⟨rfl⟩
  have hM : min (stepD xs 0).1 17 = ((readN xs : Nat) : Int) := by unfold readN; omega
  have HBN := Aside0.mk (And.intro (rdec_lt h) (And.intro hBb hNw))
  obtain ⟨⟨n, ys, e1⟩, hd⟩ : ∃ d, d = stepD xs 0 := ⟨_, rfl⟩
  rw [← hd] at HRD hM hv HN
  obtain ⟨M, hMM⟩ : ∃ M, M = readN xs := ⟨_, rfl⟩
  rw [← hMM] at HML HRD hM
  obtain ⟨⟨lz, yz, ez⟩, hz⟩ : ∃ d, d = readR xs := ⟨_, rfl⟩
  rw [← hz] at HRD ⊢
  simp only at HRD hM hv HN ⊢
  have HM := Aside0.mk hM
  clear h hby hd hMM hz hM hv hBb hNw
  go_enter Tryz.func82, Tryz.ntmps82
  go_wp2_with fail
  refine HN.out.mono ?_
  rintro e w2 ⟨rfl, hp2, fr2⟩
  have HP2 := Aside0.mk hp2
  have HB2 : Aside0 (Below B w w2) := ⟨Fr.below fr2 (by have := HBN.out; omega) (fun k hk => by subst hk; exact HBN.out.2.1)⟩
  have HS2 : Aside0 (N ≤ w2.heap.size) := ⟨Nat.le_trans HBN.out.2.2 fr2.size⟩
  clear hp2 fr2 HN
  go_wp2_with fail
  go_loopw [4, 5] (fun v iv wr => ∃ (j : Nat) (l : List S47) (ys : List Int) (e : Int), j ≤ M ∧ iv = .int .i64 j ∧ Aside0 (l.length = j) ∧ Aside0 (readK (M - j) ys e l = (lz, yz, ez)) ∧ Aside0 (RDec wr N b ys e) ∧ Aside0 (Kd.R k47 47 wr N (fun _ => True) v l) ∧ Aside0 (Below B w wr) ∧ Aside0 (N ≤ wr.heap.size)) (fun _ iv _ => M - (intOf iv).toNat)
  case atStart => exact ⟨0, [], ys, e1, Nat.zero_le _, rfl, ⟨rfl⟩, HRD, HP2, ⟨Kd.R_nil _ _ _ _ _⟩, HB2, HS2⟩
  case round =>
    clear HP2 HB2 HS2
    obtain ⟨j, l, ys, e, hj, rfl, HLJ, HRK, HP, HR, HB, HS⟩ := hrel
    by_cases h1 : j < M
    · have HRK2 : Aside0 (readK (M - (j + 1)) (decT (decT ys e).2.1 (decT ys e).2.2).2.1 (decT (decT ys e).2.1 (decT ys e).2.2).2.2 (l ++ [⟨(decT ys e).1, (decT (decT ys e).2.1 (decT ys e).2.2).1⟩]) = (lz, yz, ez)) := ⟨by
        have := HRK.out
        rw [show M - j = (M - (j + 1)) + 1 by omega, readK] at this
        exact this⟩
      have g1 : (j : Int) < n := by have := HM.out; omega
      have g2 : (j : Int) ≤ 16 := by have := HML.out; omega
      obtain ⟨A5, c5, e5⟩ := Kd.R_slice HR.out
      subst e5
      clear HRK
      go_wp2_with fail
      refine (rtext_any N b _ ys e HP.out).mono ?_
      rintro ee w3 ⟨rfl, hp3, fr3⟩
      obtain ⟨⟨s1, ys1, e1⟩, hd1⟩ : ∃ d, d = decT ys e := ⟨_, rfl⟩
      rw [← hd1] at hp3 HRK2 ⊢
      simp only at hp3 HRK2 ⊢
      have HP3 := Aside0.mk hp3
      have HR3 := Aside0.mk (R_fr fr3 HBN.out.1 HR.out)
      have HB3 : Aside0 (Below B w w3) := ⟨HB.out.trans (Fr.below fr3 (by have := HBN.out; have := HS.out; omega) (fun k hk => by subst hk; exact HBN.out.2.1))⟩
      have HS3 : Aside0 (N ≤ w3.heap.size) := ⟨Nat.le_trans HS.out fr3.size⟩
      clear hp3 fr3 hd1 HP HR HB HS
      go_upto_region 7 with fail
      obtain ⟨w4, hw4⟩ : ∃ w4, w4 = w3.alloc (.cells #[.string s1, .string ⟨#[]⟩] 47) := ⟨_, rfl⟩
      obtain ⟨g, hg⟩ : ∃ g, g = w3.heap.size := ⟨_, rfl⟩
      rw [← hw4, ← hg]
      have HX4 : Aside0 (w4.heap[g]? = some (.cells #[.string s1, .string ⟨#[]⟩] 47 (0, 0))) := ⟨by rw [hw4, hg]; exact blk_new _ _⟩
      have HGN : Aside0 (N ≤ g) := ⟨by rw [hg]; exact HS3.out⟩
      have HR4 : Aside0 (Kd.R k47 47 w4 N (fun k => k < g) (.slice A5 l.length c5) l) := ⟨by rw [hw4, hg]; exact Kd.R_mono (Kd.R_alloc (Kd.R_mono (Kd.R_bound HR3.out) (fun k hk => hk.2.2.1)) _) (fun _ h => h)⟩
      have HP4 := Aside0.mk (HP3.out.below (show Below N w3 w4 from by rw [hw4]; exact ((Below.refl w3.heap.size w3).mono HS3.out).alloc HS3.out _))
      have HB4 : Aside0 (Below B w w4) := ⟨by rw [hw4]; exact HB3.out.alloc (by have := HBN.out; have := HS3.out; omega) _⟩
      have HS4 : Aside0 (N ≤ w4.heap.size) := ⟨by rw [hw4, World.size_alloc]; have := HS3.out; omega⟩
      clear hw4 hg HP3 HR3 HB3 HS3
      go_wp2_with fail
      refine (rtext_any N b _ ys1 e1 HP4.out).mono ?_
      rintro ee w5 ⟨rfl, hp5, fr5⟩
      obtain ⟨⟨s2, ys2, e2⟩, hd2⟩ : ∃ d, d = decT ys1 e1 := ⟨_, rfl⟩
      rw [← hd2] at hp5 HRK2 ⊢
      simp only at hp5 HRK2 ⊢
      have HP5 := Aside0.mk hp5
      have HX5 : Aside0 (w5.heap[g]? = some (.cells #[.string s1, .string ⟨#[]⟩] 47 (0, 0))) := ⟨(fr5.block g (blk_lt HX4.out) (by have := HBN.out; have := HGN.out; omega)).trans HX4.out⟩
      have HR5 : Aside0 (Kd.R k47 47 w5 N (fun k => k < g) (.slice A5 l.length c5) l) := ⟨Kd.R_mono (Fr.R fr5 (Kd.R_bound HR4.out) (fun k hk => by have := hk.2.1; have := HBN.out; omega)) (fun _ h => h.1)⟩
      have HB5 : Aside0 (Below B w w5) := ⟨HB4.out.trans (Fr.below fr5 (by have := HBN.out; have := HS4.out; omega) (fun k hk => by subst hk; exact HBN.out.2.1))⟩
      have HS5 : Aside0 (N ≤ w5.heap.size) := ⟨Nat.le_trans HS4.out fr5.size⟩
      clear hp5 fr5 hd2 HP4 HR4 HB4 HS4 HX4
      have x0 := blk_cell HX5.out 0
      have x1 := blk_cell HX5.out 1
      have f1 := blk_frozen HX5.out 1
      simp at x0 x1
      go_upto_region 8 with fail
      obtain ⟨w6, hw6⟩ : ∃ w6, w6 = w5.setCell ⟨g, 1, none⟩ (.string s2) := ⟨_, rfl⟩
      rw [← hw6]
      have HX6 : Aside0 (w6.heap[g]? = some (.cells #[.string s1, .string s2] 47 (0, 0))) := ⟨by rw [hw6]; exact blk_put (cs := #[.string s1, .string ⟨#[]⟩]) HX5.out 1 _ rfl⟩
      have HR6 : Aside0 (Kd.R k47 47 w6 N (fun k => k < g) (.slice A5 l.length c5) l) := ⟨by rw [hw6]; exact Kd.R_far (p := ⟨g, 1, none⟩) HR5.out (fun k h => by show k ≠ g; omega) (.string s2)⟩
      have HB56 : Aside0 (Below N w5 w6) := ⟨by rw [hw6]; exact ((Below.refl w5.heap.size w5).mono HS5.out).setCell HGN.out _⟩
      have HP6 := Aside0.mk (HP5.out.below HB56.out)
      have HB6 : Aside0 (Below B w w6) := ⟨HB5.out.trans (HB56.out.mono (by have := HBN.out; omega))⟩
      have HS6 : Aside0 (N ≤ w6.heap.size) := ⟨Nat.le_trans HS5.out HB56.out.size⟩
      have HY6 : Aside0 (Below N w6 w6) := ⟨(Below.refl w6.heap.size w6).mono HS6.out⟩
      clear x0 x1 f1 hw6 HP5 HR5 HB5 HS5 HX5 HB56
      have x0 := blk_cell HX6.out 0
      have x1 := blk_cell HX6.out 1
      simp at x0 x1
      go_wp2_with ((with_reducible refine gate_builtin (b := .append) (xs := #[.tmp 24, .tmp 26]) rfl ?_); at_builtin; refine Kd.R_append k47 (w0 := w6) N rfl (.tmp 24) (.tmp 26) 27 47 (.agg #[(.string ⟨#[]⟩), (.string ⟨#[]⟩)]) 32 rfl Tryz.underlying27 info47 rfl (by decide) (by omega) (.slice A5 l.length c5) l (⟨s1, s2⟩ : S47) [.string s1, .string s2] (fun _ => True) (fun _ => False) rfl (by first | (go_simp; done) | (go_simp; rfl)) ?aP (fun _ hk => hk.elim) ?aF ?aO ?aB ?aS ?aL ?_; (case aP => exact k47_mkM _ _ _ (⟨s1, s2⟩ : S47)); (case aB => exact HY6.out); (case aF => exact (fun q hq => trivial)); (case aO => exact Kd.R_mono HR6.out (fun _ _ => trivial)); (case aS => exact HS6.out); (case aL => have := HLJ.out; have := HML.out; omega); intro v7 w7 ho hb hg hat; have HR7 := Aside0.mk ho; have HB7 := Aside0.mk hb; clear ho hb hg hat)
      have HP7 := Aside0.mk (HP6.out.below HB7.out)
      have HBB7 : Aside0 (Below B w w7) := ⟨HB6.out.trans (HB7.out.mono (by have := HBN.out; omega))⟩
      have HS7 : Aside0 (N ≤ w7.heap.size) := ⟨Nat.le_trans HS6.out HB7.out.size⟩
      clear HP6 HR6 HB6 HS6 HB7 x0 x1
      go_roundw
      case rel => exact ⟨j + 1, _, ys2, e2, h1, by go_num, ⟨by rw [List.length_append, HLJ.out]; rfl⟩, HRK2, HP7, HR7, HBB7, HS7⟩
      case measure => simp [intOf]; omega
    · have hrk := HRK.out
      rw [show M - j = 0 by omega, readK] at hrk
      simp only [Prod.mk.injEq] at hrk
      obtain ⟨rfl, rfl, rfl⟩ := hrk
      clear HRK
      by_cases g1 : (j : Int) < n
      · have g2 : ¬ (j : Int) ≤ 16 := by have := HM.out; omega
        go_wp2
        go_ret
        exact ⟨_, rfl, HR.out, HP.out, HB.out⟩
      · go_wp2
        go_ret
        exact ⟨_, rfl, HR.out, HP.out, HB.out⟩
set_option maxHeartbeats 4000000 in
set_option maxRecDepth 100000 in
theorem rread_calls (A : Option Addr) (c : Nat) (xs : List Int) (w : World) (hC : (Kd.int .u8).C w A xs.length xs) (hc : xs.length ≤ c) (hl : xs.length ≤ 140737488351232) (hb : Byts xs) :
    Calls Tryz.prog 39 #[.slice A xs.length c] w fun e w' => ∃ v, e = .returned (.tuple #[v, .int .i64 (readL xs).2]) ∧ Kd.R k47 47 w' w.heap.size (fun _ => True) v (readL xs).1 ∧ Below w.heap.size w w' := by
  have HN := Aside0.mk (rnew_any A c xs w hC hc hl hb)
  have HFIT := Aside0.mk (readR_fit xs)
  have HBY := Aside0.mk hb
  have HRL : Aside0 (readL xs = if doneV (readR xs).2.1 (readR xs).2.2 = 0 ∧ rightB (readR xs).1 = true then ((readR xs).1, 0) else ([], 21)) := ⟨rfl⟩
  clear hC hc hl hb
  go_enter Tryz.func39, Tryz.ntmps39
  go_wp2_with fail
  refine HN.out.mono ?_
  rintro e w1 ⟨b, rfl, hp1, hge, hb1⟩
  have HP1 := Aside0.mk hp1
  have HB1 := Aside0.mk hb1
  have HGE := Aside0.mk hge
  clear hp1 hge hb1 HN
  go_wp2_with fail
  refine (from_calls w1.heap.size b w.heap.size w1 xs HP1.out HBY.out HGE.out (Nat.le_refl _)).mono ?_
  rintro e w2 ⟨v2, rfl, hr2, hp2, hb2⟩
  obtain ⟨⟨l, ys, e1⟩, hz⟩ : ∃ d, d = readR xs := ⟨_, rfl⟩
  rw [← hz] at hr2 hp2 HRL HFIT
  simp only at hr2 hp2 HRL HFIT
  have HRL2 := Aside0.mk (Kd.R_lower hr2 HB1.out.size)
  obtain ⟨A5, c5, e5⟩ := Kd.R_slice hr2
  subst e5
  obtain ⟨_, hlc, hC5⟩ := Kd.R_reads' hr2
  have HC5 := Aside0.mk hC5
  have HLC := Aside0.mk hlc
  have HDV := Aside0.mk (rdone_any _ b w2 ys e1 hp2)
  have HB := Aside0.mk (HB1.out.trans hb2)
  have hr := rright_eq l (l.length + 65536 + 10) 65536 (by omega) (by have := HFIT.out.1; omega) HFIT.out.2 (by omega)
  obtain ⟨dv, hdv⟩ : ∃ dv, dv = doneV ys e1 := ⟨_, rfl⟩
  obtain ⟨rb, hrb⟩ : ∃ rb, rb = rightB l := ⟨_, rfl⟩
  rw [← hdv] at HDV HRL
  rw [← hrb] at hr HRL
  have HRI := Aside0.mk hr
  clear hC5 hlc hr hdv hrb hr2 hp2 hb2 hz HP1 HB1 HGE
  by_cases hd0 : dv = 0
  · subst hd0
    go_wp2_with fail
    refine HDV.out.mono ?_
    rintro ee w6 ⟨rfl, nd, rfl⟩
    go_wp2_with fail
    refine (icehouseref02_Right.calls _ A5 c5 l rb _ (Kd.C_drewN HC5.out _) HLC.out HRI.out).mono ?_
    rintro ee w7 ⟨rfl, hb7⟩
    have HB7 : Aside0 (Below w2.heap.size w2 w7) := ⟨(pw_below_drewN (Below.refl _ _) _).trans hb7⟩
    clear hb7 HRI HDV
    cases rb with
    | true =>
      go_wp2
      go_ret2
      rw [HRL.out, if_pos (by simp)]
      exact ⟨_, rfl, Kd.R_below HRL2.out HB7.out, HB.out.trans (HB7.out.mono HB.out.size)⟩
    | false =>
      go_wp2
      go_ret2
      rw [HRL.out, if_neg (by simp)]
      exact ⟨_, rfl, Kd.R_nil _ _ _ _ _, HB.out.trans (HB7.out.mono HB.out.size)⟩
  · have t1 : (dv != 0) = true := by simpa using hd0
    have t2 : (dv == 0) = false := by simpa using hd0
    have HD0 := Aside0.mk hd0
    clear hd0
    go_wp2_with fail
    refine HDV.out.mono ?_
    rintro ee w6 ⟨rfl, nd, rfl⟩
    clear HDV HRI
    go_wp2
    go_ret2
    rw [HRL.out, if_neg (fun h => HD0.out h.1)]
    exact ⟨_, rfl, Kd.R_nil _ _ _ _ _, pw_below_drewN HB.out _⟩
end Go.Proofs.YtgafnjgiikdofaaGreatDoor.Ry
