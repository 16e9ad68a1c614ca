/- Labels read from bytes: Read of the program and of the document, walked. -/
import Derived.Test.YtgafnjgiikdofaaGreatDoorDt
import Derived.Test.YtgafnjgiikdofaaGreatDoorLp
namespace Go.Proofs.YtgafnjgiikdofaaGreatDoor.Rw
set_option linter.unusedVariables false
set_option linter.unusedSimpArgs false
open Go.RowKit Go.Proofs.YtgafnjgiikdofaaGreatDoorW.PrintWords Go.Proofs.YtgafnjgiikdofaaGreatDoorW.PrintLast Go.Proofs.YtgafnjgiikdofaaGreatDoorW.PrintMore
open Go.Proofs.YtgafnjgiikdofaaGreatDoor.A Go.Proofs.YtgafnjgiikdofaaGreatDoor.R Go.Proofs.YtgafnjgiikdofaaGreatDoor.Xd Go.Proofs.YtgafnjgiikdofaaGreatDoor.Xr Go.Proofs.YtgafnjgiikdofaaGreatDoor.Fr Go.Proofs.YtgafnjgiikdofaaGreatDoor.Cp Go.Proofs.YtgafnjgiikdofaaGreatDoor.Dt Go.Proofs.YtgafnjgiikdofaaGreatDoor.Lr Go.Proofs.YtgafnjgiikdofaaGreatDoor.Sx
/-- so many labels read -/
def readK : Nat → List Int → Int → List S47 → List S47 × List Int × Int
  | 0, ys, e, l => (l, ys, e)
  | m + 1, ys, e, l => readK m (decT (decT ys e).2.1 (decT ys e).2.2).2.1 (decT (decT ys e).2.1 (decT ys e).2.2).2.2 (l ++ [⟨(decT ys e).1, (decT (decT ys e).2.1 (decT ys e).2.2).1⟩])
def readN (xs : List Int) : Nat := (min (stepD xs 0).1 17).toNat
def readR (xs : List Int) : List S47 × List Int × Int := readK (readN xs) (stepD xs 0).2.1 (stepD xs 0).2.2 []
/-- what Read answers -/
def readL (xs : List Int) : List S47 × Int := if doneV (readR xs).2.1 (readR xs).2.2 = 0 ∧ rightB (readR xs).1 = true then ((readR xs).1, 0) else ([], 21)
theorem text_size (xs : List Int) (er : Int) : (decT xs er).1.size ≤ 65536 := by
  unfold decT textR
  split
  · exact Nat.zero_le _
  · split
    · exact Nat.zero_le _
    · split
      · exact Nat.zero_le _
      · have : (strOfNums ((stepD xs er).2.1.take (stepD xs er).1.toNat)).size = ((stepD xs er).2.1.take (stepD xs er).1.toNat).length := by
          unfold strOfNums
          show (List.toArray _).size = _
          simp
        rw [this, List.length_take]
        omega
theorem readK_fit : ∀ m ys e l, (∀ x ∈ l, x.f0.size ≤ 65536 ∧ x.f1.size ≤ 65536) → (readK m ys e l).1.length = l.length + m ∧ ∀ x ∈ (readK m ys e l).1, x.f0.size ≤ 65536 ∧ x.f1.size ≤ 65536
  | 0, ys, e, l, h => ⟨rfl, h⟩
  | m + 1, ys, e, l, h => by
    unfold readK
    obtain ⟨h1, h2⟩ := readK_fit m (decT (decT ys e).2.1 (decT ys e).2.2).2.1 (decT (decT ys e).2.1 (decT ys e).2.2).2.2 (l ++ [⟨(decT ys e).1, (decT (decT ys e).2.1 (decT ys e).2.2).1⟩]) (fun x hx => by
      rw [List.mem_append, List.mem_singleton] at hx
      rcases hx with hx | rfl
      · exact h x hx
      · exact ⟨text_size _ _, text_size _ _⟩)
    refine ⟨?_, h2⟩
    rw [h1, List.length_append, List.length_singleton]
    omega
theorem readN_le (xs : List Int) : readN xs ≤ 17 := by unfold readN; omega
theorem readR_fit (xs : List Int) : (readR xs).1.length ≤ 17 ∧ ∀ x ∈ (readR xs).1, x.f0.size ≤ 65536 ∧ x.f1.size ≤ 65536 := by
  obtain ⟨h1, h2⟩ := readK_fit (readN xs) (stepD xs 0).2.1 (stepD xs 0).2.2 [] (by simp)
  exact ⟨by have := readN_le xs; unfold readR; rw [h1]; simpa using this, h2⟩
theorem R_fr {w w1 : World} {N b : Nat} {v : Value} {l : List S47} (h : Fr (fun k => k = b) w w1) (hb : b < N) (hr : Kd.R k47 47 w N (fun _ => True) v l) : Kd.R k47 47 w1 N (fun _ => True) v l :=
  Kd.R_mono (Fr.R h (Kd.R_bound hr) (fun k hk => by have := hk.2.1; omega)) (fun _ _ => trivial)
set_option maxHeartbeats 4000000 in
set_option maxRecDepth 100000 in
theorem lread_calls (A : Option Addr) (c : Nat) (xs : List Int) (w : World) (hC : (Kd.int .u8).C w A xs.length xs) (hc : xs.length ≤ c) (hl : xs.length ≤ 140737488351232) (hb : Byts xs) (hE : Env w) :
    Calls Tryz.prog 38 #[.slice A xs.length c] w fun e w' => ∃ v, e = .returned (.tuple #[v, .int .i64 (readL xs).2]) ∧ Kd.R k47 47 w' w.heap.size (fun _ => True) v (readL xs).1 ∧ Below w.heap.size w w' := by
  have HN := Aside0.mk (pnew_any A c xs w hC hc hl hb)
  have hv := stepD_val xs 0 hb
  have HFIT := Aside0.mk (readR_fit xs)
  have HML := Aside0.mk (readN_le xs)
  have HRD : Aside0 (readK (readN xs) (stepD xs 0).2.1 (stepD xs 0).2.2 [] = readR xs) := ⟨rfl⟩
  have HRL : Aside0 (readL xs = if doneV (readR xs).2.1 (readR xs).2.2 = 0 ∧ rightB (readR xs).1 = true then ((readR xs).1, 0) else ([], 21)) := ⟨rfl⟩
  have hM : min (stepD xs 0).1 17 = ((readN xs : Nat) : Int) := by unfold readN; omega
  obtain ⟨⟨n, ys, e1⟩, hd⟩ : ∃ d, d = stepD xs 0 := ⟨_, rfl⟩
  have HD := Aside0.mk hd
  rw [← hd] at HRD hM hv
  obtain ⟨M, hMM⟩ : ∃ M, M = readN xs := ⟨_, rfl⟩
  rw [← hMM] at HML HRD hM
  obtain ⟨⟨lz, yz, ez⟩, hz⟩ : ∃ d, d = readR xs := ⟨_, rfl⟩
  rw [← hz] at HRD HRL HFIT
  simp only at HRD HRL HFIT hM hv
  have HE := Aside0.mk hE
  clear hC hc hl hb hd hMM hz hE
  go_enter Tryz.func38, Tryz.ntmps38
  go_wp2_with fail
  refine HN.out.mono ?_
  rintro e w1 ⟨b, rfl, hp1, hge, hb1⟩
  obtain ⟨N, hN⟩ : ∃ N, N = w1.heap.size := ⟨_, rfl⟩
  rw [← hN] at hp1
  have HP1 := Aside0.mk hp1
  have HBN := Aside0.mk (And.intro (pdec_lt hp1) hge)
  have HB1 := Aside0.mk hb1
  have HNN := Aside0.mk hN
  clear hp1 hge hb1 hN
  go_wp2_with fail
  refine (pnumber_any N b w1 xs 0 HP1.out).mono ?_
  rintro e w2 ⟨rfl, hp2, fr2⟩
  rw [← HD.out] at hp2 ⊢
  simp only at hp2 ⊢
  have HP2 := Aside0.mk hp2
  have HB2 : Aside0 (Below w.heap.size w w2) := ⟨HB1.out.trans (Fr.below fr2 HB1.out.size (fun k hk => by subst hk; exact HBN.out.2))⟩
  have HS2 : Aside0 (N ≤ w2.heap.size) := ⟨by rw [HNN.out]; exact fr2.size⟩
  clear hp2 fr2 HP1 HB1
  go_wp2_with fail
  go_loopw [5, 11] (fun v iv wr => ∃ (j : Nat) (l : List S47) (ys : List Int) (e : Int), j ≤ M ∧ iv = .int .i64 j ∧ Aside0 (l.length = j) ∧ Aside0 (readK (M - j) ys e l = (lz, yz, ez)) ∧ Aside0 (PDec wr N b ys e) ∧ Aside0 (Kd.R k47 47 wr N (fun _ => True) v l) ∧ Aside0 (Below w.heap.size w wr) ∧ Aside0 (N ≤ wr.heap.size)) (fun _ iv _ => M - (intOf iv).toNat)
  case atStart => exact ⟨0, [], ys, e1, Nat.zero_le _, rfl, ⟨rfl⟩, HRD, HP2, ⟨Kd.R_nil _ _ _ _ _⟩, HB2, HS2⟩
  case round =>
    clear HP2 HB2 HS2
    obtain ⟨j, l, ys, e, hj, rfl, HLJ, HRK, HP, HR, HB, HS⟩ := hrel
    by_cases h1 : j < M
    · have HRK2 : Aside0 (readK (M - (j + 1)) (decT (decT ys e).2.1 (decT ys e).2.2).2.1 (decT (decT ys e).2.1 (decT ys e).2.2).2.2 (l ++ [⟨(decT ys e).1, (decT (decT ys e).2.1 (decT ys e).2.2).1⟩]) = (lz, yz, ez)) := ⟨by
        have := HRK.out
        rw [show M - j = (M - (j + 1)) + 1 by omega, readK] at this
        exact this⟩
      have h1z : (j : Int) < (M : Int) := by omega
      obtain ⟨A5, c5, e5⟩ := Kd.R_slice HR.out
      subst e5
      clear HRK
      go_wp2_with fail
      refine (ptext_any N b _ ys e HP.out).mono ?_
      rintro ee w3 ⟨rfl, hp3, fr3⟩
      obtain ⟨⟨s1, ys1, e1⟩, hd1⟩ : ∃ d, d = decT ys e := ⟨_, rfl⟩
      rw [← hd1] at hp3 HRK2 ⊢
      simp only at hp3 HRK2 ⊢
      have HP3 := Aside0.mk hp3
      have HR3 := Aside0.mk (R_fr fr3 HBN.out.1 HR.out)
      have HB3 : Aside0 (Below w.heap.size w w3) := ⟨HB.out.trans (Fr.below fr3 HB.out.size (fun k hk => by subst hk; exact HBN.out.2))⟩
      have HS3 : Aside0 (N ≤ w3.heap.size) := ⟨Nat.le_trans HS.out fr3.size⟩
      clear hp3 fr3 hd1 HP HR HB HS
      go_wp2_with fail
      refine (ptext_any N b _ ys1 e1 HP3.out).mono ?_
      rintro ee w4 ⟨rfl, hp4, fr4⟩
      obtain ⟨⟨s2, ys2, e2⟩, hd2⟩ : ∃ d, d = decT ys1 e1 := ⟨_, rfl⟩
      rw [← hd2] at hp4 HRK2 ⊢
      simp only at hp4 HRK2 ⊢
      have HP4 := Aside0.mk hp4
      have HR4 := Aside0.mk (R_fr fr4 HBN.out.1 HR3.out)
      have HB4 : Aside0 (Below w.heap.size w w4) := ⟨HB3.out.trans (Fr.below fr4 HB3.out.size (fun k hk => by subst hk; exact HBN.out.2))⟩
      have HS4 : Aside0 (N ≤ w4.heap.size) := ⟨Nat.le_trans HS3.out fr4.size⟩
      have HX4 : Aside0 (Below N w4 w4) := ⟨(Below.refl w4.heap.size w4).mono HS4.out⟩
      clear hp4 fr4 hd2 HP3 HR3 HB3 HS3
      go_wp2_with ((with_reducible refine gate_builtin (b := .append) (xs := #[.tmp 13, .tmp 19]) rfl ?_); at_builtin; refine Kd.R_append k47 (w0 := w4) N rfl (.tmp 13) (.tmp 19) 27 47 (.agg #[(.string ⟨#[]⟩), (.string ⟨#[]⟩)]) 32 rfl Tryz.underlying27 info47 rfl (by decide) (by omega) (.slice A5 l.length c5) l (⟨s1, s2⟩ : S47) [.string s1, .string s2] (fun _ => True) (fun _ => False) rfl (by first | (go_simp; done) | (go_simp; rfl)) ?aP (fun _ hk => hk.elim) ?aF ?aO ?aB ?aS ?aL ?_; (case aP => exact k47_mkM _ _ _ (⟨s1, s2⟩ : S47)); (case aB => exact (by repeat (first | (with_reducible first | exact HX4.out | apply below_alloc) | exact HX4.out))); (case aF => exact (fun q hq => trivial)); (case aO => exact (by (with_reducible repeat (first | apply Kd.R_alloc)); exact HR4.out)); (case aS => exact HS4.out); (case aL => have := HLJ.out; have := HML.out; omega); intro v5 w5 ho hb hg hat; have HR5 := Aside0.mk ho; have HB5 := Aside0.mk hb; clear ho hb hg hat)
      have HP5 := Aside0.mk (HP4.out.below HB5.out)
      have HBB5 : Aside0 (Below w.heap.size w w5) := ⟨HB4.out.trans (HB5.out.mono (by have := HBN.out; omega))⟩
      have HS5 : Aside0 (N ≤ w5.heap.size) := ⟨Nat.le_trans HS4.out HB5.out.size⟩
      clear HP4 HR4 HB4 HS4 HB5
      go_roundw
      case rel => exact ⟨j + 1, _, ys2, e2, h1, by go_num, ⟨by rw [List.length_append, HLJ.out]; rfl⟩, HRK2, HP5, HR5, HBB5, HS5⟩
      case measure => simp [intOf]; omega
    · have h1z : ¬ (j : Int) < (M : Int) := by omega
      have hrk := HRK.out
      rw [show M - j = 0 by omega, readK] at hrk
      simp only [Prod.mk.injEq] at hrk
      obtain ⟨rfl, rfl, rfl⟩ := hrk
      obtain ⟨A5, c5, e5⟩ := Kd.R_slice HR.out
      subst e5
      have HDV := Aside0.mk (pdone_any N b wr ys e HP.out)
      have HRL2 := Aside0.mk (Kd.R_lower HR.out (by have := HBN.out; omega : w.heap.size ≤ N))
      obtain ⟨_, hlc, hC5⟩ := Kd.R_reads' HR.out
      have hr := lright_eq l (l.length + 1) (by have := HFIT.out.1; omega) (fun x hx => by have := HFIT.out.2 x hx; omega) (by omega)
      have HRI := Aside0.mk (label_Right.calls _ A5 c5 l (rightB l) wr hC5 hlc hr (HE.out.below HB.out))
      obtain ⟨dv, hdv⟩ : ∃ dv, dv = doneV ys e := ⟨_, rfl⟩
      obtain ⟨rb, hrb⟩ : ∃ rb, rb = rightB l := ⟨_, rfl⟩
      rw [← hdv] at HDV HRL
      rw [← hrb] at HRI HRL
      clear hC5 hlc hr hdv hrb HP HR HRK HS HLJ
      by_cases hd0 : dv = 0
      · subst hd0
        go_wp2_with fail
        refine HDV.out.mono ?_
        rintro ee w6 ⟨rfl, rfl⟩
        go_wp2_with fail
        refine HRI.out.mono ?_
        rintro ee w7 ⟨rfl, hb7⟩
        have HB7 := Aside0.mk hb7
        clear hb7 HRI HDV
        cases rb with
        | true =>
          go_wp2
          go_ret2
          rw [HRL.out, if_pos (by simp)]
          exact ⟨_, rfl, Kd.R_below HRL2.out HB7.out, HB.out.trans (HB7.out.mono HB.out.size)⟩
        | false =>
          go_wp2
          go_ret2
          rw [HRL.out, if_neg (by simp)]
          exact ⟨_, rfl, Kd.R_nil _ _ _ _ _, HB.out.trans (HB7.out.mono HB.out.size)⟩
      · have t1 : (dv != 0) = true := by simpa using hd0
        have t2 : (dv == 0) = false := by simpa using hd0
        have HD0 := Aside0.mk hd0
        clear hd0
        go_wp2_with fail
        refine HDV.out.mono ?_
        rintro ee w6 ⟨rfl, rfl⟩
        clear HDV HRI
        go_wp2
        refine bodyPost_ret (v := .tuple #[.slice none 0 0, .int .i64 21]) (by simp [results, Tryz.results38, go_sem]) rfl ?_
        rw [HRL.out, if_neg (fun h => HD0.out h.1)]
        exact ⟨.slice none 0 0, by first | rfl | trivial, Kd.R_nil _ _ _ _ _, HB.out⟩
end Go.Proofs.YtgafnjgiikdofaaGreatDoor.Rw
