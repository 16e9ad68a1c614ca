/- Pack, walked. -/
import Derived.Test.YtdohacnjngkkiaaPq
import Derived.Deep.QuietTactic
import Derived.BigQuiet
import Derived.WalkMore
namespace Go.Proofs.Ytdohacnjngkkiaa.Pw
set_option linter.unusedVariables false
set_option linter.unusedSimpArgs false
open Go.Proofs.Ytdohacnjngkkiaa.So Go.Proofs.Ytdohacnjngkkiaa.La Go.Proofs.Ytdohacnjngkkiaa.Sm Go.Proofs.Ytdohacnjngkkiaa.Sr Go.Proofs.Ytdohacnjngkkiaa.Pk Go.Proofs.Ytdohacnjngkkiaa.Pq Go.Shelf Go.RowKit Go.Proofs.YtdohacnjngkkiaaW.PrintWords Go.Proofs.YtdohacnjngkkiaaW.PrintLast Go.Proofs.YtdohacnjngkkiaaW.PrintMore Go.Proofs.Ytdohacnjngkkiaa.Fr Go.Proofs.Ytdohacnjngkkiaa.A Go.Proofs.Ytdohacnjngkkiaa.Pm Go.Proofs.Ytdohacnjngkkiaa.Pf Go.Proofs.Ytdohacnjngkkiaa.Pi Go.Proofs.Ytdohacnjngkkiaa.Pc Go.Proofs.Ytdohacnjngkkiaa.Pd
def PackPost (l : List S40) (fan mx keep now : Int) (w : World) (e : Ending) (w' : World) : Prop := ∃ v s, e = .returned v ∧ s.Perm (l.filter (fun x => !overB keep now x)) ∧ (s.Pairwise fun x y => ¬ lessM y x) ∧
      (Kd.int .i64).R 3 w' w.heap.size (fun _ => True) v (packR l s fan mx keep) ∧ Below w.heap.size w w'
set_option maxHeartbeats 1000000 in
theorem pack_calls (A : Option Addr) (c : Nat) (l : List S40) (fan mx keep now : Int) (w : World) (hC : k40.C w A l.length l) (hc : l.length ≤ c) (hl : l.length ≤ 1048576) :
    Calls Try.prog 18 #[.slice A l.length c, .agg #[.int .i64 fan, .int .i64 mx, .int .i64 keep], .int .i64 now] w fun e w' => PackPost l fan mx keep now w e w' := by
  obtain ⟨w1, hw1⟩ : ∃ w1, w1 = w.alloc (.cells #[.int .i64 fan, .int .i64 mx, .int .i64 keep] 36) := ⟨_, rfl⟩
  obtain ⟨w2, hw2⟩ : ∃ w2, w2 = w1.alloc (.cells #[.int .i64 now] 3) := ⟨_, rfl⟩
  have b1 : Below w.heap.size w w1 := by rw [hw1]; exact below_alloc (Below.refl _ _) _
  have b2 : Below w1.heap.size w1 w2 := by rw [hw2]; exact below_alloc (Below.refl _ _) _
  have s1 : w1.heap.size = w.heap.size + 1 := by rw [hw1]; exact World.size_alloc _ _
  have s2 : w2.heap.size = w1.heap.size + 1 := by rw [hw2]; exact World.size_alloc _ _
  have k1 : w1.heap[w.heap.size]? = some (.cells #[.int .i64 fan, .int .i64 mx, .int .i64 keep] 36 (0, 0)) := by rw [hw1]; exact blk_new _ _
  have k2 : w2.heap[w.heap.size + 1]? = some (.cells #[.int .i64 now] 3 (0, 0)) := by rw [hw2, ← s1]; exact blk_new _ _
  have k1' := (b2.block _ (blk_lt k1)).trans k1
  have hB := below_step b1 b2
  have HB := Aside0.mk hB
  have f0 := blk_cell k1' 0
  have f1 := blk_cell k1' 1
  have f2 := blk_cell k1' 2
  simp at f0 f1 f2
  have hf := fine_calls A c l w2 (Kd.C_below hC hB) hl
  obtain ⟨s0, hp0, hs0⟩ := srt_exists (l.filter (fun x => !overB keep now x))
  have HP0 := Aside0.mk hp0
  have HS0 := Aside0.mk hs0
  clear hp0 hs0
  by_cases g1 : fan < 2
  · have HZ : Aside0 (∀ s, packR l s fan mx keep = []) := ⟨fun s => by unfold packR; rw [if_pos (.inl g1)]⟩
    have d1 : decide (fan < 2) = true := by simpa using g1
    obtain ⟨n, hn⟩ : ∃ n, n = l.length := ⟨_, rfl⟩
    rw [← hn]
    clear hn hC k1 k1' k2 b1 b2 s1 s2 hB hf
    go_enter Try.func18, Try.ntmps18
    go_upto_region 1 with fail
    rw [← hw1, ← hw2]
    clear hw1 hw2
    go_wp2
    go_ret
    exact ⟨_, s0, rfl, HP0.out, HS0.out, by rw [HZ.out]; exact Kd.R_nil _ _ _ _ _, HB.out⟩
  by_cases g2 : 16 < fan
  · have HZ : Aside0 (∀ s, packR l s fan mx keep = []) := ⟨fun s => by unfold packR; rw [if_pos (.inr (.inl g2))]⟩
    have d1 : decide (fan < 2) = false := by simpa using g1
    have d2 : decide (16 < fan) = true := by simpa using g2
    obtain ⟨n, hn⟩ : ∃ n, n = l.length := ⟨_, rfl⟩
    rw [← hn]
    clear hn hC k1 k1' k2 b1 b2 s1 s2 hB hf
    go_enter Try.func18, Try.ntmps18
    go_upto_region 1 with fail
    rw [← hw1, ← hw2]
    clear hw1 hw2
    go_wp2
    go_ret
    exact ⟨_, s0, rfl, HP0.out, HS0.out, by rw [HZ.out]; exact Kd.R_nil _ _ _ _ _, HB.out⟩
  by_cases g3 : mx < 1
  · have HZ : Aside0 (∀ s, packR l s fan mx keep = []) := ⟨fun s => by unfold packR; rw [if_pos (.inr (.inr (.inl g3)))]⟩
    have d1 : decide (fan < 2) = false := by simpa using g1
    have d2 : decide (16 < fan) = false := by simpa using g2
    have d3 : decide (mx < 1) = true := by simpa using g3
    obtain ⟨n, hn⟩ : ∃ n, n = l.length := ⟨_, rfl⟩
    rw [← hn]
    clear hn hC k1 k1' k2 b1 b2 s1 s2 hB hf
    go_enter Try.func18, Try.ntmps18
    go_upto_region 1 with fail
    rw [← hw1, ← hw2]
    clear hw1 hw2
    go_wp2
    go_ret
    exact ⟨_, s0, rfl, HP0.out, HS0.out, by rw [HZ.out]; exact Kd.R_nil _ _ _ _ _, HB.out⟩
  by_cases g4 : keep < 1
  · have HZ : Aside0 (∀ s, packR l s fan mx keep = []) := ⟨fun s => by unfold packR; rw [if_pos (.inr (.inr (.inr (.inl g4))))]⟩
    have d1 : decide (fan < 2) = false := by simpa using g1
    have d2 : decide (16 < fan) = false := by simpa using g2
    have d3 : decide (mx < 1) = false := by simpa using g3
    have d4 : decide (keep < 1) = true := by simpa using g4
    obtain ⟨n, hn⟩ : ∃ n, n = l.length := ⟨_, rfl⟩
    rw [← hn]
    clear hn hC k1 k1' k2 b1 b2 s1 s2 hB hf
    go_enter Try.func18, Try.ntmps18
    go_upto_region 1 with fail
    rw [← hw1, ← hw2]
    clear hw1 hw2
    go_wp2
    go_ret
    exact ⟨_, s0, rfl, HP0.out, HS0.out, by rw [HZ.out]; exact Kd.R_nil _ _ _ _ _, HB.out⟩
  by_cases g5f : fineB l = false
  · have HZ : Aside0 (∀ s, packR l s fan mx keep = []) := ⟨fun s => by unfold packR; rw [if_pos (.inr (.inr (.inr (.inr g5f))))]⟩
    have d1 : decide (fan < 2) = false := by simpa using g1
    have d2 : decide (16 < fan) = false := by simpa using g2
    have d3 : decide (mx < 1) = false := by simpa using g3
    have d4 : decide (keep < 1) = false := by simpa using g4
    rw [g5f] at hf
    obtain ⟨n, hn⟩ : ∃ n, n = l.length := ⟨_, rfl⟩
    rw [← hn] at hf ⊢
    clear hn hC k1 k1' k2 b1 b2 s1 s2 hB
    go_enter Try.func18, Try.ntmps18
    go_upto_region 1 with fail
    rw [← hw1, ← hw2]
    clear hw1 hw2
    go_wp2_with fail
    refine hf.mono ?_
    rintro e w3 ⟨rfl, hb3⟩
    have HB3 := Aside0.mk (below_step HB.out hb3)
    clear hf hb3
    go_wp2
    go_ret
    exact ⟨_, s0, rfl, HP0.out, HS0.out, by rw [HZ.out]; exact Kd.R_nil _ _ _ _ _, HB3.out⟩
  have g5 : fineB l = true := by simpa using g5f
  obtain ⟨F, rfl⟩ : ∃ F : Nat, fan = (F : Int) := ⟨fan.toNat, by omega⟩
  have HF : Aside0 (2 ≤ F ∧ F ≤ 16) := ⟨by omega⟩
  have HFL := Aside0.mk (fine_iff.1 g5)
  have HPR : Aside0 (∀ s, packR l s F mx keep = ((packS F mx s).getD []).map (·.f0)) := ⟨fun s => by unfold packR; rw [if_neg (by rintro (h | h | h | h | h); exact g1 h; exact g2 h; exact g3 h; exact g4 h; exact g5f h)]; rfl⟩
  have d1 : decide ((F : Int) < 2) = false := by simpa using g1
  have d2 : decide (16 < (F : Int)) = false := by simpa using g2
  have d3 : decide (mx < 1) = false := by simpa using g3
  have d4 : decide (keep < 1) = false := by simpa using g4
  rw [g5] at hf
  have hcl := fun W (hb : Below w2.heap.size w2 W) => clone_calls A c l W (Kd.C_below hC (below_step hB hb)) hc hl
  have HCL := Aside0.mk hcl
  have HASK := Aside0.mk (pack1_asks w2.heap.size w.heap.size (w.heap.size + 1) F mx keep now w2 (by omega) (by omega) k1' k2 (Nat.le_refl _))
  have HK1 := Aside0.mk k1'
  have HLE : Aside0 (w.heap.size + 2 = w2.heap.size) := ⟨by omega⟩
  have HL := Aside0.mk hl
  obtain ⟨n, hn⟩ : ∃ n, n = l.length := ⟨_, rfl⟩
  rw [← hn] at hf ⊢
  have HN := Aside0.mk hn
  clear hn hC k1 k1' k2 b1 b2 s1 s2 hB hcl
  go_enter Try.func18, Try.ntmps18
  go_upto_region 1 with fail
  rw [← hw1, ← hw2]
  clear hw1 hw2
  go_wp2_with fail
  refine hf.mono ?_
  rintro e w3 ⟨rfl, hb3⟩
  have HB3 := Aside0.mk hb3
  have hcl := HCL.out w3 hb3
  clear hf hb3
  rw [← HN.out] at hcl
  go_wp2_with fail
  refine hcl.mono ?_
  rintro e w4 ⟨v4, rfl, hr4, hb4⟩
  have HB4 := Aside0.mk (below_step HB3.out hb4)
  have hdel := del_own v4 l 42 _ (overB keep now) w2.heap.size w2 w4 (enters_of Try.func42 (by kernel_rfl) rfl) HASK.out HB4.out HB4.out.size (Kd.R_lower hr4 HB3.out.size) HL.out
  clear hcl hr4 hb4 HCL HASK
  go_wp2_with fail
  refine hdel.mono ?_
  rintro e w5 ⟨v5, rfl, hr5, hb5⟩
  have HB5 := Aside0.mk hb5
  have hsort := sort_own v5 _ w2.heap.size w2 w5 hb5 hr5 (Nat.le_trans (List.length_filter_le _ _) HL.out)
  clear hdel hr5 hb5 HB4
  go_wp2_with fail
  refine hsort.mono ?_
  rintro e w6 ⟨rfl, s, hp6, hs6, hr6, hb6⟩
  have HB6 := Aside0.mk hb6
  have HP6 := Aside0.mk hp6
  have HS6 := Aside0.mk hs6
  obtain ⟨A6, c6, rfl, hc6⟩ := OwnRow.slice_ hr6.2
  have HC6 := Aside0.mk (Kd.R_reads' hr6).2.2
  have HCC := Aside0.mk hc6
  clear hsort hp6 hs6 hr6 hb6 hc6 HB5
  obtain ⟨m, hm⟩ : ∃ m, m = s.length := ⟨_, rfl⟩
  rw [← hm]
  have HM := Aside0.mk hm
  clear hm
  have HK6 := Aside0.mk (cell_stays HK1.out (by have := HLE.out; omega) HB6.out)
  have HFB : Aside0 (∀ x ∈ s, 0 ≤ x.f6 ∧ x.f6 < 1099511627776 ∧ rightB x = true) := ⟨fun x hx => by
    have hx1 := (List.mem_filter.1 (HP6.out.mem_iff.1 hx)).1
    have hr := HFL.out.1 x hx1
    have hw := right_wf hr
    exact ⟨by omega, by omega, hr⟩⟩
  have HML : Aside0 (m ≤ 1048576) := ⟨by rw [HM.out, HP6.out.length_eq]; exact Nat.le_trans (List.length_filter_le _ _) HL.out⟩
  have HZ : Aside0 (w.heap.size < w6.heap.size) := ⟨by have := HLE.out; have := HB6.out.size; omega⟩
  have HB06 : Aside0 (Below w.heap.size w w6) := ⟨below_step HB.out HB6.out⟩
  clear hl d1 d2 d3 d4 g1 g2 g3 g4 g5 g5f f0 f1 f2 HK1 HB3
  go_wp2_with fail
  go_loopg [43] 20 (fun g s43 wx => ∃ lv : Nat, s43 = .int .i64 (lv : Int) ∧ Aside0 (lv + g = 20) ∧ Aside0 (Below w6.heap.size w6 wx) ∧ Aside0 (∀ k, k < lv → packL F mx s k = none))
  case atStart => exact ⟨0, rfl, ⟨rfl⟩, ⟨Below.refl _ _⟩, ⟨fun k hk => absurd hk (Nat.not_lt_zero _)⟩⟩
  case round =>
    obtain ⟨lv, rfl, HG, HBL, HPL⟩ := hrel
    by_cases hlv : (lv : Int) < 20
    · have k6 := cell_stays HK6.out HZ.out HBL.out
      have r0 := blk_cell k6 0
      simp at r0
      clear k6
      obtain ⟨ga, rfl⟩ : ∃ ga, ga = gk := ⟨_, rfl⟩
      obtain ⟨wa, rfl⟩ : ∃ wa, wa = wr := ⟨_, rfl⟩
      go_wp2_with fail
      apply wp_scope_straight
      go_wp2_with fail
      go_step3
      go_wp2_with fail
      have e52 : max 0 (wrap64 (wrap64 ((m : Int) - (F : Int)) + 1)) = ((m + 1 - F : Nat) : Int) := by
        have h1 := HML.out
        have h2 := HF.out
        rw [Go.IntWalk.wrap64_in ((m : Int) - F) (by omega), Go.IntWalk.wrap64_in _ (by omega)]
        omega
      rw [e52]
      obtain ⟨N, hN⟩ : ∃ N, N = m + 1 - F := ⟨_, rfl⟩
      rw [← hN]
      have HNN := Aside0.mk hN
      clear e52 hN
      go_loopg [53] N (fun g s53 wx => ∃ i : Nat, s53 = .int .i64 (i : Int) ∧ Aside0 (i + g = N) ∧ Aside0 (Below w6.heap.size w6 wx) ∧ Aside0 (∀ k, k < i → runOk (lv : Int) mx 0 (runAt F s k) = false))
      case atStart => exact ⟨0, rfl, ⟨Nat.zero_add _⟩, HBL, ⟨fun k hk => absurd hk (Nat.not_lt_zero _)⟩⟩
      case round =>
        obtain ⟨i, rfl, HGI, HBI, HRI⟩ := hrel
        have hiN : i ≤ N := by have := HGI.out; omega
        by_cases hi : (i : Int) < N
        · have HIN : Aside0 (i < N) := ⟨by omega⟩
          have hm0 : 0 < m := by have := HNN.out; have := HF.out; omega
          have hC6 := HC6.out
          rw [← HM.out] at hC6
          obtain ⟨ad, hA, _⟩ := hC6.2.2 hm0
          subst hA
          have k6 := cell_stays HK6.out HZ.out HBI.out
          have r0 := blk_cell k6 0
          have r1 := blk_cell k6 1
          simp at r0 r1
          obtain ⟨gb, rfl⟩ : ∃ gb, gb = gk := ⟨_, rfl⟩
          obtain ⟨wb, rfl⟩ : ∃ wb, wb = wr := ⟨_, rfl⟩
          have ei : wrap64 ((i : Int) + (F : Int)) = ((i + F : Nat) : Int) := by
            have h1 := HML.out
            have h2 := HF.out
            have h3 := HNN.out
            rw [Go.IntWalk.wrap64_in _ (by omega)]
            omega
          have q1 : (0 : Int) ≤ ((i + F : Nat) : Int) := by omega
          have q2 : ((i + F : Nat) : Int) ≤ (m : Int) := by have h1 := HNN.out; have := HF.out; omega
          have q3 : ((i + F : Nat) : Int) ≤ (c6 : Int) := by have h1 := HCC.out; have := HM.out; omega
          have q4 : (i : Int) ≤ ((i + F : Nat) : Int) := by omega
          have hci : ¬ c6 = i := by have h1 := HCC.out; have := HM.out; have := HNN.out; have := HF.out; omega
          have HRL : Aside0 ((runAt F s i).length = F) := ⟨run_len (by have := HM.out; have := HNN.out; have := HF.out; omega)⟩
          have HRUN : Aside0 (k40.C w6 (some (ad.add (i * 8))) (runAt F s i).length (runAt F s i)) := ⟨by
            have h1 := Kd.C_drop HC6.out (m := i) (c := c6) (by have := HM.out; have := HNN.out; have := HF.out; omega) HCC.out
            rw [if_neg hci] at h1
            exact Kd.C_take h1 (m := F) (by rw [List.length_drop]; have := HM.out; have := HNN.out; have := HF.out; omega)⟩
          have HRS : Aside0 (∀ x ∈ runAt F s i, x ∈ s) := ⟨fun x hx => List.mem_of_mem_drop (List.mem_of_mem_take hx)⟩
          have HRE : Aside0 (runAt F s i = runAt F s i) := ⟨rfl⟩
          obtain ⟨run, hrun⟩ : ∃ run, run = runAt F s i := ⟨_, rfl⟩
          rw [← hrun] at HRL HRUN HRS HRE
          have HRD := Aside0.mk hrun
          clear k6 hC6 hrun
          go_wp2_with fail
          go_loopg [65, 10] F (fun g s65 s10 wx => ∃ (j : Nat) (t : Int), s65 = .int .i64 (j : Int) ∧ s10 = .int .i64 t ∧ Aside0 (j + g = F) ∧ Aside0 (Below w6.heap.size w6 wx) ∧ Aside0 (0 ≤ t ∧ t ≤ j * 1099511627776) ∧ Aside0 (runOk (lv : Int) mx 0 run = runOk (lv : Int) mx t (run.drop j)))
          case atStart => exact ⟨0, 0, rfl, rfl, ⟨Nat.zero_add _⟩, HBI, ⟨by omega⟩, ⟨rfl⟩⟩
          case round =>
            obtain ⟨j, t, rfl, rfl, HGJ, HBJ, HT, HRO⟩ := hrel
            have hjF : j ≤ F := by have := HGJ.out; omega
            by_cases hj : (j : Int) < F
            · have HJF : Aside0 (j < F) := ⟨by omega⟩
              have fb := HF.out.2
              have nb : N ≤ 1048577 := by have h1 := HNN.out; have h2 := HML.out; omega
              have hjl : j < run.length := by have := HRL.out; omega
              obtain ⟨ad2, hA2, c0, c1, c2, c3, c4, c5, cc6, c7⟩ := el_at (Kd.C_below HRUN.out HBJ.out) j hjl
              injection hA2 with hA2
              subst hA2
              have HDJ : Aside0 (run.drop j = run[j] :: run.drop (j + 1)) := ⟨List.drop_eq_getElem_cons hjl⟩
              have HXB : Aside0 (0 ≤ run[j].f6 ∧ run[j].f6 < 1099511627776) := ⟨by have h := HFB.out _ (HRS.out _ (List.getElem_mem hjl)); exact ⟨h.1, h.2.1⟩⟩
              obtain ⟨x, hx⟩ : ∃ x, x = run[j] := ⟨_, rfl⟩
              rw [← hx] at c0 c1 c2 c3 c4 c5 cc6 c7 HDJ HXB
              clear hx hjl r0 r1
              obtain ⟨W1, hW1⟩ : ∃ W1, W1 = wr.alloc (.cells #[.int .i64 x.f0, .int .i64 x.f1, .int .i64 x.f2, .int .i64 x.f3, .int .i64 x.f4, .int .i64 x.f5, .int .i64 x.f6, .int .i64 x.f7] 40) := ⟨_, rfl⟩
              have hbk : W1.heap[wr.heap.size]? = some (.cells #[.int .i64 x.f0, .int .i64 x.f1, .int .i64 x.f2, .int .i64 x.f3, .int .i64 x.f4, .int .i64 x.f5, .int .i64 x.f6, .int .i64 x.f7] 40 (0, 0)) := by rw [hW1]; exact blk_new _ _
              have hbw : Below wr.heap.size wr W1 := by rw [hW1]; exact below_alloc (Below.refl _ _) _
              have HBW : Aside0 (Below w6.heap.size w6 W1) := ⟨below_step HBJ.out hbw⟩
              have HW1 := Aside0.mk hW1
              obtain ⟨bx, hbx⟩ : ∃ bx, bx = wr.heap.size := ⟨_, rfl⟩
              have HBX := Aside0.mk hbx
              rw [← hbx] at hbk
              have e6 := blk_cell hbk 6
              have e7 := blk_cell hbk 7
              have k6 := cell_stays HK6.out HZ.out HBW.out
              have r1 := blk_cell k6 1
              simp at e6 e7 r1
              have et : wrap64 (t + x.f6) = t + x.f6 := Go.IntWalk.wrap64_in _ (by have h1 := HT.out; have h2 := HXB.out; have h3 := HF.out; omega)
              have HT2 : Aside0 (0 ≤ t + x.f6 ∧ t + x.f6 ≤ ((j + 1 : Nat) : Int) * 1099511627776) := ⟨by have h1 := HT.out; have h2 := HXB.out; omega⟩
              have HRN : Aside0 (runOk (lv : Int) mx 0 run = (decide (x.f7 = (lv : Int)) && (decide (t + x.f6 ≤ mx) && runOk (lv : Int) mx (t + x.f6) (run.drop (j + 1))))) := ⟨by rw [HRO.out, HDJ.out]; rfl⟩
              clear k6 hbk hbw
              by_cases y1 : x.f7 = (lv : Int)
              · by_cases y2 : t + x.f6 ≤ mx
                · have n1 : (x.f7 == (lv : Int)) = true := by simpa using y1
                  have n2 : (x.f7 != (lv : Int)) = false := by simpa using y1
                  have n3 : decide (mx < t + x.f6) = false := by simpa using y2
                  have HRX : Aside0 (runOk (lv : Int) mx 0 run = runOk (lv : Int) mx (t + x.f6) (run.drop (j + 1))) := ⟨by rw [HRN.out]; simp [y1, y2]⟩
                  clear y1 y2 hW1 hbx
                  go_upto_region 16 with fail
                  rw [← HW1.out, ← HBX.out]
                  clear c0 c1 c2 c3 c4 c5 cc6 c7
                  go_wp2
                  go_roundg (gk - 1)
                  case measure => have := HGJ.out; omega
                  case rel => exact ⟨j + 1, t + x.f6, by go_num, by rw [et], ⟨by have h1 := HGJ.out; have h2 := HJF.out; omega⟩, HBW, HT2, HRX⟩
                · have n1 : (x.f7 == (lv : Int)) = true := by simpa using y1
                  have n2 : (x.f7 != (lv : Int)) = false := by simpa using y1
                  have n3 : decide (mx < t + x.f6) = true := by simpa using y2
                  have HRX : Aside0 (runOk (lv : Int) mx 0 (runAt F s i) = false) := ⟨by rw [← HRD.out, HRN.out]; simp [y2]⟩
                  clear y1 y2 hW1 hbx
                  go_upto_region 16 with fail
                  rw [← HW1.out, ← HBX.out]
                  clear c0 c1 c2 c3 c4 c5 cc6 c7
                  go_wp2
                  go_roundg (gb - 1)
                  case measure => have h1 := HGI.out; have h2 := HIN.out; omega
                  case rel => exact ⟨i + 1, by go_num, ⟨by have h1 := HGI.out; have h2 := HIN.out; omega⟩, HBW, ⟨fun k hk => by
                    rcases Nat.lt_or_ge k i with h | h
                    · exact HRI.out k h
                    · have : k = i := by omega
                      rw [this]; exact HRX.out⟩⟩
              · have n1 : (x.f7 == (lv : Int)) = false := by simpa using y1
                have n2 : (x.f7 != (lv : Int)) = true := by simpa using y1
                have HRX : Aside0 (runOk (lv : Int) mx 0 (runAt F s i) = false) := ⟨by rw [← HRD.out, HRN.out]; simp [y1]⟩
                clear y1 hW1 hbx
                go_upto_region 16 with fail
                rw [← HW1.out, ← HBX.out]
                clear c0 c1 c2 c3 c4 c5 cc6 c7
                go_wp2
                go_roundg (gb - 1)
                case measure => have h1 := HGI.out; have h2 := HIN.out; omega
                case rel => exact ⟨i + 1, by go_num, ⟨by have h1 := HGI.out; have h2 := HIN.out; omega⟩, HBW, ⟨fun k hk => by
                  rcases Nat.lt_or_ge k i with h | h
                  · exact HRI.out k h
                  · have : k = i := by omega
                    rw [this]; exact HRX.out⟩⟩
            · have hjeq : j = F := by omega
              have HOK : Aside0 (runOk (lv : Int) mx 0 (runAt F s i) = true) := ⟨by rw [← HRD.out, HRO.out, hjeq, List.drop_of_length_le (by rw [HRL.out]; exact Nat.le_refl _)]; rfl⟩
              have hids := ids_calls (some (ad.add (i * 8))) (c6 - i) run 47 _ (fun _ => true) wr (enters_of Try.func47 (by kernel_rfl) rfl) (pack3_asks wr) (Kd.C_below HRUN.out HBJ.out) (by rw [HRL.out]; have := HF.out; omega)
              rw [HRL.out] at hids
              clear hjeq
              go_wp2_with fail
              refine hids.mono ?_
              rintro e w7 ⟨v, rfl, hr7, hb7⟩
              have HR7 := Aside0.mk hr7
              have HB7 := Aside0.mk hb7
              clear hids hr7 hb7
              have HPS : Aside0 (packS F mx s = some run) := ⟨find_some 20 _ lv _ (by omega) HPL.out (find_some _ _ i _ (by have := HM.out; have := HNN.out; have := HIN.out; omega) (fun k hk => by rw [if_neg (by rw [HRI.out k hk]; decide)]) (by rw [if_pos HOK.out, HRD.out]))⟩
              have HFR : Aside0 (idsB run (fun _ => true) = packR l s F mx keep) := ⟨by
                rw [HPR.out, HPS.out]
                unfold idsB
                rw [if_pos (fine_iff.2 ⟨fun x hx => (HFB.out x (HRS.out x hx)).2.2, ?_⟩), List.filter_eq_self.2 (fun _ _ => rfl)]
                · rfl
                · have h1 : (s.map (·.f0)).Nodup := ((HP6.out.map _).nodup_iff).2 (List.Sublist.nodup ((List.filter_sublist ..).map _) HFL.out.2)
                  rw [HRD.out]
                  exact List.Sublist.nodup (((List.take_sublist _ _).trans (List.drop_sublist _ _)).map _) h1⟩
              go_wp2
              simp only [Exit.noGoto_ret, Exit.inBlock, Exit.then]
              go_ret
              exact ⟨_, s, rfl, HP6.out, HS6.out, by rw [← HFR.out]; exact Kd.R_lower HR7.out (by have h1 := HB06.out.size; have h2 := HBJ.out.size; omega), below_step HB06.out (below_step HBJ.out HB7.out)⟩
        · have hieq : i = N := by omega
          have HPK : Aside0 (packL F mx s lv = none) := ⟨find_none _ _ (fun k hk => by rw [if_neg (by rw [HRI.out k (by have := HM.out; have := HNN.out; omega)]; decide)])⟩
          have HLV : Aside0 (lv < 20) := ⟨by omega⟩
          clear hieq
          go_wp2
          go_roundg (ga - 1)
          case measure => have h1 := HG.out; have h2 := HLV.out; omega
          case rel => exact ⟨lv + 1, by go_num, ⟨by have h1 := HG.out; have h2 := HLV.out; omega⟩, HBI, ⟨fun k hk => by
            rcases Nat.lt_or_ge k lv with h | h
            · exact HPL.out k h
            · have : k = lv := by omega
              rw [this]; exact HPK.out⟩⟩
    · have hleq : lv = 20 := by have := HG.out; omega
      have HPS : Aside0 (packS F mx s = none) := ⟨find_none _ _ (fun k hk => HPL.out k (by omega))⟩
      clear hleq
      go_wp2
      go_ret
      exact ⟨_, s, rfl, HP6.out, HS6.out, by rw [HPR.out, HPS.out]; exact Kd.R_nil _ _ _ _ _, below_step HB06.out HBL.out⟩
end Go.Proofs.Ytdohacnjngkkiaa.Pw
