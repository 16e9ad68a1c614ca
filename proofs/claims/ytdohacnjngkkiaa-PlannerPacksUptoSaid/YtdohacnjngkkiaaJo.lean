/- planner.Joined: what blocks make, walked. -/
import Derived.Test.YtdohacnjngkkiaaPw
import Derived.Test.YtdohacnjngkkiaaBx
import Derived.Test.YtdohacnjngkkiaaJd
import Derived.Test.YtdohacnjngkkiaaA1
import Derived.Deep.QuietTactic
import Derived.BigQuiet
namespace Go.Proofs.Ytdohacnjngkkiaa.Jo
set_option linter.unusedVariables false
set_option linter.unusedSimpArgs false
open Go.Proofs.Ytdohacnjngkkiaa.Jd Go.Proofs.Ytdohacnjngkkiaa.Sm Go.Proofs.Ytdohacnjngkkiaa.Bx Go.Proofs.Ytdohacnjngkkiaa.Pk Go.Proofs.Ytdohacnjngkkiaa.Pq Go.Shelf Go.RowKit Go.Proofs.YtdohacnjngkkiaaW.PrintWords Go.Proofs.YtdohacnjngkkiaaW.PrintLast Go.Proofs.YtdohacnjngkkiaaW.PrintMore Go.Proofs.Ytdohacnjngkkiaa.Fr Go.Proofs.Ytdohacnjngkkiaa.A Go.Proofs.Ytdohacnjngkkiaa.Pm Go.Proofs.Ytdohacnjngkkiaa.Pf Go.Proofs.Ytdohacnjngkkiaa.Pi Go.Proofs.Ytdohacnjngkkiaa.Pc Go.Proofs.Ytdohacnjngkkiaa.Pd
attribute [local go_sem high] eqA40
theorem cell_far (w : World) (b b' i j : Nat) (v : Value) (h : b' ≠ b) : (w.setCell ⟨b, i, none⟩ v).cell? ⟨b', j, none⟩ = w.cell? ⟨b', j, none⟩ := by
  simp only [World.cell?]
  rw [Below.heap_setCell _ _ _ _ h]
theorem below_alloc' {B : Nat} {w W : World} (h : Below B w W) (hB : B ≤ W.heap.size) (o : Obj) : Below B w (W.alloc o) := h.alloc hB o
theorem below_step' {B : Nat} {w w1 w2 : World} (h1 : Below B w w1) (h2 : Below w1.heap.size w1 w2) (hB : B ≤ w1.heap.size) : Below B w w2 :=
  h1.trans ⟨h2.os, h2.tape, h2.output, h2.size, fun k hk => h2.block k (by omega)⟩
set_option maxHeartbeats 4000000 in
theorem joined_calls (A : Option Addr) (c : Nat) (l : List S40) (id : Int) (w : World) (hC : k40.C w A l.length l) (hc : l.length ≤ c) (hl : l.length ≤ 1048576) :
    Calls Try.prog 20 #[.slice A l.length c, .int .i64 id] w fun e w' => e = .returned (.tuple #[ag (joinB l id).1, .bool (joinB l id).2]) ∧ Below w.heap.size w w' := by
  obtain ⟨w1, hw1⟩ : ∃ w1, w1 = w.alloc (.cells #[.int .i64 0, .int .i64 0, .int .i64 0, .int .i64 0, .int .i64 0, .int .i64 0, .int .i64 0, .int .i64 0] 40) := ⟨_, rfl⟩
  have hb1 : Below w.heap.size w w1 := by rw [hw1]; exact below_alloc (Below.refl _ _) _
  have k4 : w1.heap[w.heap.size]? = some (.cells #[.int .i64 0, .int .i64 0, .int .i64 0, .int .i64 0, .int .i64 0, .int .i64 0, .int .i64 0, .int .i64 0] 40 (0, 0)) := by rw [hw1]; exact blk_new _ _
  have HB1 := Aside0.mk hb1
  have HK4 := Aside0.mk k4
  have hf := fine_calls A c l w1 (Kd.C_below hC hb1) hl
  have HC := Aside0.mk hC
  cases l with
  | nil =>
    clear hC hf hb1 k4
    go_enter Try.func20, Try.ntmps20
    go_upto_region 1 with fail
    rw [← hw1]
    clear hw1
    go_wp2_with (first | ((with_reducible refine gate_store (t := 40) (p := 4) rfl ?_); refine put8 z40 rfl rfl rfl rfl rfl HK4.out rfl ?_; intro w2 hk2 hf2 hb2 hs2; have HK2 := Aside0.mk hk2; have HB2 := Aside0.mk (hb2 _ _ (Nat.le_refl _) HB1.out); clear hk2 hf2 hb2 hs2))
    refine bodyPost_ret (results_ct rfl _ _ w.heap.size 40 (cells8 z40).toArray (0, 0) _ rfl HK2.out Try.underlying40 rfl (by kernel_rfl)) rfl ?_
    exact ⟨rfl, HB2.out⟩
  | cons x r =>
    by_cases hfin : fineB (x :: r) = true
    · have HJ : Aside0 (joinB (x :: r) id = if rightB (lastJ (r.foldl stepJ x) id) = true then (lastJ (r.foldl stepJ x) id, true) else (z40, false)) := ⟨by unfold joinB; simp only []; rw [if_pos hfin]; rfl⟩
      rw [hfin] at hf
      obtain ⟨ad, hA, c0, c1, c2, c3, c4, c5, cc6, c7⟩ := el_at (Kd.C_below hC hb1) 0 (by simp)
      subst hA
      have HEL := Aside0.mk (show _ ∧ _ from ⟨hC, hc⟩)
      have HL := Aside0.mk hl
      obtain ⟨n, hn⟩ : ∃ n, n = (x :: r).length := ⟨_, rfl⟩
      rw [← hn] at hf ⊢
      have HN := Aside0.mk hn
      have hn0 : 0 < n := by rw [hn]; simp
      have hn0i : (0 : Int) < n := by omega
      have hn0b : ((n : Int) == 0) = false := beq_eq_false_iff_ne.mpr (by omega)
      clear hC c0 c1 c2 c3 c4 c5 cc6 c7 hb1 k4 hn hfin hc hl
      go_enter Try.func20, Try.ntmps20
      go_upto_region 1 with fail
      rw [← hw1]
      clear hw1
      go_wp2_with fail
      refine hf.mono ?_
      rintro e w2 ⟨rfl, hb2⟩
      have HB2 := Aside0.mk (below_step HB1.out hb2)
      have HK2 := Aside0.mk (blk_below HK4.out hb2)
      obtain ⟨ad', hA, c0, c1, c2, c3, c4, c5, cc6, c7⟩ := el_at (Kd.C_below HEL.out.1 HB2.out) 0 (by simp)
      injection hA with hA
      subst hA
      have ea : ad.add (0 * 8) = ad := Addr.add_zero' ad
      rw [ea] at c0 c1 c2 c3 c4 c5 cc6 c7
      simp only [List.getElem_cons_zero] at c0 c1 c2 c3 c4 c5 cc6 c7
      clear ea
      clear hf hb2
      go_upto_region 4 with (first | ((with_reducible refine gate_store (t := 40) (p := 6) rfl ?_); refine put8 x rfl rfl rfl rfl rfl (blk_new _ _) rfl ?_; intro w3 hk3 hf3 hb3 hs3; have HK3 := Aside0.mk hk3; have HB3 := Aside0.mk (hb3 _ _ HB2.out.size (below_alloc HB2.out _)); have HK4' := Aside0.mk ((hf3 _ (Nat.ne_of_lt (blk_lt HK2.out))).trans (blk_alloc HK2.out _)); have HS3 : Aside0 (w2.heap.size < w3.heap.size) := ⟨blk_lt hk3⟩; clear hk3 hf3 hb3 hs3))
      have HCL := Aside0.mk (Kd.C_below HEL.out.1 HB3.out)
      obtain ⟨b6, hb6⟩ : ∃ b6, b6 = w2.heap.size := ⟨_, rfl⟩
      have hle6 : w.heap.size < b6 := by rw [hb6]; exact blk_lt HK2.out
      rw [← hb6] at HK3 HS3 ⊢
      obtain ⟨b4, hb4⟩ : ∃ b4, b4 = w.heap.size := ⟨_, rfl⟩
      rw [← hb4] at HK4' hle6 ⊢
      have HLE := Aside0.mk hle6
      have HE4 := Aside0.mk hb4
      have HL6 : Aside0 (b6 < w3.heap.size) := ⟨HS3.out⟩
      clear hb6 hle6 hb4 HK4 HK2
      obtain ⟨ta, hta⟩ : ∃ ta : Addr, ta = if c = 1 then ad else ⟨ad.block, ad.off + 8, none⟩ := ⟨_, rfl⟩
      have HT : Aside0 (k40.C w (some ta) r.length r ∧ r.length = n - 1 ∧ r.length + 1 ≤ 1048576) := ⟨by
        have h1 := Kd.C_drop HEL.out.1 (m := 1) (c := c) (by simp) HEL.out.2
        have h2 := HN.out
        have h3 := HL.out
        rw [List.length_cons] at h2 h3
        refine ⟨?_, by omega, h3⟩
        by_cases hc1 : c = 1
        · rw [if_pos hc1] at h1 hta
          rw [hta]
          exact h1
        · rw [if_neg hc1] at h1 hta
          rw [hta]
          exact h1⟩
      by_cases hc1 : c = 1
      · (first | rw [if_pos hc1] at hta | rw [if_neg hc1] at hta)
        have HNC : Aside0 (c = 1 → n - 1 = 0) := ⟨fun h => by have h1 := HEL.out.2; have h2 := HN.out; omega⟩
        have HTA := Aside0.mk hta
        clear hta
        go_wp2_with fail
        obtain ⟨nt, hnt⟩ : ∃ nt, nt = n - 1 := ⟨_, rfl⟩
        have hta := HTA.out
        rw [← hnt, ← hta]
        rw [← hnt] at HT HNC
        clear hta HTA
        have htl : nt ≤ 1048576 := by have := HT.out.2; omega
        clear hnt
        go_loopg [25] nt (fun g s25 wx => ∃ j : Nat, s25 = .int .i64 (j : Int) ∧ Aside0 (j + g = nt) ∧ Aside0 (Below b4 w wx) ∧ Aside0 (wx.heap[b6]? = some (.cells (cells8 ((r.take j).foldl stepJ x)).toArray 40 (0, 0))) ∧ Aside0 (wx.heap[b4]? = some (.cells #[.int .i64 0, .int .i64 0, .int .i64 0, .int .i64 0, .int .i64 0, .int .i64 0, .int .i64 0, .int .i64 0] 40 (0, 0))))
        case atStart => exact ⟨0, rfl, ⟨Nat.zero_add _⟩, ⟨by rw [HE4.out]; exact HB3.out⟩, HK3, HK4'⟩
        case round =>
          obtain ⟨j, rfl, HG, HBJ, HK6, HKJ⟩ := hrel
          by_cases hj : (j : Int) < nt
          · exfalso; have h1 := HNC.out hc1; omega
          · have hje : j = nt := by have := HG.out; omega
            have HK6E : Aside0 (wr.heap[b6]? = some (.cells (cells8 (r.foldl stepJ x)).toArray 40 (0, 0))) := ⟨by have h := HK6.out; rw [hje, List.take_of_length_le (by have := HT.out.2; omega)] at h; exact h⟩
            clear hje HK6 HT
            obtain ⟨m, hm⟩ : ∃ m, m = r.foldl stepJ x := ⟨_, rfl⟩
            rw [← hm] at HJ HK6E
            clear hm
            have hk6 := HK6E.out
            have z0 := blk_cell hk6 7
            have z1 := blk_cell hk6 0
            simp [cells8] at z0 z1
            have fz0 := blk_frozen hk6 0
            have fz7 := blk_frozen hk6 7
            clear hn0b hn0i c0 c1 c2 c3 c4 c5 cc6 c7
            go_upto_region 14 with fail
            obtain ⟨W5, hW5⟩ : ∃ W5, W5 = ((wr.setCell ⟨b6, 7, none⟩ (.int .i64 (wrap64 (m.f7 + 1)))).setCell ⟨b6, 0, none⟩ (.int .i64 id)) := ⟨_, rfl⟩
            rw [← hW5]
            have HK5 : Aside0 (W5.heap[b6]? = some (.cells (cells8 (lastJ m id)).toArray 40 (0, 0))) := ⟨by
              have h := blk_put (blk_put hk6 7 (.int .i64 (wrap64 (m.f7 + 1))) rfl) 0 (.int .i64 id) rfl
              rw [← hW5] at h
              simpa [cells8, lastJ] using h⟩
            have hfar : ∀ k, k ≠ b6 → W5.heap[k]? = wr.heap[k]? := fun k hk => by rw [hW5]; exact (Below.heap_setCell _ _ _ _ hk).trans (Below.heap_setCell _ _ _ _ hk)
            have HW5 := Aside0.mk ((hfar _ (Nat.ne_of_lt HLE.out)).trans HKJ.out)
            have HB5 : Aside0 (Below b4 w W5) := ⟨HBJ.out.trans ⟨by rw [hW5]; rfl, by rw [hW5]; rfl, by rw [hW5]; rfl, by rw [hW5]; simp, fun k hk => hfar k (by have := HLE.out; omega)⟩⟩
            clear hfar hW5 hk6 z0 z1 fz0 fz7
            go_upto_region 15 with (first | ((with_reducible refine gate_store (t := 40) (p := 9) rfl ?_); refine put8 z40 rfl rfl rfl rfl rfl (blk_new _ _) rfl ?_; intro w9 hk9 hf9 hb9 hs9; have HK9 := Aside0.mk hk9; have HF9 := Aside0.mk hf9; have HB9 := Aside0.mk (hb9 b4 w (by have := blk_lt HK5.out; have := HLE.out; omega) (below_alloc' HB5.out (by have := blk_lt HK5.out; have := HLE.out; omega) _)); clear hk9 hf9 hb9 hs9))
            have hk9 := HK9.out
            have hk5 := (HF9.out b6 (Nat.ne_of_lt (blk_lt HK5.out))).trans (blk_alloc HK5.out _)
            have HK4 := Aside0.mk ((HF9.out b4 (Nat.ne_of_lt (blk_lt HW5.out))).trans (blk_alloc HW5.out _))
            obtain ⟨b9, hb9⟩ : ∃ b9, b9 = W5.heap.size := ⟨_, rfl⟩
            rw [← hb9] at hk9 ⊢
            clear hb9 HF9
            obtain ⟨q, hq⟩ : ∃ q, q = lastJ m id := ⟨_, rfl⟩
            rw [← hq] at hk5 HJ
            have hcal := right_calls q w9
            unfold ag at hcal
            have d0 := blk_cell hk5 0
            have d1 := blk_cell hk5 1
            have d2 := blk_cell hk5 2
            have d3 := blk_cell hk5 3
            have d4 := blk_cell hk5 4
            have d5 := blk_cell hk5 5
            have d6 := blk_cell hk5 6
            have d7 := blk_cell hk5 7
            simp [cells8] at d0 d1 d2 d3 d4 d5 d6 d7
            have e0 := blk_cell hk9 0
            have e1 := blk_cell hk9 1
            have e2 := blk_cell hk9 2
            have e3 := blk_cell hk9 3
            have e4 := blk_cell hk9 4
            have e5 := blk_cell hk9 5
            have e6 := blk_cell hk9 6
            have e7 := blk_cell hk9 7
            simp [cells8, z40] at e0 e1 e2 e3 e4 e5 e6 e7
            have HK9' := Aside0.mk hk9
            have HK5' := Aside0.mk hk5
            clear hk9 hk5 hq HK9 HK5
            by_cases hR : rightB q = true
            · have hJ1 : Aside0 (joinB (x :: r) id = (q, true)) := ⟨by rw [HJ.out, if_pos hR]⟩
              have hne : (q.f0 == 0) = false := by have h := right_wf hR; exact beq_eq_false_iff_ne.mpr (by omega)
              rw [hR] at hcal
              clear hR HJ
              go_wp2_with fail
              refine hcal.mono ?_
              rintro e w10 ⟨rfl, hb10⟩
              have HK4X := Aside0.mk (blk_below HK4.out hb10)
              have hk6 := blk_below HK5'.out hb10
              have HBX := Aside0.mk (below_step' HB9.out hb10 (by have := blk_lt HK4.out; omega))
              clear hcal hb10 d0 d1 d2 d3 d4 d5 d6 d7 e0 e1 e2 e3 e4 e5 e6 e7
              have d0 := blk_cell hk6 0
              have d1 := blk_cell hk6 1
              have d2 := blk_cell hk6 2
              have d3 := blk_cell hk6 3
              have d4 := blk_cell hk6 4
              have d5 := blk_cell hk6 5
              have d6 := blk_cell hk6 6
              have d7 := blk_cell hk6 7
              simp [cells8] at d0 d1 d2 d3 d4 d5 d6 d7
              clear hk6
              go_wp2_with (first | ((with_reducible refine gate_store (t := 40) (p := 4) rfl ?_); refine put8 q rfl rfl rfl rfl rfl HK4X.out rfl ?_; intro w3 hk3 hf3 hb3 hs3; have HK3' := Aside0.mk hk3; have HB3' := Aside0.mk (hb3 _ _ (Nat.le_refl _) HBX.out); clear hk3 hf3 hb3 hs3))
              refine bodyPost_ret (results_ct rfl _ _ b4 40 (cells8 q).toArray (0, 0) _ rfl HK3'.out Try.underlying40 rfl (by kernel_rfl)) rfl ?_
              exact ⟨by rw [hJ1.out]; rfl, by rw [← HE4.out]; exact HB3'.out⟩
            · have hJ1 : Aside0 (joinB (x :: r) id = (z40, false)) := ⟨by rw [HJ.out, if_neg hR]⟩
              have hRf : rightB q = false := by simpa using hR
              rw [hRf] at hcal
              clear hR hRf HJ
              obtain ⟨B, hB⟩ : ∃ B, (q.f0 == 0 && (q.f1 == 0 && (q.f2 == 0 && (q.f3 == 0 && (q.f4 == 0 && (q.f5 == 0 && (q.f6 == 0 && q.f7 == 0))))))) = B := ⟨_, rfl⟩
              cases B with
              | true =>
                go_wp2_with (first | ((with_reducible refine gate_store (t := 40) (p := 4) rfl ?_); refine put8 z40 rfl rfl rfl rfl rfl HK4.out rfl ?_; intro w3 hk3 hf3 hb3 hs3; have HK3' := Aside0.mk hk3; have HB3' := Aside0.mk (hb3 _ _ (Nat.le_refl _) HB9.out); clear hk3 hf3 hb3 hs3))
                refine bodyPost_ret (results_ct rfl _ _ b4 40 (cells8 z40).toArray (0, 0) _ rfl HK3'.out Try.underlying40 rfl (by kernel_rfl)) rfl ?_
                exact ⟨by rw [hJ1.out]; rfl, by rw [← HE4.out]; exact HB3'.out⟩
              | false =>
                go_wp2_with fail
                refine hcal.mono ?_
                rintro e w10 ⟨rfl, hb10⟩
                have HK4X := Aside0.mk (blk_below HK4.out hb10)
                have hk6 := blk_below HK9'.out hb10
                have HBX := Aside0.mk (below_step' HB9.out hb10 (by have := blk_lt HK4.out; omega))
                clear hcal hb10 d0 d1 d2 d3 d4 d5 d6 d7 e0 e1 e2 e3 e4 e5 e6 e7
                have d0 := blk_cell hk6 0
                have d1 := blk_cell hk6 1
                have d2 := blk_cell hk6 2
                have d3 := blk_cell hk6 3
                have d4 := blk_cell hk6 4
                have d5 := blk_cell hk6 5
                have d6 := blk_cell hk6 6
                have d7 := blk_cell hk6 7
                simp [cells8, z40] at d0 d1 d2 d3 d4 d5 d6 d7
                clear hk6
                go_wp2_with (first | ((with_reducible refine gate_store (t := 40) (p := 4) rfl ?_); refine put8 z40 rfl rfl rfl rfl rfl HK4X.out rfl ?_; intro w3 hk3 hf3 hb3 hs3; have HK3' := Aside0.mk hk3; have HB3' := Aside0.mk (hb3 _ _ (Nat.le_refl _) HBX.out); clear hk3 hf3 hb3 hs3))
                refine bodyPost_ret (results_ct rfl _ _ b4 40 (cells8 z40).toArray (0, 0) _ rfl HK3'.out Try.underlying40 rfl (by kernel_rfl)) rfl ?_
                exact ⟨by rw [hJ1.out]; rfl, by rw [← HE4.out]; exact HB3'.out⟩
      · (first | rw [if_pos hc1] at hta | rw [if_neg hc1] at hta)
        have HNC : Aside0 (c = 1 → n - 1 = 0) := ⟨fun h => by have h1 := HEL.out.2; have h2 := HN.out; omega⟩
        have HTA := Aside0.mk hta
        clear hta
        go_wp2_with fail
        obtain ⟨nt, hnt⟩ : ∃ nt, nt = n - 1 := ⟨_, rfl⟩
        have hta := HTA.out
        rw [← hnt, ← hta]
        rw [← hnt] at HT HNC
        clear hta HTA
        have htl : nt ≤ 1048576 := by have := HT.out.2; omega
        clear hnt
        go_loopg [25] nt (fun g s25 wx => ∃ j : Nat, s25 = .int .i64 (j : Int) ∧ Aside0 (j + g = nt) ∧ Aside0 (Below b4 w wx) ∧ Aside0 (wx.heap[b6]? = some (.cells (cells8 ((r.take j).foldl stepJ x)).toArray 40 (0, 0))) ∧ Aside0 (wx.heap[b4]? = some (.cells #[.int .i64 0, .int .i64 0, .int .i64 0, .int .i64 0, .int .i64 0, .int .i64 0, .int .i64 0, .int .i64 0] 40 (0, 0))))
        case atStart => exact ⟨0, rfl, ⟨Nat.zero_add _⟩, ⟨by rw [HE4.out]; exact HB3.out⟩, HK3, HK4'⟩
        case round =>
          obtain ⟨j, rfl, HG, HBJ, HK6, HKJ⟩ := hrel
          by_cases hj : (j : Int) < nt
          · have hjl : j < r.length := by have := HT.out.2; omega
            obtain ⟨ad2, hA2, c0, c1, c2, c3, c4, c5, cc6, c7⟩ := el_at (Kd.C_below HT.out.1 (by rw [← HE4.out]; exact HBJ.out)) j hjl
            injection hA2 with hA2
            subst hA2
            obtain ⟨y, hy⟩ : ∃ y, y = r[j] := ⟨_, rfl⟩
            rw [← hy] at c0 c1 c2 c3 c4 c5 cc6 c7
            have HTK : Aside0 ((r.take (j + 1)).foldl stepJ x = stepJ ((r.take j).foldl stepJ x) y) := ⟨by rw [List.take_succ_eq_append_getElem hjl, List.foldl_append, hy]; rfl⟩
            obtain ⟨m, hm⟩ : ∃ m, m = (r.take j).foldl stepJ x := ⟨_, rfl⟩
            rw [← hm] at HK6 HTK
            clear hy hjl hm
            go_upto_region 7 with fail
            obtain ⟨W1, hW1⟩ : ∃ W1, W1 = wr.alloc (.cells #[.int .i64 y.f0, .int .i64 y.f1, .int .i64 y.f2, .int .i64 y.f3, .int .i64 y.f4, .int .i64 y.f5, .int .i64 y.f6, .int .i64 y.f7] 40) := ⟨_, rfl⟩
            have hk8 : W1.heap[wr.heap.size]? = some (.cells (cells8 y).toArray 40 (0, 0)) := by rw [hW1]; exact blk_new _ _
            have hbw : Below wr.heap.size wr W1 := by rw [hW1]; exact below_alloc (Below.refl _ _) _
            have hk6 := blk_below HK6.out hbw
            have hne : wr.heap.size ≠ b6 := Nat.ne_of_gt (blk_lt HK6.out)
            have HW4 := Aside0.mk (blk_below HKJ.out hbw)
            have HBW := Aside0.mk (below_step' HBJ.out hbw (by rw [HE4.out]; exact Nat.le_trans (by rw [← HE4.out]; exact Nat.le_of_lt (blk_lt HKJ.out)) (Nat.le_refl _)))
            rw [← hW1]
            obtain ⟨b8, hb8⟩ : ∃ b8, b8 = wr.heap.size := ⟨_, rfl⟩
            rw [← hb8] at hk8 hne ⊢
            clear hW1 hbw hb8 c0 c1 c2 c3 c4 c5 cc6 c7
            have x6 := blk_cell hk6 1
            have x8 := blk_cell hk8 1
            have z6 := blk_cell hk6 2
            have z8 := blk_cell hk8 2
            simp [cells8] at x6 x8 z6 z8
            have fz1 := blk_frozen hk6 1
            have fz2 := blk_frozen hk6 2
            have f1 := (cell_far W1 b6 b8 1 1 (.int .i64 (min m.f1 y.f1)) hne).trans x8
            have f2 := blk_cell (blk_put hk6 1 (.int .i64 (min m.f1 y.f1)) rfl) 2
            simp [cells8] at f2
            have f3 := (cell_far W1 b6 b8 1 2 (.int .i64 (min m.f1 y.f1)) hne).trans z8
            refine start_ (S := fun W => W.cell? ⟨b8, 1, none⟩ = some (.int .i64 y.f1) ∧ W.cell? ⟨b6, 2, none⟩ = some (.int .i64 (m.f2)) ∧ W.cell? ⟨b8, 2, none⟩ = some (.int .i64 y.f2)) (ds := [13]) #[false, false, false, false, false, false, false, false, false, false, false, false, false, false] (by kernel_rfl) rfl rfl ⟨x8, z6, z8⟩ (fun hHeld => ?_)
            refine take_ (i := 0) (N := (some 29)) #[true, false, false, false, false, false, false, false, false, false, false, false, false, false] rfl rfl (by kernel_rfl) (fun _ _ _ h => h) (.inl ⟨by rfl, by (intro w hSw; (try dsimp only at hSw); go_simp <;> with_reducible rfl)⟩) hHeld rfl ?_
            (try simp only [Act.put, List.setIfInBounds_toArray, List.set_cons_zero, List.set_cons_succ])
            refine take_ (i := 2) (N := (some 31)) #[true, false, true, false, false, false, false, false, false, false, false, false, false, false] rfl rfl (by kernel_rfl) (fun _ _ _ h => h) (.inl ⟨by rfl, by (intro w hSw; (try dsimp only at hSw); go_simp <;> with_reducible rfl)⟩) hHeld rfl ?_
            (try simp only [Act.put, List.setIfInBounds_toArray, List.set_cons_zero, List.set_cons_succ])
            refine take_ (i := 3) (N := (some 32)) #[true, false, true, true, false, false, false, false, false, false, false, false, false, false] rfl rfl (by kernel_rfl) (fun _ _ _ h => h) (.inl ⟨by rfl, by (intro w hSw; (try dsimp only at hSw); go_simp <;> with_reducible rfl)⟩) hHeld rfl ?_
            (try simp only [Act.put, List.setIfInBounds_toArray, List.set_cons_zero, List.set_cons_succ])
            refine take_ (i := 5) (N := (some 34)) #[true, false, true, true, false, true, false, false, false, false, false, false, false, false] rfl rfl (by kernel_rfl) (fun _ _ _ h => h) (.inl ⟨by rfl, by (intro w hSw; (try dsimp only at hSw); go_simp <;> with_reducible rfl)⟩) hHeld rfl ?_
            (try simp only [Act.put, List.setIfInBounds_toArray, List.set_cons_zero, List.set_cons_succ])
            refine take_ (i := 6) (N := (some 35)) #[true, false, true, true, false, true, true, false, false, false, false, false, false, false] rfl rfl (by kernel_rfl) (fun _ _ _ h => h) (.inl ⟨by rfl, by (intro w hSw; (try dsimp only at hSw); go_simp <;> with_reducible rfl)⟩) hHeld rfl ?_
            (try simp only [Act.put, List.setIfInBounds_toArray, List.set_cons_zero, List.set_cons_succ])
            refine take_ (i := 7) (N := (some 36)) #[true, false, true, true, false, true, true, true, false, false, false, false, false, false] rfl rfl (by kernel_rfl) (fun _ _ _ h => h) (.inl ⟨by rfl, by (intro w hSw; (try dsimp only at hSw); go_simp <;> with_reducible rfl)⟩) hHeld rfl ?_
            (try simp only [Act.put, List.setIfInBounds_toArray, List.set_cons_zero, List.set_cons_succ])
            refine take_ (i := 8) (N := (some 37)) #[true, false, true, true, false, true, true, true, true, false, false, false, false, false] rfl rfl (by kernel_rfl) (fun _ _ _ h => h) (.inl ⟨by rfl, by (intro w hSw; (try dsimp only at hSw); go_simp <;> with_reducible rfl)⟩) hHeld rfl ?_
            (try simp only [Act.put, List.setIfInBounds_toArray, List.set_cons_zero, List.set_cons_succ])
            refine take_ (i := 9) (N := (some 38)) #[true, false, true, true, false, true, true, true, true, true, false, false, false, false] rfl rfl (by kernel_rfl) (fun _ _ _ h => h) (.inl ⟨by rfl, by (intro w hSw; (try dsimp only at hSw); go_simp <;> with_reducible rfl)⟩) hHeld rfl ?_
            (try simp only [Act.put, List.setIfInBounds_toArray, List.set_cons_zero, List.set_cons_succ])
            refine one_ (i := 1) (N := (some 30)) #[true, true, true, true, false, true, true, true, true, true, false, false, false, false] rfl rfl (by kernel_rfl) (by simp) (fun K hK => ?_)
            go_simp
            
            refine hK.out _ _ hHeld (fun hHeld => ?_)
            clear hK K
            (try simp only [Act.put, List.setIfInBounds_toArray, List.set_cons_zero, List.set_cons_succ])
            refine take_ (i := 4) (N := (some 33)) #[true, true, true, true, true, true, true, true, true, true, false, false, false, false] rfl rfl (by kernel_rfl) (fun _ _ _ h => h) (.inl ⟨by rfl, by (intro w hSw; (try dsimp only at hSw); go_simp <;> with_reducible rfl)⟩) hHeld rfl ?_
            (try simp only [Act.put, List.setIfInBounds_toArray, List.set_cons_zero, List.set_cons_succ])
            refine take_ (i := 10) (N := (some 39)) #[true, true, true, true, true, true, true, true, true, true, true, false, false, false] rfl rfl (by kernel_rfl) (fun _ _ _ h => h) (.inl ⟨by rfl, by (intro w hSw; (try dsimp only at hSw); go_simp <;> with_reducible rfl)⟩) hHeld rfl ?_
            (try simp only [Act.put, List.setIfInBounds_toArray, List.set_cons_zero, List.set_cons_succ])
            refine one_ (i := 11) (N := none) #[true, true, true, true, true, true, true, true, true, true, true, true, false, false] rfl rfl (by kernel_rfl) (by simp) (fun K hK => ?_)
            go_simp
            
            refine hK.out _ _ ⟨f1, f2, f3⟩ (fun hHeld => ?_)
            clear hK K
            (try simp only [Act.put, List.setIfInBounds_toArray, List.set_cons_zero, List.set_cons_succ])
            refine take_ (i := 12) (N := (some 40)) #[true, true, true, true, true, true, true, true, true, true, true, true, true, false] rfl rfl (by kernel_rfl) (fun _ _ _ h => h) (.inl ⟨by rfl, by (intro w hSw; (try dsimp only at hSw); go_simp <;> with_reducible rfl)⟩) hHeld rfl ?_
            (try simp only [Act.put, List.setIfInBounds_toArray, List.set_cons_zero, List.set_cons_succ])
            refine last_ (i := 13) (N := none) #[true, true, true, true, true, true, true, true, true, true, true, true, true, true] rfl rfl (by kernel_rfl) (by simp) (fun K hK => ?_)
            
            go_simp
            refine hK.out _ _ ?_
            clear hK K
            (try simp only [Act.put, List.setIfInBounds_toArray, List.set_cons_zero, List.set_cons_succ])
            refine done_ (by kernel_rfl) ?_
            obtain ⟨W2, hW2⟩ : ∃ W2, W2 = ((W1.setCell ⟨b6, 1, none⟩ (.int .i64 (min m.f1 y.f1))).setCell ⟨b6, 2, none⟩ (.int .i64 (max m.f2 y.f2))).drew := ⟨_, rfl⟩
            go_upto_region 8 with fail
            (try simp only [i64_w])
            rw [← hW2]
            replace hk6 : W2.heap[b6]? = some (.cells #[.int .i64 (m.f0), .int .i64 (min m.f1 y.f1), .int .i64 (max m.f2 y.f2), .int .i64 (m.f3), .int .i64 (m.f4), .int .i64 (m.f5), .int .i64 (m.f6), .int .i64 (m.f7)] 40 (0, 0)) := by
              have h := blk_drew (blk_put (blk_put hk6 1 (.int .i64 (min m.f1 y.f1)) rfl) 2 (.int .i64 (max m.f2 y.f2)) rfl)
              rw [← hW2] at h
              simpa [cells8] using h
            have hfar : ∀ k, k ≠ b6 → W2.heap[k]? = W1.heap[k]? := fun k hk => by rw [hW2]; exact (Below.heap_setCell _ _ _ _ hk).trans (Below.heap_setCell _ _ _ _ hk)
            replace hk8 := (hfar _ hne).trans hk8
            replace HW4 := Aside0.mk ((hfar _ (Nat.ne_of_lt HLE.out)).trans HW4.out)
            replace HBW : Aside0 (Below b4 w W2) := ⟨HBW.out.trans ⟨by rw [hW2]; rfl, by rw [hW2]; rfl, by rw [hW2]; rfl, by rw [hW2]; simp [World.drew], fun k hk => hfar k (by have := HLE.out; omega)⟩⟩
            clear hfar hW2 x6 x8 z6 z8 fz1 fz2 f1 f2 f3
            have x6 := blk_cell hk6 3
            have x8 := blk_cell hk8 3
            have z6 := blk_cell hk6 4
            have z8 := blk_cell hk8 4
            simp [cells8] at x6 x8 z6 z8
            have fz1 := blk_frozen hk6 3
            have fz2 := blk_frozen hk6 4
            have f1 := (cell_far W2 b6 b8 3 3 (.int .i64 (min m.f3 y.f3)) hne).trans x8
            have f2 := blk_cell (blk_put hk6 3 (.int .i64 (min m.f3 y.f3)) rfl) 4
            simp [cells8] at f2
            have f3 := (cell_far W2 b6 b8 3 4 (.int .i64 (min m.f3 y.f3)) hne).trans z8
            refine start_ (S := fun W => W.cell? ⟨b8, 3, none⟩ = some (.int .i64 y.f3) ∧ W.cell? ⟨b6, 4, none⟩ = some (.int .i64 (m.f4)) ∧ W.cell? ⟨b8, 4, none⟩ = some (.int .i64 y.f4)) (ds := [13]) #[false, false, false, false, false, false, false, false, false, false, false, false, false, false] (by kernel_rfl) rfl rfl ⟨x8, z6, z8⟩ (fun hHeld => ?_)
            refine take_ (i := 0) (N := (some 41)) #[true, false, false, false, false, false, false, false, false, false, false, false, false, false] rfl rfl (by kernel_rfl) (fun _ _ _ h => h) (.inl ⟨by rfl, by (intro w hSw; (try dsimp only at hSw); go_simp <;> with_reducible rfl)⟩) hHeld rfl ?_
            (try simp only [Act.put, List.setIfInBounds_toArray, List.set_cons_zero, List.set_cons_succ])
            refine take_ (i := 2) (N := (some 43)) #[true, false, true, false, false, false, false, false, false, false, false, false, false, false] rfl rfl (by kernel_rfl) (fun _ _ _ h => h) (.inl ⟨by rfl, by (intro w hSw; (try dsimp only at hSw); go_simp <;> with_reducible rfl)⟩) hHeld rfl ?_
            (try simp only [Act.put, List.setIfInBounds_toArray, List.set_cons_zero, List.set_cons_succ])
            refine take_ (i := 3) (N := (some 44)) #[true, false, true, true, false, false, false, false, false, false, false, false, false, false] rfl rfl (by kernel_rfl) (fun _ _ _ h => h) (.inl ⟨by rfl, by (intro w hSw; (try dsimp only at hSw); go_simp <;> with_reducible rfl)⟩) hHeld rfl ?_
            (try simp only [Act.put, List.setIfInBounds_toArray, List.set_cons_zero, List.set_cons_succ])
            refine take_ (i := 5) (N := (some 46)) #[true, false, true, true, false, true, false, false, false, false, false, false, false, false] rfl rfl (by kernel_rfl) (fun _ _ _ h => h) (.inl ⟨by rfl, by (intro w hSw; (try dsimp only at hSw); go_simp <;> with_reducible rfl)⟩) hHeld rfl ?_
            (try simp only [Act.put, List.setIfInBounds_toArray, List.set_cons_zero, List.set_cons_succ])
            refine take_ (i := 6) (N := (some 47)) #[true, false, true, true, false, true, true, false, false, false, false, false, false, false] rfl rfl (by kernel_rfl) (fun _ _ _ h => h) (.inl ⟨by rfl, by (intro w hSw; (try dsimp only at hSw); go_simp <;> with_reducible rfl)⟩) hHeld rfl ?_
            (try simp only [Act.put, List.setIfInBounds_toArray, List.set_cons_zero, List.set_cons_succ])
            refine take_ (i := 7) (N := (some 48)) #[true, false, true, true, false, true, true, true, false, false, false, false, false, false] rfl rfl (by kernel_rfl) (fun _ _ _ h => h) (.inl ⟨by rfl, by (intro w hSw; (try dsimp only at hSw); go_simp <;> with_reducible rfl)⟩) hHeld rfl ?_
            (try simp only [Act.put, List.setIfInBounds_toArray, List.set_cons_zero, List.set_cons_succ])
            refine take_ (i := 8) (N := (some 49)) #[true, false, true, true, false, true, true, true, true, false, false, false, false, false] rfl rfl (by kernel_rfl) (fun _ _ _ h => h) (.inl ⟨by rfl, by (intro w hSw; (try dsimp only at hSw); go_simp <;> with_reducible rfl)⟩) hHeld rfl ?_
            (try simp only [Act.put, List.setIfInBounds_toArray, List.set_cons_zero, List.set_cons_succ])
            refine take_ (i := 9) (N := (some 50)) #[true, false, true, true, false, true, true, true, true, true, false, false, false, false] rfl rfl (by kernel_rfl) (fun _ _ _ h => h) (.inl ⟨by rfl, by (intro w hSw; (try dsimp only at hSw); go_simp <;> with_reducible rfl)⟩) hHeld rfl ?_
            (try simp only [Act.put, List.setIfInBounds_toArray, List.set_cons_zero, List.set_cons_succ])
            refine one_ (i := 1) (N := (some 42)) #[true, true, true, true, false, true, true, true, true, true, false, false, false, false] rfl rfl (by kernel_rfl) (by simp) (fun K hK => ?_)
            go_simp
            
            refine hK.out _ _ hHeld (fun hHeld => ?_)
            clear hK K
            (try simp only [Act.put, List.setIfInBounds_toArray, List.set_cons_zero, List.set_cons_succ])
            refine take_ (i := 4) (N := (some 45)) #[true, true, true, true, true, true, true, true, true, true, false, false, false, false] rfl rfl (by kernel_rfl) (fun _ _ _ h => h) (.inl ⟨by rfl, by (intro w hSw; (try dsimp only at hSw); go_simp <;> with_reducible rfl)⟩) hHeld rfl ?_
            (try simp only [Act.put, List.setIfInBounds_toArray, List.set_cons_zero, List.set_cons_succ])
            refine take_ (i := 10) (N := (some 51)) #[true, true, true, true, true, true, true, true, true, true, true, false, false, false] rfl rfl (by kernel_rfl) (fun _ _ _ h => h) (.inl ⟨by rfl, by (intro w hSw; (try dsimp only at hSw); go_simp <;> with_reducible rfl)⟩) hHeld rfl ?_
            (try simp only [Act.put, List.setIfInBounds_toArray, List.set_cons_zero, List.set_cons_succ])
            refine one_ (i := 11) (N := none) #[true, true, true, true, true, true, true, true, true, true, true, true, false, false] rfl rfl (by kernel_rfl) (by simp) (fun K hK => ?_)
            go_simp
            
            refine hK.out _ _ ⟨f1, f2, f3⟩ (fun hHeld => ?_)
            clear hK K
            (try simp only [Act.put, List.setIfInBounds_toArray, List.set_cons_zero, List.set_cons_succ])
            refine take_ (i := 12) (N := (some 52)) #[true, true, true, true, true, true, true, true, true, true, true, true, true, false] rfl rfl (by kernel_rfl) (fun _ _ _ h => h) (.inl ⟨by rfl, by (intro w hSw; (try dsimp only at hSw); go_simp <;> with_reducible rfl)⟩) hHeld rfl ?_
            (try simp only [Act.put, List.setIfInBounds_toArray, List.set_cons_zero, List.set_cons_succ])
            refine last_ (i := 13) (N := none) #[true, true, true, true, true, true, true, true, true, true, true, true, true, true] rfl rfl (by kernel_rfl) (by simp) (fun K hK => ?_)
            
            go_simp
            refine hK.out _ _ ?_
            clear hK K
            (try simp only [Act.put, List.setIfInBounds_toArray, List.set_cons_zero, List.set_cons_succ])
            refine done_ (by kernel_rfl) ?_
            obtain ⟨W3, hW3⟩ : ∃ W3, W3 = ((W2.setCell ⟨b6, 3, none⟩ (.int .i64 (min m.f3 y.f3))).setCell ⟨b6, 4, none⟩ (.int .i64 (max m.f4 y.f4))).drew := ⟨_, rfl⟩
            go_upto_region 9 with fail
            (try simp only [i64_w])
            rw [← hW3]
            replace hk6 : W3.heap[b6]? = some (.cells #[.int .i64 (m.f0), .int .i64 (min m.f1 y.f1), .int .i64 (max m.f2 y.f2), .int .i64 (min m.f3 y.f3), .int .i64 (max m.f4 y.f4), .int .i64 (m.f5), .int .i64 (m.f6), .int .i64 (m.f7)] 40 (0, 0)) := by
              have h := blk_drew (blk_put (blk_put hk6 3 (.int .i64 (min m.f3 y.f3)) rfl) 4 (.int .i64 (max m.f4 y.f4)) rfl)
              rw [← hW3] at h
              simpa [cells8] using h
            have hfar : ∀ k, k ≠ b6 → W3.heap[k]? = W2.heap[k]? := fun k hk => by rw [hW3]; exact (Below.heap_setCell _ _ _ _ hk).trans (Below.heap_setCell _ _ _ _ hk)
            replace hk8 := (hfar _ hne).trans hk8
            replace HW4 := Aside0.mk ((hfar _ (Nat.ne_of_lt HLE.out)).trans HW4.out)
            replace HBW : Aside0 (Below b4 w W3) := ⟨HBW.out.trans ⟨by rw [hW3]; rfl, by rw [hW3]; rfl, by rw [hW3]; rfl, by rw [hW3]; simp [World.drew], fun k hk => hfar k (by have := HLE.out; omega)⟩⟩
            clear hfar hW3 x6 x8 z6 z8 fz1 fz2 f1 f2 f3
            have x6 := blk_cell hk6 5
            have x8 := blk_cell hk8 5
            have z6 := blk_cell hk6 6
            have z8 := blk_cell hk8 6
            simp [cells8] at x6 x8 z6 z8
            have fz1 := blk_frozen hk6 5
            have fz2 := blk_frozen hk6 6
            have f1 := (cell_far W3 b6 b8 5 5 (.int .i64 (min (wrap64 (m.f5 + y.f5)) 1099511627776)) hne).trans x8
            have f2 := blk_cell (blk_put hk6 5 (.int .i64 (min (wrap64 (m.f5 + y.f5)) 1099511627776)) rfl) 6
            simp [cells8] at f2
            have f3 := (cell_far W3 b6 b8 5 6 (.int .i64 (min (wrap64 (m.f5 + y.f5)) 1099511627776)) hne).trans z8
            refine start_ (S := fun W => W.cell? ⟨b8, 5, none⟩ = some (.int .i64 y.f5) ∧ W.cell? ⟨b6, 6, none⟩ = some (.int .i64 (m.f6)) ∧ W.cell? ⟨b8, 6, none⟩ = some (.int .i64 y.f6)) (ds := [15]) #[false, false, false, false, false, false, false, false, false, false, false, false, false, false, false, false] (by kernel_rfl) rfl rfl ⟨x8, z6, z8⟩ (fun hHeld => ?_)
            refine take_ (i := 0) (N := (some 53)) #[true, false, false, false, false, false, false, false, false, false, false, false, false, false, false, false] rfl rfl (by kernel_rfl) (fun _ _ _ h => h) (.inl ⟨by rfl, by (intro w hSw; (try dsimp only at hSw); go_simp <;> with_reducible rfl)⟩) hHeld rfl ?_
            (try simp only [Act.put, List.setIfInBounds_toArray, List.set_cons_zero, List.set_cons_succ])
            refine take_ (i := 2) (N := (some 55)) #[true, false, true, false, false, false, false, false, false, false, false, false, false, false, false, false] rfl rfl (by kernel_rfl) (fun _ _ _ h => h) (.inl ⟨by rfl, by (intro w hSw; (try dsimp only at hSw); go_simp <;> with_reducible rfl)⟩) hHeld rfl ?_
            (try simp only [Act.put, List.setIfInBounds_toArray, List.set_cons_zero, List.set_cons_succ])
            refine take_ (i := 3) (N := (some 56)) #[true, false, true, true, false, false, false, false, false, false, false, false, false, false, false, false] rfl rfl (by kernel_rfl) (fun _ _ _ h => h) (.inl ⟨by rfl, by (intro w hSw; (try dsimp only at hSw); go_simp <;> with_reducible rfl)⟩) hHeld rfl ?_
            (try simp only [Act.put, List.setIfInBounds_toArray, List.set_cons_zero, List.set_cons_succ])
            refine take_ (i := 6) (N := (some 59)) #[true, false, true, true, false, false, true, false, false, false, false, false, false, false, false, false] rfl rfl (by kernel_rfl) (fun _ _ _ h => h) (.inl ⟨by rfl, by (intro w hSw; (try dsimp only at hSw); go_simp <;> with_reducible rfl)⟩) hHeld rfl ?_
            (try simp only [Act.put, List.setIfInBounds_toArray, List.set_cons_zero, List.set_cons_succ])
            refine take_ (i := 7) (N := (some 60)) #[true, false, true, true, false, false, true, true, false, false, false, false, false, false, false, false] rfl rfl (by kernel_rfl) (fun _ _ _ h => h) (.inl ⟨by rfl, by (intro w hSw; (try dsimp only at hSw); go_simp <;> with_reducible rfl)⟩) hHeld rfl ?_
            (try simp only [Act.put, List.setIfInBounds_toArray, List.set_cons_zero, List.set_cons_succ])
            refine take_ (i := 8) (N := (some 61)) #[true, false, true, true, false, false, true, true, true, false, false, false, false, false, false, false] rfl rfl (by kernel_rfl) (fun _ _ _ h => h) (.inl ⟨by rfl, by (intro w hSw; (try dsimp only at hSw); go_simp <;> with_reducible rfl)⟩) hHeld rfl ?_
            (try simp only [Act.put, List.setIfInBounds_toArray, List.set_cons_zero, List.set_cons_succ])
            refine take_ (i := 9) (N := (some 62)) #[true, false, true, true, false, false, true, true, true, true, false, false, false, false, false, false] rfl rfl (by kernel_rfl) (fun _ _ _ h => h) (.inl ⟨by rfl, by (intro w hSw; (try dsimp only at hSw); go_simp <;> with_reducible rfl)⟩) hHeld rfl ?_
            (try simp only [Act.put, List.setIfInBounds_toArray, List.set_cons_zero, List.set_cons_succ])
            refine take_ (i := 10) (N := (some 63)) #[true, false, true, true, false, false, true, true, true, true, true, false, false, false, false, false] rfl rfl (by kernel_rfl) (fun _ _ _ h => h) (.inl ⟨by rfl, by (intro w hSw; (try dsimp only at hSw); go_simp <;> with_reducible rfl)⟩) hHeld rfl ?_
            (try simp only [Act.put, List.setIfInBounds_toArray, List.set_cons_zero, List.set_cons_succ])
            refine take_ (i := 11) (N := (some 64)) #[true, false, true, true, false, false, true, true, true, true, true, true, false, false, false, false] rfl rfl (by kernel_rfl) (fun _ _ _ h => h) (.inl ⟨by rfl, by (intro w hSw; (try dsimp only at hSw); go_simp <;> with_reducible rfl)⟩) hHeld rfl ?_
            (try simp only [Act.put, List.setIfInBounds_toArray, List.set_cons_zero, List.set_cons_succ])
            refine one_ (i := 1) (N := (some 54)) #[true, true, true, true, false, false, true, true, true, true, true, true, false, false, false, false] rfl rfl (by kernel_rfl) (by simp) (fun K hK => ?_)
            go_simp
            
            refine hK.out _ _ hHeld (fun hHeld => ?_)
            clear hK K
            (try simp only [Act.put, List.setIfInBounds_toArray, List.set_cons_zero, List.set_cons_succ])
            refine take_ (i := 4) (N := (some 57)) #[true, true, true, true, true, false, true, true, true, true, true, true, false, false, false, false] rfl rfl (by kernel_rfl) (fun _ _ _ h => h) (.inl ⟨by rfl, by (intro w hSw; (try dsimp only at hSw); go_simp <;> with_reducible rfl)⟩) hHeld rfl ?_
            (try simp only [Act.put, List.setIfInBounds_toArray, List.set_cons_zero, List.set_cons_succ])
            refine take_ (i := 5) (N := (some 58)) #[true, true, true, true, true, true, true, true, true, true, true, true, false, false, false, false] rfl rfl (by kernel_rfl) (fun _ _ _ h => h) (.inl ⟨by rfl, by (intro w hSw; (try dsimp only at hSw); go_simp <;> with_reducible rfl)⟩) hHeld rfl ?_
            (try simp only [Act.put, List.setIfInBounds_toArray, List.set_cons_zero, List.set_cons_succ])
            refine take_ (i := 12) (N := (some 65)) #[true, true, true, true, true, true, true, true, true, true, true, true, true, false, false, false] rfl rfl (by kernel_rfl) (fun _ _ _ h => h) (.inl ⟨by rfl, by (intro w hSw; (try dsimp only at hSw); go_simp <;> with_reducible rfl)⟩) hHeld rfl ?_
            (try simp only [Act.put, List.setIfInBounds_toArray, List.set_cons_zero, List.set_cons_succ])
            refine one_ (i := 13) (N := none) #[true, true, true, true, true, true, true, true, true, true, true, true, true, true, false, false] rfl rfl (by kernel_rfl) (by simp) (fun K hK => ?_)
            go_simp
            (try simp only [i64_w])
            refine hK.out _ _ ⟨f1, f2, f3⟩ (fun hHeld => ?_)
            clear hK K
            (try simp only [Act.put, List.setIfInBounds_toArray, List.set_cons_zero, List.set_cons_succ])
            refine take_ (i := 14) (N := (some 66)) #[true, true, true, true, true, true, true, true, true, true, true, true, true, true, true, false] rfl rfl (by kernel_rfl) (fun _ _ _ h => h) (.inl ⟨by rfl, by (intro w hSw; (try dsimp only at hSw); go_simp <;> with_reducible rfl)⟩) hHeld rfl ?_
            (try simp only [Act.put, List.setIfInBounds_toArray, List.set_cons_zero, List.set_cons_succ])
            refine last_ (i := 15) (N := none) #[true, true, true, true, true, true, true, true, true, true, true, true, true, true, true, true] rfl rfl (by kernel_rfl) (by simp) (fun K hK => ?_)
            
            go_simp
            refine hK.out _ _ ?_
            clear hK K
            (try simp only [Act.put, List.setIfInBounds_toArray, List.set_cons_zero, List.set_cons_succ])
            refine done_ (by kernel_rfl) ?_
            obtain ⟨W4, hW4⟩ : ∃ W4, W4 = ((W3.setCell ⟨b6, 5, none⟩ (.int .i64 (min (wrap64 (m.f5 + y.f5)) 1099511627776))).setCell ⟨b6, 6, none⟩ (.int .i64 (min (wrap64 (m.f6 + y.f6)) 1099511627776))).drew := ⟨_, rfl⟩
            go_upto_region 10 with fail
            (try simp only [i64_w])
            rw [← hW4]
            replace hk6 : W4.heap[b6]? = some (.cells #[.int .i64 (m.f0), .int .i64 (min m.f1 y.f1), .int .i64 (max m.f2 y.f2), .int .i64 (min m.f3 y.f3), .int .i64 (max m.f4 y.f4), .int .i64 (min (wrap64 (m.f5 + y.f5)) 1099511627776), .int .i64 (min (wrap64 (m.f6 + y.f6)) 1099511627776), .int .i64 (m.f7)] 40 (0, 0)) := by
              have h := blk_drew (blk_put (blk_put hk6 5 (.int .i64 (min (wrap64 (m.f5 + y.f5)) 1099511627776)) rfl) 6 (.int .i64 (min (wrap64 (m.f6 + y.f6)) 1099511627776)) rfl)
              rw [← hW4] at h
              simpa [cells8] using h
            have hfar : ∀ k, k ≠ b6 → W4.heap[k]? = W3.heap[k]? := fun k hk => by rw [hW4]; exact (Below.heap_setCell _ _ _ _ hk).trans (Below.heap_setCell _ _ _ _ hk)
            replace hk8 := (hfar _ hne).trans hk8
            replace HW4 := Aside0.mk ((hfar _ (Nat.ne_of_lt HLE.out)).trans HW4.out)
            replace HBW : Aside0 (Below b4 w W4) := ⟨HBW.out.trans ⟨by rw [hW4]; rfl, by rw [hW4]; rfl, by rw [hW4]; rfl, by rw [hW4]; simp [World.drew], fun k hk => hfar k (by have := HLE.out; omega)⟩⟩
            clear hfar hW4 x6 x8 z6 z8 fz1 fz2 f1 f2 f3
            have x6 := blk_cell hk6 7
            have x8 := blk_cell hk8 7
            simp [cells8] at x6 x8
            have fz1 := blk_frozen hk6 7
            have hk6' : (W4.setCell ⟨b6, 7, none⟩ (.int .i64 (max m.f7 y.f7))).heap[b6]? = some (.cells (cells8 (stepJ m y)).toArray 40 (0, 0)) := by
              have h := blk_put hk6 7 (.int .i64 (max m.f7 y.f7)) rfl
              simpa [cells8, stepJ] using h
            have HK6' := Aside0.mk hk6'
            have HB4' : Aside0 (Below b4 w (W4.setCell ⟨b6, 7, none⟩ (.int .i64 (max m.f7 y.f7)))) := ⟨HBW.out.trans ⟨rfl, rfl, rfl, by simp, fun k hk => Below.heap_setCell _ _ _ _ (by have := HLE.out; show k ≠ b6; omega)⟩⟩
            have HW4' := Aside0.mk ((Below.heap_setCell W4 ⟨b6, 7, none⟩ (.int .i64 (max m.f7 y.f7)) b4 (Nat.ne_of_lt HLE.out)).trans HW4.out)
            clear hk6 hk6' hk8
            go_wp2
            go_roundg (gk - 1)
            case measure => have h1 := HG.out; omega
            case rel => exact ⟨j + 1, by go_num, ⟨by have h1 := HG.out; omega⟩, HB4', ⟨by rw [HTK.out]; exact HK6'.out⟩, HW4'⟩
          · have hje : j = nt := by have := HG.out; omega
            have HK6E : Aside0 (wr.heap[b6]? = some (.cells (cells8 (r.foldl stepJ x)).toArray 40 (0, 0))) := ⟨by have h := HK6.out; rw [hje, List.take_of_length_le (by have := HT.out.2; omega)] at h; exact h⟩
            clear hje HK6 HT
            obtain ⟨m, hm⟩ : ∃ m, m = r.foldl stepJ x := ⟨_, rfl⟩
            rw [← hm] at HJ HK6E
            clear hm
            have hk6 := HK6E.out
            have z0 := blk_cell hk6 7
            have z1 := blk_cell hk6 0
            simp [cells8] at z0 z1
            have fz0 := blk_frozen hk6 0
            have fz7 := blk_frozen hk6 7
            clear hn0b hn0i c0 c1 c2 c3 c4 c5 cc6 c7
            go_upto_region 14 with fail
            obtain ⟨W5, hW5⟩ : ∃ W5, W5 = ((wr.setCell ⟨b6, 7, none⟩ (.int .i64 (wrap64 (m.f7 + 1)))).setCell ⟨b6, 0, none⟩ (.int .i64 id)) := ⟨_, rfl⟩
            rw [← hW5]
            have HK5 : Aside0 (W5.heap[b6]? = some (.cells (cells8 (lastJ m id)).toArray 40 (0, 0))) := ⟨by
              have h := blk_put (blk_put hk6 7 (.int .i64 (wrap64 (m.f7 + 1))) rfl) 0 (.int .i64 id) rfl
              rw [← hW5] at h
              simpa [cells8, lastJ] using h⟩
            have hfar : ∀ k, k ≠ b6 → W5.heap[k]? = wr.heap[k]? := fun k hk => by rw [hW5]; exact (Below.heap_setCell _ _ _ _ hk).trans (Below.heap_setCell _ _ _ _ hk)
            have HW5 := Aside0.mk ((hfar _ (Nat.ne_of_lt HLE.out)).trans HKJ.out)
            have HB5 : Aside0 (Below b4 w W5) := ⟨HBJ.out.trans ⟨by rw [hW5]; rfl, by rw [hW5]; rfl, by rw [hW5]; rfl, by rw [hW5]; simp, fun k hk => hfar k (by have := HLE.out; omega)⟩⟩
            clear hfar hW5 hk6 z0 z1 fz0 fz7
            go_upto_region 15 with (first | ((with_reducible refine gate_store (t := 40) (p := 9) rfl ?_); refine put8 z40 rfl rfl rfl rfl rfl (blk_new _ _) rfl ?_; intro w9 hk9 hf9 hb9 hs9; have HK9 := Aside0.mk hk9; have HF9 := Aside0.mk hf9; have HB9 := Aside0.mk (hb9 b4 w (by have := blk_lt HK5.out; have := HLE.out; omega) (below_alloc' HB5.out (by have := blk_lt HK5.out; have := HLE.out; omega) _)); clear hk9 hf9 hb9 hs9))
            have hk9 := HK9.out
            have hk5 := (HF9.out b6 (Nat.ne_of_lt (blk_lt HK5.out))).trans (blk_alloc HK5.out _)
            have HK4 := Aside0.mk ((HF9.out b4 (Nat.ne_of_lt (blk_lt HW5.out))).trans (blk_alloc HW5.out _))
            obtain ⟨b9, hb9⟩ : ∃ b9, b9 = W5.heap.size := ⟨_, rfl⟩
            rw [← hb9] at hk9 ⊢
            clear hb9 HF9
            obtain ⟨q, hq⟩ : ∃ q, q = lastJ m id := ⟨_, rfl⟩
            rw [← hq] at hk5 HJ
            have hcal := right_calls q w9
            unfold ag at hcal
            have d0 := blk_cell hk5 0
            have d1 := blk_cell hk5 1
            have d2 := blk_cell hk5 2
            have d3 := blk_cell hk5 3
            have d4 := blk_cell hk5 4
            have d5 := blk_cell hk5 5
            have d6 := blk_cell hk5 6
            have d7 := blk_cell hk5 7
            simp [cells8] at d0 d1 d2 d3 d4 d5 d6 d7
            have e0 := blk_cell hk9 0
            have e1 := blk_cell hk9 1
            have e2 := blk_cell hk9 2
            have e3 := blk_cell hk9 3
            have e4 := blk_cell hk9 4
            have e5 := blk_cell hk9 5
            have e6 := blk_cell hk9 6
            have e7 := blk_cell hk9 7
            simp [cells8, z40] at e0 e1 e2 e3 e4 e5 e6 e7
            have HK9' := Aside0.mk hk9
            have HK5' := Aside0.mk hk5
            clear hk9 hk5 hq HK9 HK5
            by_cases hR : rightB q = true
            · have hJ1 : Aside0 (joinB (x :: r) id = (q, true)) := ⟨by rw [HJ.out, if_pos hR]⟩
              have hne : (q.f0 == 0) = false := by have h := right_wf hR; exact beq_eq_false_iff_ne.mpr (by omega)
              rw [hR] at hcal
              clear hR HJ
              go_wp2_with fail
              refine hcal.mono ?_
              rintro e w10 ⟨rfl, hb10⟩
              have HK4X := Aside0.mk (blk_below HK4.out hb10)
              have hk6 := blk_below HK5'.out hb10
              have HBX := Aside0.mk (below_step' HB9.out hb10 (by have := blk_lt HK4.out; omega))
              clear hcal hb10 d0 d1 d2 d3 d4 d5 d6 d7 e0 e1 e2 e3 e4 e5 e6 e7
              have d0 := blk_cell hk6 0
              have d1 := blk_cell hk6 1
              have d2 := blk_cell hk6 2
              have d3 := blk_cell hk6 3
              have d4 := blk_cell hk6 4
              have d5 := blk_cell hk6 5
              have d6 := blk_cell hk6 6
              have d7 := blk_cell hk6 7
              simp [cells8] at d0 d1 d2 d3 d4 d5 d6 d7
              clear hk6
              go_wp2_with (first | ((with_reducible refine gate_store (t := 40) (p := 4) rfl ?_); refine put8 q rfl rfl rfl rfl rfl HK4X.out rfl ?_; intro w3 hk3 hf3 hb3 hs3; have HK3' := Aside0.mk hk3; have HB3' := Aside0.mk (hb3 _ _ (Nat.le_refl _) HBX.out); clear hk3 hf3 hb3 hs3))
              refine bodyPost_ret (results_ct rfl _ _ b4 40 (cells8 q).toArray (0, 0) _ rfl HK3'.out Try.underlying40 rfl (by kernel_rfl)) rfl ?_
              exact ⟨by rw [hJ1.out]; rfl, by rw [← HE4.out]; exact HB3'.out⟩
            · have hJ1 : Aside0 (joinB (x :: r) id = (z40, false)) := ⟨by rw [HJ.out, if_neg hR]⟩
              have hRf : rightB q = false := by simpa using hR
              rw [hRf] at hcal
              clear hR hRf HJ
              obtain ⟨B, hB⟩ : ∃ B, (q.f0 == 0 && (q.f1 == 0 && (q.f2 == 0 && (q.f3 == 0 && (q.f4 == 0 && (q.f5 == 0 && (q.f6 == 0 && q.f7 == 0))))))) = B := ⟨_, rfl⟩
              cases B with
              | true =>
                go_wp2_with (first | ((with_reducible refine gate_store (t := 40) (p := 4) rfl ?_); refine put8 z40 rfl rfl rfl rfl rfl HK4.out rfl ?_; intro w3 hk3 hf3 hb3 hs3; have HK3' := Aside0.mk hk3; have HB3' := Aside0.mk (hb3 _ _ (Nat.le_refl _) HB9.out); clear hk3 hf3 hb3 hs3))
                refine bodyPost_ret (results_ct rfl _ _ b4 40 (cells8 z40).toArray (0, 0) _ rfl HK3'.out Try.underlying40 rfl (by kernel_rfl)) rfl ?_
                exact ⟨by rw [hJ1.out]; rfl, by rw [← HE4.out]; exact HB3'.out⟩
              | false =>
                go_wp2_with fail
                refine hcal.mono ?_
                rintro e w10 ⟨rfl, hb10⟩
                have HK4X := Aside0.mk (blk_below HK4.out hb10)
                have hk6 := blk_below HK9'.out hb10
                have HBX := Aside0.mk (below_step' HB9.out hb10 (by have := blk_lt HK4.out; omega))
                clear hcal hb10 d0 d1 d2 d3 d4 d5 d6 d7 e0 e1 e2 e3 e4 e5 e6 e7
                have d0 := blk_cell hk6 0
                have d1 := blk_cell hk6 1
                have d2 := blk_cell hk6 2
                have d3 := blk_cell hk6 3
                have d4 := blk_cell hk6 4
                have d5 := blk_cell hk6 5
                have d6 := blk_cell hk6 6
                have d7 := blk_cell hk6 7
                simp [cells8, z40] at d0 d1 d2 d3 d4 d5 d6 d7
                clear hk6
                go_wp2_with (first | ((with_reducible refine gate_store (t := 40) (p := 4) rfl ?_); refine put8 z40 rfl rfl rfl rfl rfl HK4X.out rfl ?_; intro w3 hk3 hf3 hb3 hs3; have HK3' := Aside0.mk hk3; have HB3' := Aside0.mk (hb3 _ _ (Nat.le_refl _) HBX.out); clear hk3 hf3 hb3 hs3))
                refine bodyPost_ret (results_ct rfl _ _ b4 40 (cells8 z40).toArray (0, 0) _ rfl HK3'.out Try.underlying40 rfl (by kernel_rfl)) rfl ?_
                exact ⟨by rw [hJ1.out]; rfl, by rw [← HE4.out]; exact HB3'.out⟩
    · have hff : fineB (x :: r) = false := by simpa using hfin
      have HJ : Aside0 (joinB (x :: r) id = (z40, false)) := ⟨by unfold joinB; simp only []; rw [if_neg hfin]⟩
      rw [hff] at hf
      obtain ⟨n, hn⟩ : ∃ n, n = (x :: r).length := ⟨_, rfl⟩
      rw [← hn] at hf ⊢
      have hn0 : ((n : Int) == 0) = false := beq_eq_false_iff_ne.mpr (by rw [hn, List.length_cons]; omega)
      clear hC hb1 k4 hn hff hfin hc hl
      go_enter Try.func20, Try.ntmps20
      go_upto_region 1 with fail
      rw [← hw1]
      clear hw1
      go_wp2_with fail
      refine hf.mono ?_
      rintro e w2 ⟨rfl, hb2⟩
      have HB2 := Aside0.mk (below_step HB1.out hb2)
      have HK2 := Aside0.mk (blk_below HK4.out hb2)
      clear hf hb2
      go_wp2_with (first | ((with_reducible refine gate_store (t := 40) (p := 4) rfl ?_); refine put8 z40 rfl rfl rfl rfl rfl HK2.out rfl ?_; intro w3 hk3 hf3 hb3 hs3; have HK3 := Aside0.mk hk3; have HB3 := Aside0.mk (hb3 _ _ (Nat.le_refl _) HB2.out); clear hk3 hf3 hb3 hs3))
      refine bodyPost_ret (results_ct rfl _ _ w.heap.size 40 (cells8 z40).toArray (0, 0) _ rfl HK3.out Try.underlying40 rfl (by kernel_rfl)) rfl ?_
      exact ⟨by rw [HJ.out]; rfl, HB3.out⟩
end Go.Proofs.Ytdohacnjngkkiaa.Jo
