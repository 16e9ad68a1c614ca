/- The law PlannerJoins: what blocks make, walked. -/
import Derived.Test.YtdohacnjngkkiaaJo
import Derived.Test.YtdohacnjngkkiaaJp
import Derived.Test.YtdohacnjngkkiaaLk
namespace Go.Proofs.Ytdohacnjngkkiaa.Jn
set_option linter.unusedVariables false
set_option linter.unusedSimpArgs false
open Go.Proofs.Ytdohacnjngkkiaa.Jd Go.Proofs.Ytdohacnjngkkiaa.Jp Go.Proofs.Ytdohacnjngkkiaa.Jo Go.Proofs.Ytdohacnjngkkiaa.Lk Go.Proofs.Ytdohacnjngkkiaa.Kn Go.Proofs.Ytdohacnjngkkiaa.Rl Go.Proofs.Ytdohacnjngkkiaa.Sm Go.Proofs.Ytdohacnjngkkiaa.Bx Go.Proofs.Ytdohacnjngkkiaa.Pk Go.Proofs.Ytdohacnjngkkiaa.Pq Go.Shelf Go.RowKit Go.Proofs.YtdohacnjngkkiaaW.PrintWords Go.Proofs.YtdohacnjngkkiaaW.PrintLast Go.Proofs.YtdohacnjngkkiaaW.PrintMore Go.Proofs.Ytdohacnjngkkiaa.Fr Go.Proofs.Ytdohacnjngkkiaa.A Go.Proofs.Ytdohacnjngkkiaa.Pm Go.Proofs.Ytdohacnjngkkiaa.Pf Go.Proofs.Ytdohacnjngkkiaa.Pi Go.Proofs.Ytdohacnjngkkiaa.Pc Go.Proofs.Ytdohacnjngkkiaa.Pd
attribute [local go_sem high] eqA40
theorem k_range (k : Int) (n : Nat) (h : 0 < n) (hn : n ≤ 1048576) : ∃ j : Nat, j < n ∧ (wrap64 ((k.tmod (n : Int)) + (n : Int))).tmod (n : Int) = (j : Int) := by
  have h1 : (n : Int) ≠ 0 := by omega
  have h2 : k.tmod n < n := Int.tmod_lt_of_pos _ (by omega)
  have h3 : -(n : Int) < k.tmod n := by
    have := Int.lt_tmod_of_pos k (b := (n : Int)) (by omega)
    omega
  rw [Go.IntWalk.wrap64_in _ (by omega)]
  have h4 : 0 ≤ (k.tmod n + n).tmod (n : Int) := Int.tmod_nonneg _ (by omega)
  have h5 : (k.tmod n + n).tmod (n : Int) < n := Int.tmod_lt_of_pos _ (by omega)
  exact ⟨((k.tmod n + n).tmod (n : Int)).toNat, by omega, by omega⟩
theorem grown_far {w w1 : World} {row : Option Nat} {b : Nat} {o : Obj} (hg : w.grownBy w1 row) (h : w.heap[b]? = some o) (hne : some b ≠ row) : w1.heap[b]? = some o := (hg.block b (blk_lt h) hne).trans h
section
variable {ops : Array Oper} {o : Oper} {a : Act} {Q : Exit → Act → World → Prop} {W : World} {Kc : Act → World → Prop}
theorem put8_step {g : Nat} {cur : Array Value} (x : S40) (hw : Region.wanted o (yielded ops a.tmps) = true) (hN : o.dst = none) {p : Tmp} {v : Operand} (ho : o.op = .store 40 (.tmp p) v) (hp : a.eval (.tmp p) = .pointer (some ⟨g, 0, none⟩)) (hv : a.eval v = ag x)
    (hg : W.heap[g]? = some (.cells cur 40 (0, 0))) (hz : cur.size = 8)
    (h : ∀ w1, w1.heap[g]? = some (.cells (cells8 x).toArray 40 (0, 0)) → (∀ k, k ≠ g → w1.heap[k]? = W.heap[k]?) → (∀ B w0, B ≤ g → Below B w0 W → Below B w0 w1) → w1.heap.size = W.heap.size → Kc (a.put none undef) w1) :
    if Region.wanted o (yielded ops a.tmps) = true then Oper.wp Try.prog o a W Kc Q else Kc (a.put none undef) W := by
  rw [if_pos hw]
  have hrun := run_store_run (P := Try.prog) (w := W) (o := 0) 40 (ag x) (cells8 x) hg rfl info40s' (by rw [hz]; exact Nat.le_refl _) (seg_one x)
  unfold Oper.wp execOp
  simp only [ho, hp, hv, Sem.run_bind, Sem.run_pure, Result.andThen_ok, hrun]
  show Kc (a.put o.dst undef) _
  rw [hN]
  have hs := setCells_same g (cells8 x) 0 W
  refine h _ (put_cells hg hz x) (fun k hk => setCells_far _ 0 k hk) (fun B w0 hB hb => ?_) (by rw [hs.2.2.2])
  exact hb.trans ⟨hs.1, hs.2.1, hs.2.2.1, by rw [hs.2.2.2]; exact Nat.le_refl _, fun k hk => setCells_far _ 0 k (by omega)⟩
end
set_option maxHeartbeats 4000000 in
set_option maxRecDepth 100000 in
theorem joins_true (A : Option Addr) (c : Nat) (l : List S44) (id kk : Int) (w : World) (hC : k44.C w A l.length l) (hc : l.length ≤ c) (hl : l.length ≤ 1048576) :
    Calls Try.prog 7 #[.slice A l.length c, .int .i64 id, .int .i64 kk] w fun e w' => e = .returned (.bool true) ∧ Below w.heap.size w w' := by
  have hli := list_calls A c l w hC hc hl
  have HC := Aside0.mk hC
  have HCC := Aside0.mk hc
  have HXL : Aside0 ((l.map cv).length = l.length) := ⟨List.length_map ..⟩
  obtain ⟨xs, hxs⟩ : ∃ xs, xs = l.map cv := ⟨_, rfl⟩
  rw [← hxs] at hli HXL
  obtain ⟨n, hn⟩ : ∃ n, n = l.length := ⟨_, rfl⟩
  rw [← hn] at hli HXL hl ⊢
  have HL := Aside0.mk hl
  clear hC hc hn hxs
  go_enter Try.func7, Try.ntmps7
  go_wp2_with fail
  refine hli.mono ?_
  rintro e w1 ⟨v, rfl, hr1, hb1⟩
  obtain ⟨X, cx, rfl, hcx⟩ := OwnRow.slice_ hr1.2
  have HX := Aside0.mk (Kd.R_reads' hr1).2.2
  have HCX := Aside0.mk hcx
  have HB1 := Aside0.mk hb1
  clear hli hr1 hb1 hcx
  have hjo := joined_calls X cx xs id w1 HX.out HCX.out (by rw [HXL.out]; exact HL.out)
  rw [HXL.out] at hjo ⊢
  obtain ⟨q, hq⟩ : ∃ q, q = (joinB xs id).1 := ⟨_, rfl⟩
  obtain ⟨B, hB⟩ : ∃ B, B = (joinB xs id).2 := ⟨_, rfl⟩
  have HJ : Aside0 (joinB xs id = (q, B)) := ⟨by rw [hq, hB]⟩
  rw [← hq, ← hB] at hjo
  clear hq hB
  have HAG : Aside0 (ag q = .agg #[.int .i64 q.f0, .int .i64 q.f1, .int .i64 q.f2, .int .i64 q.f3, .int .i64 q.f4, .int .i64 q.f5, .int .i64 q.f6, .int .i64 q.f7]) := ⟨rfl⟩
  go_wp2_with fail
  refine hjo.mono ?_
  rintro e w2 ⟨rfl, hb2⟩
  have HB12 := Aside0.mk hb2
  have HB2 := Aside0.mk (below_step HB1.out hb2)
  clear hjo hb2
  go_upto_region 3 with (first | ((with_reducible refine gate_store (t := 40) (p := 8) rfl ?_); refine put8 q rfl rfl rfl rfl rfl (blk_new _ _) rfl ?_; intro w3 hk3 hf3 hb3 hs3; have HK3 := Aside0.mk hk3; have HB3 := Aside0.mk (hb3 _ _ HB2.out.size (below_alloc HB2.out _)); have HB13 := Aside0.mk (hb3 _ _ HB12.out.size (below_alloc HB12.out _)); have HS3 : Aside0 (w2.heap.size < w3.heap.size) := ⟨blk_lt hk3⟩; clear hk3 hf3 hb3 hs3))
  obtain ⟨b8, hb8⟩ : ∃ b8, b8 = w2.heap.size := ⟨_, rfl⟩
  rw [← hb8] at HK3 HS3 ⊢
  have HL8 : Aside0 (w1.heap.size ≤ b8 ∧ w.heap.size ≤ b8) := ⟨by rw [hb8]; exact ⟨HB12.out.size, HB2.out.size⟩⟩
  clear hb8
  cases B with
  | false =>
    have e8 := HK3.out
    have hqz : q = z40 := join_no HJ.out
    rw [hqz] at e8
    have d0 := blk_cell e8 0
    have d1 := blk_cell e8 1
    have d2 := blk_cell e8 2
    have d3 := blk_cell e8 3
    have d4 := blk_cell e8 4
    have d5 := blk_cell e8 5
    have d6 := blk_cell e8 6
    have d7 := blk_cell e8 7
    simp [cells8, z40] at d0 d1 d2 d3 d4 d5 d6 d7
    clear hqz e8
    have hkn := knows_true w3
    go_wp2_with fail
    refine hkn.mono ?_
    rintro e w4 ⟨rfl, hb4⟩
    have HB4 := Aside0.mk (below_step HB3.out hb4)
    clear hkn hb4
    go_wp2
    go_ret
    exact ⟨rfl, HB4.out⟩
  | true =>
    have HY := Aside0.mk (join_yes HJ.out)
    have hn0 : 0 < n := by
      have h1 := HXL.out
      have h2 := HY.out.1
      cases n with
      | zero => exact absurd (List.length_eq_zero_iff.1 h1) h2
      | succ m => omega
    have HN0 := Aside0.mk hn0
    have hn0b : ((n : Int) == 0) = false := beq_eq_false_iff_ne.mpr (by omega)
    have HRT : Aside0 (∀ x ∈ xs, rightB x = true) := ⟨(fine_iff.1 HY.out.2.1).1⟩
    go_wp2_with fail
    go_loopg [10, 11, 12] n (fun g s10 s11 s12 wx => ∃ j : Nat, s12 = .int .i64 (j : Int) ∧ s10 = .int .i64 (sumI ((xs.take j).map (·.f5))) ∧ s11 = .int .i64 (sumI ((xs.take j).map (·.f6))) ∧ Aside0 (j + g = n) ∧ Aside0 (Below w1.heap.size w1 wx) ∧ Aside0 (Below w.heap.size w wx) ∧ Aside0 (wx.heap[b8]? = some (.cells (cells8 q).toArray 40 (0, 0))))
    case atStart => exact ⟨0, rfl, rfl, rfl, ⟨Nat.zero_add _⟩, HB13, HB3, HK3⟩
    case round =>
      obtain ⟨j, rfl, rfl, rfl, HG, HB1J, HBJ, HKJ⟩ := hrel
      by_cases hj : (j : Int) < n
      · have hjl : j < xs.length := by have := HXL.out; omega
        obtain ⟨ad, hA2, c0, c1, c2, c3, c4, c5, c6, c7⟩ := el_at (Kd.C_below HX.out HB1J.out) j hjl
        subst hA2
        have HTK5 : Aside0 (sumI ((xs.take (j + 1)).map (·.f5)) = sumI ((xs.take j).map (·.f5)) + xs[j].f5) := ⟨by rw [List.take_succ_eq_append_getElem hjl, List.map_append]; exact sum_snoc _ _⟩
        have HTK6 : Aside0 (sumI ((xs.take (j + 1)).map (·.f6)) = sumI ((xs.take j).map (·.f6)) + xs[j].f6) := ⟨by rw [List.take_succ_eq_append_getElem hjl, List.map_append]; exact sum_snoc _ _⟩
        have hcov := HY.out.2.2.2.2.2.2 xs[j] (List.getElem_mem hjl)
        have hrj := right_wf (HRT.out xs[j] (List.getElem_mem hjl))
        have hs5 := sum_bd ((xs.take j).map (·.f5)) (fun v hv => by obtain ⟨z, hz, rfl⟩ := List.mem_map.1 hv; have := right_wf (HRT.out z (List.mem_of_mem_take hz)); omega)
        have hs6 := sum_bd ((xs.take j).map (·.f6)) (fun v hv => by obtain ⟨z, hz, rfl⟩ := List.mem_map.1 hv; have := right_wf (HRT.out z (List.mem_of_mem_take hz)); omega)
        have hlj : ((xs.take j).length : Int) ≤ 1048576 := by rw [List.length_take]; have := HXL.out; have := HL.out; omega
        rw [List.length_map] at hs5 hs6
        obtain ⟨y, hy⟩ : ∃ y, y = xs[j] := ⟨_, rfl⟩
        obtain ⟨a5, ha5⟩ : ∃ a5, a5 = sumI ((xs.take j).map (·.f5)) := ⟨_, rfl⟩
        obtain ⟨a6, ha6⟩ : ∃ a6, a6 = sumI ((xs.take j).map (·.f6)) := ⟨_, rfl⟩
        rw [← hy] at c0 c1 c2 c3 c4 c5 c6 c7 HTK5 HTK6 hcov hrj
        rw [← ha5] at hs5 HTK5 ⊢
        rw [← ha6] at hs6 HTK6 ⊢
        have e5 : wrap64 (a5 + y.f5) = a5 + y.f5 := Go.IntWalk.wrap64_in _ (by omega)
        have e6 : wrap64 (a6 + y.f6) = a6 + y.f6 := Go.IntWalk.wrap64_in _ (by omega)
        have t1 : decide (y.f1 < q.f1) = false := by simp; omega
        have t2 : decide (q.f2 < y.f2) = false := by simp; omega
        have t3 : decide (y.f3 < q.f3) = false := by simp; omega
        have t4 : decide (q.f4 < y.f4) = false := by simp; omega
        have t7 : decide (q.f7 ≤ y.f7) = false := by simp; omega
        have HE5 := Aside0.mk e5
        have HE6 := Aside0.mk e6
        clear hy ha5 ha6 hs5 hs6 hlj hcov hrj hjl e5 e6
        have e8 := HKJ.out
        have d0 := blk_cell e8 0
        have d1 := blk_cell e8 1
        have d2 := blk_cell e8 2
        have d3 := blk_cell e8 3
        have d4 := blk_cell e8 4
        have d5 := blk_cell e8 5
        have d6 := blk_cell e8 6
        have d7 := blk_cell e8 7
        simp [cells8] at d0 d1 d2 d3 d4 d5 d6 d7
        clear e8
        go_upto_region 12 with fail
        (try simp only [HE5.out, HE6.out])
        go_quiet (fail)
        go_wp2
        go_roundg (gk - 1)
        case measure => have h1 := HG.out; omega
        case rel => exact ⟨j + 1, by go_num, by rw [HTK5.out], by rw [HTK6.out], ⟨by have h1 := HG.out; omega⟩, ⟨pw_below_drewN HB1J.out _⟩, ⟨pw_below_drewN HBJ.out _⟩, HKJ⟩
      · have hje : j = n := by have := HG.out; omega
        have e5 : sumI ((xs.take j).map (·.f5)) = q.f5 := by rw [hje, List.take_of_length_le (by rw [HXL.out]; exact Nat.le_refl _)]; exact HY.out.2.2.2.2.1.symm
        have e6 : sumI ((xs.take j).map (·.f6)) = q.f6 := by rw [hje, List.take_of_length_le (by rw [HXL.out]; exact Nat.le_refl _)]; exact HY.out.2.2.2.2.2.1.symm
        rw [e5, e6]
        clear e5 e6 hje
        obtain ⟨kn, hkn, hkk⟩ := k_range kk n HN0.out HL.out
        go_upto_region 15 with fail
        clear hkk
        obtain ⟨adx, hAX⟩ : ∃ adx, X = some adx := by
          have h := HX.out
          obtain ⟨h1, h2, h3⟩ := h
          obtain ⟨adx, e, _⟩ := h3 (by rw [HXL.out]; exact HN0.out)
          exact ⟨adx, e⟩
        subst hAX
        have HC1 : Aside0 (k40.C w1 (some adx) kn (xs.take kn) ∧ k40.C w1 (some (adx.add (kn * 8))) (n - kn) (xs.drop kn)) := ⟨by
          have h0 := HX.out
          have hcc : ¬ cx = kn := by have := HCX.out; have := HXL.out; omega
          have h1 := Kd.C_drop h0 (m := kn) (c := cx) (by have := HXL.out; omega) HCX.out
          have h2 := Kd.C_take h0 (m := kn) (by have := HXL.out; omega)
          have e1 : (xs.drop kn).length = n - kn := by rw [List.length_drop, HXL.out]
          have e2 : (xs.take kn).length = kn := by rw [List.length_take, HXL.out]; omega
          rw [if_neg hcc, e1] at h1
          rw [e2] at h2
          exact ⟨h2, h1⟩⟩
        have p1 : (0 : Int) ≤ kn := by omega
        have p2 : (kn : Int) ≤ n := by omega
        have p3 : (n : Int) ≤ cx := by have := HCX.out; have := HXL.out; omega
        have p4 : (kn : Int) ≤ cx := by omega
        have p5 : ¬ cx = kn := by omega
        have HP : Aside0 ((xs.drop kn ++ xs.take kn).Perm xs) := ⟨(List.perm_append_comm).trans (by rw [List.take_append_drop])⟩
        have hl8 : b8 < wr.heap.size := blk_lt HKJ.out
        have HL8' := Aside0.mk hl8
        have HKN := Aside0.mk hkn
        have HPL : Aside0 ((xs.drop kn ++ xs.take kn).length = n) := ⟨by rw [HP.out.length_eq, HXL.out]⟩
        have HPJ : Aside0 (joinB (xs.drop kn ++ xs.take kn) id = (q, true)) := ⟨by rw [join_perm HP.out id HY.out.2.1 HY.out.1]; exact HJ.out⟩
        clear hkn hl8
        obtain ⟨wr', hwr⟩ : ∃ wr', wr' = wr := ⟨_, rfl⟩
        rw [← hwr] at HL8' HKJ HBJ HB1J ⊢
        clear hwr
        refine start_ (S := fun _ => True) (ds := [15]) #[false, false, false, false, false, false, false, false, false, false, false, false, false, false, false, false, false] (by kernel_rfl) rfl rfl trivial (fun hHeld => ?_)
        have HB0 : Aside0 (Below wr'.heap.size wr' wr'.drew) := ⟨below_drew (Below.refl _ _)⟩
        refine take_ (i := 1) (N := some 116) #[false, true, false, false, false, false, false, false, false, false, false, false, false, false, false, false, false] rfl rfl (by kernel_rfl) (fun _ _ _ h => h) (.inl ⟨by rfl, by (intro w hSw; (try dsimp only at hSw); go_simp <;> with_reducible rfl)⟩) hHeld rfl ?_
        (try simp only [Act.put, List.setIfInBounds_toArray, List.set_cons_zero, List.set_cons_succ])
        refine take_ (i := 2) (N := some 117) #[false, true, true, false, false, false, false, false, false, false, false, false, false, false, false, false, false] rfl rfl (by kernel_rfl) (fun _ _ _ h => h) (.inl ⟨by rfl, by (intro w hSw; (try dsimp only at hSw); go_simp <;> with_reducible rfl)⟩) hHeld rfl ?_
        (try simp only [Act.put, List.setIfInBounds_toArray, List.set_cons_zero, List.set_cons_succ])
        refine take_ (i := 3) (N := some 118) #[false, true, true, true, false, false, false, false, false, false, false, false, false, false, false, false, false] rfl rfl (by kernel_rfl) (fun _ _ _ h => h) (.inl ⟨by rfl, by (intro w hSw; (try dsimp only at hSw); go_simp <;> with_reducible rfl)⟩) hHeld rfl ?_
        (try simp only [Act.put, List.setIfInBounds_toArray, List.set_cons_zero, List.set_cons_succ])
        refine take_ (i := 5) (N := some 120) #[false, true, true, true, false, true, false, false, false, false, false, false, false, false, false, false, false] rfl rfl (by kernel_rfl) (fun _ _ _ h => h) (.inl ⟨by rfl, by (intro w hSw; (try dsimp only at hSw); go_simp <;> with_reducible rfl)⟩) hHeld rfl ?_
        (try simp only [Act.put, List.setIfInBounds_toArray, List.set_cons_zero, List.set_cons_succ])
        refine take_ (i := 6) (N := some 121) #[false, true, true, true, false, true, true, false, false, false, false, false, false, false, false, false, false] rfl rfl (by kernel_rfl) (fun _ _ _ h => h) (.inl ⟨by rfl, by (intro w hSw; (try dsimp only at hSw); go_simp <;> with_reducible rfl)⟩) hHeld rfl ?_
        (try simp only [Act.put, List.setIfInBounds_toArray, List.set_cons_zero, List.set_cons_succ])
        refine take_ (i := 7) (N := some 122) #[false, true, true, true, false, true, true, true, false, false, false, false, false, false, false, false, false] rfl rfl (by kernel_rfl) (fun _ _ _ h => h) (.inl ⟨by rfl, by (intro w hSw; (try dsimp only at hSw); go_simp <;> with_reducible rfl)⟩) hHeld rfl ?_
        (try simp only [Act.put, List.setIfInBounds_toArray, List.set_cons_zero, List.set_cons_succ])
        refine take_ (i := 9) (N := some 124) #[false, true, true, true, false, true, true, true, false, true, false, false, false, false, false, false, false] rfl rfl (by kernel_rfl) (fun _ _ _ h => h) (.inl ⟨by rfl, by (intro w hSw; (try dsimp only at hSw); go_simp <;> with_reducible rfl)⟩) hHeld rfl ?_
        (try simp only [Act.put, List.setIfInBounds_toArray, List.set_cons_zero, List.set_cons_succ])
        refine join_ (σ := Nat × Value × Value × Value) 2 #[true, true, true, true, true, true, true, true, true, true, true, true, true, true, true, false, false] (fun s => [(13, .pointer (some ⟨s.1, 0, none⟩)), (115, s.2.1), (119, s.2.2.1), (123, s.2.2.2), (125, .tuple #[ag q, .bool true]), (114, .tuple #[ag q, .bool true]), (126, ag q), (127, .bool true)]) (fun s w' => Below wr'.heap.size wr' w' ∧ wr'.heap.size ≤ s.1 ∧ w'.heap[s.1]? = some (.cells (cells8 z40).toArray 40 (0, 0))) ?_ ?_
        rotate_left
        · intro hT
          refine two_ (i := 0) (j := 14) (Ni := some 115) (Nj := some 13) #[true, true, true, true, false, true, true, true, false, true, false, false, false, false, false, false, false] #[false, true, true, true, false, true, true, true, false, true, false, false, false, false, true, false, false] rfl rfl rfl rfl (by kernel_rfl) (by simp) (by simp) (fun K hK => ?_) (fun K hK => ?_)
          · skip
            refine Kd.R_lit_step k40 (w0 := wr') wr'.heap.size 40 ?hw_1 (N := 115) ?hN_1 (xs := ([] : List S40)) (inner := []) (ok := (fun _ => True)) (okp := fun _ => False) ?hr_1 (Reps.none _ _) (fun _ hk => hk.elim) trivial HB0.out HB0.out.size (by simp) ?_
            (case hw_1 => rfl)
            (case hN_1 => rfl)
            (case hr_1 => first | (go_simp; done) | (go_simp; rfl))
            intro v5 w2 ho hb hg hat
            have HR4 := Aside0.mk ho
            have HB3 := Aside0.mk hb
            clear ho hb hg hat
            refine hK.out _ _ trivial (fun hHeld => ?_)
            clear hK K
            refine norm_ (a' := ?_) ?_ ?_
            rotate_left
            · show Act.put _ (some 115) _ = _
              simp only [Act.put, List.setIfInBounds_toArray, List.set_cons_zero, List.set_cons_succ]
              rfl
            refine two_ (i := 4) (j := 14) (Ni := some 119) (Nj := some 13) #[true, true, true, true, true, true, true, true, false, true, false, false, false, false, false, false, false] #[true, true, true, true, false, true, true, true, false, true, false, false, false, false, true, false, false] rfl rfl rfl rfl (by kernel_rfl) (by simp) (by simp) (fun K hK => ?_) (fun K hK => ?_)
            · skip
              refine Kd.R_append_rows_step k40 (w0 := wr') wr'.heap.size ?hw_6 (.tmp 115) (.tmp 118) 23 40 (.agg #[.int .i64 0, .int .i64 0, .int .i64 0, .int .i64 0, .int .i64 0, .int .i64 0, .int .i64 0, .int .i64 0]) 64 ?ho_6 Try.underlying23 Pc.info40 ?hz_6 (by decide) (by omega) v5 [] (xs.drop kn) (some (adx.add (kn * 8))) (n - kn) (cx - kn) (fun _ => True) (fun _ => False) ?hs_6 ?hx_6 HR4.out (Kd.C_below (HC1.out.2) (below_then HB1J.out HB1J.out.size HB3.out)) (fun _ _ h => h) (fun _ h => h.elim) (fun _ _ => trivial) HB3.out HB3.out.size ?hl_6 ?_
              (case hw_6 => rfl)
              (case ho_6 => rfl)
              (case hz_6 => rfl)
              (case hs_6 => rfl)
              (case hx_6 => rfl)
              (case hl_6 => simp only [List.length_drop, List.length_nil]; have := HXL.out; have := HL.out; have := HKN.out; omega)
              intro v10 w7 ho hb hg hat
              have HR9 := Aside0.mk ho
              have HB8 := Aside0.mk hb
              clear ho hb hg hat
              refine hK.out _ _ trivial (fun hHeld => ?_)
              clear hK K
              refine norm_ (a' := ?_) ?_ ?_
              rotate_left
              · show Act.put _ (some 119) _ = _
                simp only [Act.put, List.setIfInBounds_toArray, List.set_cons_zero, List.set_cons_succ]
                rfl
              refine two_ (i := 8) (j := 14) (Ni := some 123) (Nj := some 13) #[true, true, true, true, true, true, true, true, true, true, false, false, false, false, false, false, false] #[true, true, true, true, true, true, true, true, false, true, false, false, false, false, true, false, false] rfl rfl rfl rfl (by kernel_rfl) (by simp) (by simp) (fun K hK => ?_) (fun K hK => ?_)
              · skip
                refine Kd.R_append_rows_step k40 (w0 := wr') wr'.heap.size ?hw_11 (.tmp 119) (.tmp 122) 23 40 (.agg #[.int .i64 0, .int .i64 0, .int .i64 0, .int .i64 0, .int .i64 0, .int .i64 0, .int .i64 0, .int .i64 0]) 64 ?ho_11 Try.underlying23 Pc.info40 ?hz_11 (by decide) (by omega) v10 (xs.drop kn) (xs.take kn) (some adx) kn cx (fun _ => True) (fun _ => False) ?hs_11 ?hx_11 HR9.out (Kd.C_below (HC1.out.1) (below_then HB1J.out HB1J.out.size HB8.out)) (fun _ _ h => h) (fun _ h => h.elim) (fun _ _ => trivial) HB8.out HB8.out.size ?hl_11 ?_
                (case hw_11 => rfl)
                (case ho_11 => rfl)
                (case hz_11 => rfl)
                (case hs_11 => rfl)
                (case hx_11 => rfl)
                (case hl_11 => simp only [List.length_drop, List.length_nil]; have := HXL.out; have := HL.out; have := HKN.out; omega)
                intro v15 w12 ho hb hg hat
                have HR14 := Aside0.mk ho
                have HB13 := Aside0.mk hb
                clear ho hb hg hat
                refine hK.out _ _ trivial (fun hHeld => ?_)
                clear hK K
                refine norm_ (a' := ?_) ?_ ?_
                rotate_left
                · show Act.put _ (some 123) _ = _
                  simp only [Act.put, List.setIfInBounds_toArray, List.set_cons_zero, List.set_cons_succ]
                  rfl
                refine two_ (i := 10) (j := 14) (Ni := some 125) (Nj := some 13) #[true, true, true, true, true, true, true, true, true, true, true, false, false, false, false, false, false] #[true, true, true, true, true, true, true, true, true, true, false, false, false, false, true, false, false] rfl rfl rfl rfl (by kernel_rfl) (by simp) (by simp) (fun K hK => ?_) (fun K hK => ?_)
                · skip
                  obtain ⟨A3, c3, e3, hc3⟩ := OwnRow.slice_ HR14.out.2
                  have hj3 := joined_calls A3 c3 _ id _ (Kd.R_reads' (e3 ▸ HR14.out)).2.2 hc3 (by rw [HPL.out]; exact HL.out)
                  rw [← e3, HPJ.out] at hj3
                  refine goes_ Try.func20 (by kernel_rfl) rfl #[v15, .int .i64 id] (by rfl) rfl rfl (by simp only [List.map_toArray, List.map_cons, List.map_nil]; rfl) ?_
                  refine hj3.mono ?_
                  rintro e w17 ⟨rfl, hb⟩
                  refine ⟨_, rfl, ?_⟩
                  have HB18 := Aside0.mk (below_then HB13.out HB13.out.size hb)
                  clear hb hj3 hc3 e3
                  refine hK.out _ _ trivial (fun hHeld => ?_)
                  clear hK K
                  refine norm_ (a' := ?_) ?_ ?_
                  rotate_left
                  · show Act.put _ (some 125) _ = _
                    simp only [Act.put, List.setIfInBounds_toArray, List.set_cons_zero, List.set_cons_succ]
                    rfl
                  refine pure_ (i := 11) (N := some 114) #[true, true, true, true, true, true, true, true, true, true, true, true, false, false, false, false, false] rfl rfl (by kernel_rfl) (fun _ _ _ h => h) (.inl ⟨by rfl, by (intro w; go_simp <;> with_reducible rfl)⟩) rfl ?_
                  (try simp only [Act.put, List.setIfInBounds_toArray, List.set_cons_zero, List.set_cons_succ])
                  refine pure_ (i := 12) (N := some 126) #[true, true, true, true, true, true, true, true, true, true, true, true, true, false, false, false, false] rfl rfl (by kernel_rfl) (fun _ _ _ h => h) (.inl ⟨by rfl, by (intro w; go_simp <;> with_reducible rfl)⟩) rfl ?_
                  (try simp only [Act.put, List.setIfInBounds_toArray, List.set_cons_zero, List.set_cons_succ])
                  refine pure_ (i := 13) (N := some 127) #[true, true, true, true, true, true, true, true, true, true, true, true, true, true, false, false, false] rfl rfl (by kernel_rfl) (fun _ _ _ h => h) (.inl ⟨by rfl, by (intro w; go_simp <;> with_reducible rfl)⟩) rfl ?_
                  (try simp only [Act.put, List.setIfInBounds_toArray, List.set_cons_zero, List.set_cons_succ])
                  refine one_ (i := 14) (N := some 13) #[true, true, true, true, true, true, true, true, true, true, true, true, true, true, true, false, false] rfl rfl (by kernel_rfl) (by simp) (fun K hK => ?_)
                  refine box_step (by rfl) (N := 13) rfl (cs := (cells8 z40).toArray) (t := 40) ?hr_19 ?h_19
                  (case hr_19 => first | (go_simp; done) | (go_simp; rfl))
                  case h_19 =>
                    intro b22 hbe w20 hk hbw
                    have HB21 : Aside0 (Below wr'.heap.size wr' w20) := ⟨below_then HB18.out HB18.out.size hbw⟩
                    have HG23 : Aside0 (wr'.heap.size ≤ b22) := ⟨by rw [hbe]; exact HB18.out.size⟩
                    have HZ24 := Aside0.mk hk
                    clear hk hbw hbe
                    refine hK.out _ _ trivial (fun hHeld => ?_)
                    clear hK K
                    refine norm_ (a' := ?_) ?_ ?_
                    rotate_left
                    · show Act.put _ (some 13) _ = _
                      simp only [Act.put, List.setIfInBounds_toArray, List.set_cons_zero, List.set_cons_succ]
                      rfl
                    exact norm_ (by first | (simp only [putAll, Act.put, List.setIfInBounds_toArray, List.set_cons_zero, List.set_cons_succ]; done) | (simp only [putAll, Act.put, List.setIfInBounds_toArray, List.set_cons_zero, List.set_cons_succ]; rfl)) (hT ⟨b22, v5, v10, v15⟩ _ ⟨HB21.out, HG23.out, HZ24.out⟩)
                · skip
                  refine box_step (by rfl) (N := 13) rfl (cs := (cells8 z40).toArray) (t := 40) ?hr_25 ?h_25
                  (case hr_25 => first | (go_simp; done) | (go_simp; rfl))
                  case h_25 =>
                    intro b28 hbe w26 hk hbw
                    have HB27 : Aside0 (Below wr'.heap.size wr' w26) := ⟨below_then HB13.out HB13.out.size hbw⟩
                    have HG29 : Aside0 (wr'.heap.size ≤ b28) := ⟨by rw [hbe]; exact HB13.out.size⟩
                    have HZ30 := Aside0.mk hk
                    have HR31 := Aside0.mk (Kd.R_below (Kd.R_mono (Kd.R_elderB HR14.out b28 (by rw [hbe]; exact Nat.le_refl _)) (ok' := fun k => k ≠ b28) (fun _ h => h.2)) hbw)
                    clear hk hbw hbe
                    refine hK.out _ _ trivial (fun hHeld => ?_)
                    clear hK K
                    refine norm_ (a' := ?_) ?_ ?_
                    rotate_left
                    · show Act.put _ (some 13) _ = _
                      simp only [Act.put, List.setIfInBounds_toArray, List.set_cons_zero, List.set_cons_succ]
                      rfl
                    refine one_ (i := 10) (N := some 125) #[true, true, true, true, true, true, true, true, true, true, true, false, false, false, true, false, false] rfl rfl (by kernel_rfl) (by simp) (fun K hK => ?_)
                    obtain ⟨A3, c3, e3, hc3⟩ := OwnRow.slice_ HR31.out.2
                    have hj3 := joined_calls A3 c3 _ id _ (Kd.R_reads' (e3 ▸ HR31.out)).2.2 hc3 (by rw [HPL.out]; exact HL.out)
                    rw [← e3, HPJ.out] at hj3
                    refine goes_ Try.func20 (by kernel_rfl) rfl #[v15, .int .i64 id] (by rfl) rfl rfl (by simp only [List.map_toArray, List.map_cons, List.map_nil]; rfl) ?_
                    refine hj3.mono ?_
                    rintro e w33 ⟨rfl, hb⟩
                    refine ⟨_, rfl, ?_⟩
                    have HB34 := Aside0.mk (below_then HB27.out HB27.out.size hb)
                    have HZ35 := Aside0.mk (blk_below HZ30.out hb)
                    clear hb hj3 hc3 e3
                    refine hK.out _ _ trivial (fun hHeld => ?_)
                    clear hK K
                    refine norm_ (a' := ?_) ?_ ?_
                    rotate_left
                    · show Act.put _ (some 125) _ = _
                      simp only [Act.put, List.setIfInBounds_toArray, List.set_cons_zero, List.set_cons_succ]
                      rfl
                    refine pure_ (i := 11) (N := some 114) #[true, true, true, true, true, true, true, true, true, true, true, true, false, false, true, false, false] rfl rfl (by kernel_rfl) (fun _ _ _ h => h) (.inl ⟨by rfl, by (intro w; go_simp <;> with_reducible rfl)⟩) rfl ?_
                    (try simp only [Act.put, List.setIfInBounds_toArray, List.set_cons_zero, List.set_cons_succ])
                    refine pure_ (i := 12) (N := some 126) #[true, true, true, true, true, true, true, true, true, true, true, true, true, false, true, false, false] rfl rfl (by kernel_rfl) (fun _ _ _ h => h) (.inl ⟨by rfl, by (intro w; go_simp <;> with_reducible rfl)⟩) rfl ?_
                    (try simp only [Act.put, List.setIfInBounds_toArray, List.set_cons_zero, List.set_cons_succ])
                    refine pure_ (i := 13) (N := some 127) #[true, true, true, true, true, true, true, true, true, true, true, true, true, true, true, false, false] rfl rfl (by kernel_rfl) (fun _ _ _ h => h) (.inl ⟨by rfl, by (intro w; go_simp <;> with_reducible rfl)⟩) rfl ?_
                    (try simp only [Act.put, List.setIfInBounds_toArray, List.set_cons_zero, List.set_cons_succ])
                    exact norm_ (by first | (simp only [putAll, Act.put, List.setIfInBounds_toArray, List.set_cons_zero, List.set_cons_succ]; done) | (simp only [putAll, Act.put, List.setIfInBounds_toArray, List.set_cons_zero, List.set_cons_succ]; rfl)) (hT ⟨b28, v5, v10, v15⟩ _ ⟨HB34.out, HG29.out, HZ35.out⟩)
              · skip
                refine box_step (by rfl) (N := 13) rfl (cs := (cells8 z40).toArray) (t := 40) ?hr_36 ?h_36
                (case hr_36 => first | (go_simp; done) | (go_simp; rfl))
                case h_36 =>
                  intro b39 hbe w37 hk hbw
                  have HB38 : Aside0 (Below wr'.heap.size wr' w37) := ⟨below_then HB8.out HB8.out.size hbw⟩
                  have HG40 : Aside0 (wr'.heap.size ≤ b39) := ⟨by rw [hbe]; exact HB8.out.size⟩
                  have HZ41 := Aside0.mk hk
                  have HR42 := Aside0.mk (Kd.R_below (Kd.R_mono (Kd.R_elderB HR9.out b39 (by rw [hbe]; exact Nat.le_refl _)) (ok' := fun k => k ≠ b39) (fun _ h => h.2)) hbw)
                  clear hk hbw hbe
                  refine hK.out _ _ trivial (fun hHeld => ?_)
                  clear hK K
                  refine norm_ (a' := ?_) ?_ ?_
                  rotate_left
                  · show Act.put _ (some 13) _ = _
                    simp only [Act.put, List.setIfInBounds_toArray, List.set_cons_zero, List.set_cons_succ]
                    rfl
                  refine one_ (i := 8) (N := some 123) #[true, true, true, true, true, true, true, true, true, true, false, false, false, false, true, false, false] rfl rfl (by kernel_rfl) (by simp) (fun K hK => ?_)
                  refine Kd.R_append_rows_step k40 (w0 := wr') wr'.heap.size ?hw_43 (.tmp 119) (.tmp 122) 23 40 (.agg #[.int .i64 0, .int .i64 0, .int .i64 0, .int .i64 0, .int .i64 0, .int .i64 0, .int .i64 0, .int .i64 0]) 64 ?ho_43 Try.underlying23 Pc.info40 ?hz_43 (by decide) (by omega) v10 (xs.drop kn) (xs.take kn) (some adx) kn cx (fun k => k ≠ b39) (fun _ => False) ?hs_43 ?hx_43 HR42.out (Kd.C_below (HC1.out.1) (below_then HB1J.out HB1J.out.size HB38.out)) (fun _ _ h => h) (fun _ h => h.elim) (fun k hk => by have := blk_lt HZ41.out; omega) HB38.out HB38.out.size ?hl_43 ?_
                  (case hw_43 => rfl)
                  (case ho_43 => rfl)
                  (case hz_43 => rfl)
                  (case hs_43 => rfl)
                  (case hx_43 => rfl)
                  (case hl_43 => simp only [List.length_drop, List.length_nil]; have := HXL.out; have := HL.out; have := HKN.out; omega)
                  intro v47 w44 ho hb hg hat
                  have HZ48 := Aside0.mk (grown_far hg HZ41.out (fun hh => HR42.out.1 _ hh.symm rfl))
                  have HR46 := Aside0.mk ho
                  have HB45 := Aside0.mk hb
                  clear ho hb hg hat
                  refine hK.out _ _ trivial (fun hHeld => ?_)
                  clear hK K
                  refine norm_ (a' := ?_) ?_ ?_
                  rotate_left
                  · show Act.put _ (some 123) _ = _
                    simp only [Act.put, List.setIfInBounds_toArray, List.set_cons_zero, List.set_cons_succ]
                    rfl
                  refine one_ (i := 10) (N := some 125) #[true, true, true, true, true, true, true, true, true, true, true, false, false, false, true, false, false] rfl rfl (by kernel_rfl) (by simp) (fun K hK => ?_)
                  obtain ⟨A3, c3, e3, hc3⟩ := OwnRow.slice_ HR46.out.2
                  have hj3 := joined_calls A3 c3 _ id _ (Kd.R_reads' (e3 ▸ HR46.out)).2.2 hc3 (by rw [HPL.out]; exact HL.out)
                  rw [← e3, HPJ.out] at hj3
                  refine goes_ Try.func20 (by kernel_rfl) rfl #[v47, .int .i64 id] (by rfl) rfl rfl (by simp only [List.map_toArray, List.map_cons, List.map_nil]; rfl) ?_
                  refine hj3.mono ?_
                  rintro e w50 ⟨rfl, hb⟩
                  refine ⟨_, rfl, ?_⟩
                  have HB51 := Aside0.mk (below_then HB45.out HB45.out.size hb)
                  have HZ52 := Aside0.mk (blk_below HZ48.out hb)
                  clear hb hj3 hc3 e3
                  refine hK.out _ _ trivial (fun hHeld => ?_)
                  clear hK K
                  refine norm_ (a' := ?_) ?_ ?_
                  rotate_left
                  · show Act.put _ (some 125) _ = _
                    simp only [Act.put, List.setIfInBounds_toArray, List.set_cons_zero, List.set_cons_succ]
                    rfl
                  refine pure_ (i := 11) (N := some 114) #[true, true, true, true, true, true, true, true, true, true, true, true, false, false, true, false, false] rfl rfl (by kernel_rfl) (fun _ _ _ h => h) (.inl ⟨by rfl, by (intro w; go_simp <;> with_reducible rfl)⟩) rfl ?_
                  (try simp only [Act.put, List.setIfInBounds_toArray, List.set_cons_zero, List.set_cons_succ])
                  refine pure_ (i := 12) (N := some 126) #[true, true, true, true, true, true, true, true, true, true, true, true, true, false, true, false, false] rfl rfl (by kernel_rfl) (fun _ _ _ h => h) (.inl ⟨by rfl, by (intro w; go_simp <;> with_reducible rfl)⟩) rfl ?_
                  (try simp only [Act.put, List.setIfInBounds_toArray, List.set_cons_zero, List.set_cons_succ])
                  refine pure_ (i := 13) (N := some 127) #[true, true, true, true, true, true, true, true, true, true, true, true, true, true, true, false, false] rfl rfl (by kernel_rfl) (fun _ _ _ h => h) (.inl ⟨by rfl, by (intro w; go_simp <;> with_reducible rfl)⟩) rfl ?_
                  (try simp only [Act.put, List.setIfInBounds_toArray, List.set_cons_zero, List.set_cons_succ])
                  exact norm_ (by first | (simp only [putAll, Act.put, List.setIfInBounds_toArray, List.set_cons_zero, List.set_cons_succ]; done) | (simp only [putAll, Act.put, List.setIfInBounds_toArray, List.set_cons_zero, List.set_cons_succ]; rfl)) (hT ⟨b39, v5, v10, v47⟩ _ ⟨HB51.out, HG40.out, HZ52.out⟩)
            · skip
              refine box_step (by rfl) (N := 13) rfl (cs := (cells8 z40).toArray) (t := 40) ?hr_53 ?h_53
              (case hr_53 => first | (go_simp; done) | (go_simp; rfl))
              case h_53 =>
                intro b56 hbe w54 hk hbw
                have HB55 : Aside0 (Below wr'.heap.size wr' w54) := ⟨below_then HB3.out HB3.out.size hbw⟩
                have HG57 : Aside0 (wr'.heap.size ≤ b56) := ⟨by rw [hbe]; exact HB3.out.size⟩
                have HZ58 := Aside0.mk hk
                have HR59 := Aside0.mk (Kd.R_below (Kd.R_mono (Kd.R_elderB HR4.out b56 (by rw [hbe]; exact Nat.le_refl _)) (ok' := fun k => k ≠ b56) (fun _ h => h.2)) hbw)
                clear hk hbw hbe
                refine hK.out _ _ trivial (fun hHeld => ?_)
                clear hK K
                refine norm_ (a' := ?_) ?_ ?_
                rotate_left
                · show Act.put _ (some 13) _ = _
                  simp only [Act.put, List.setIfInBounds_toArray, List.set_cons_zero, List.set_cons_succ]
                  rfl
                refine one_ (i := 4) (N := some 119) #[true, true, true, true, true, true, true, true, false, true, false, false, false, false, true, false, false] rfl rfl (by kernel_rfl) (by simp) (fun K hK => ?_)
                refine Kd.R_append_rows_step k40 (w0 := wr') wr'.heap.size ?hw_60 (.tmp 115) (.tmp 118) 23 40 (.agg #[.int .i64 0, .int .i64 0, .int .i64 0, .int .i64 0, .int .i64 0, .int .i64 0, .int .i64 0, .int .i64 0]) 64 ?ho_60 Try.underlying23 Pc.info40 ?hz_60 (by decide) (by omega) v5 [] (xs.drop kn) (some (adx.add (kn * 8))) (n - kn) (cx - kn) (fun k => k ≠ b56) (fun _ => False) ?hs_60 ?hx_60 HR59.out (Kd.C_below (HC1.out.2) (below_then HB1J.out HB1J.out.size HB55.out)) (fun _ _ h => h) (fun _ h => h.elim) (fun k hk => by have := blk_lt HZ58.out; omega) HB55.out HB55.out.size ?hl_60 ?_
                (case hw_60 => rfl)
                (case ho_60 => rfl)
                (case hz_60 => rfl)
                (case hs_60 => rfl)
                (case hx_60 => rfl)
                (case hl_60 => simp only [List.length_drop, List.length_nil]; have := HXL.out; have := HL.out; have := HKN.out; omega)
                intro v64 w61 ho hb hg hat
                have HZ65 := Aside0.mk (grown_far hg HZ58.out (fun hh => HR59.out.1 _ hh.symm rfl))
                have HR63 := Aside0.mk ho
                have HB62 := Aside0.mk hb
                clear ho hb hg hat
                refine hK.out _ _ trivial (fun hHeld => ?_)
                clear hK K
                refine norm_ (a' := ?_) ?_ ?_
                rotate_left
                · show Act.put _ (some 119) _ = _
                  simp only [Act.put, List.setIfInBounds_toArray, List.set_cons_zero, List.set_cons_succ]
                  rfl
                refine one_ (i := 8) (N := some 123) #[true, true, true, true, true, true, true, true, true, true, false, false, false, false, true, false, false] rfl rfl (by kernel_rfl) (by simp) (fun K hK => ?_)
                refine Kd.R_append_rows_step k40 (w0 := wr') wr'.heap.size ?hw_66 (.tmp 119) (.tmp 122) 23 40 (.agg #[.int .i64 0, .int .i64 0, .int .i64 0, .int .i64 0, .int .i64 0, .int .i64 0, .int .i64 0, .int .i64 0]) 64 ?ho_66 Try.underlying23 Pc.info40 ?hz_66 (by decide) (by omega) v64 (xs.drop kn) (xs.take kn) (some adx) kn cx (fun k => k ≠ b56) (fun _ => False) ?hs_66 ?hx_66 HR63.out (Kd.C_below (HC1.out.1) (below_then HB1J.out HB1J.out.size HB62.out)) (fun _ _ h => h) (fun _ h => h.elim) (fun k hk => by have := blk_lt HZ65.out; omega) HB62.out HB62.out.size ?hl_66 ?_
                (case hw_66 => rfl)
                (case ho_66 => rfl)
                (case hz_66 => rfl)
                (case hs_66 => rfl)
                (case hx_66 => rfl)
                (case hl_66 => simp only [List.length_drop, List.length_nil]; have := HXL.out; have := HL.out; have := HKN.out; omega)
                intro v70 w67 ho hb hg hat
                have HZ71 := Aside0.mk (grown_far hg HZ65.out (fun hh => HR63.out.1 _ hh.symm rfl))
                have HR69 := Aside0.mk ho
                have HB68 := Aside0.mk hb
                clear ho hb hg hat
                refine hK.out _ _ trivial (fun hHeld => ?_)
                clear hK K
                refine norm_ (a' := ?_) ?_ ?_
                rotate_left
                · show Act.put _ (some 123) _ = _
                  simp only [Act.put, List.setIfInBounds_toArray, List.set_cons_zero, List.set_cons_succ]
                  rfl
                refine one_ (i := 10) (N := some 125) #[true, true, true, true, true, true, true, true, true, true, true, false, false, false, true, false, false] rfl rfl (by kernel_rfl) (by simp) (fun K hK => ?_)
                obtain ⟨A3, c3, e3, hc3⟩ := OwnRow.slice_ HR69.out.2
                have hj3 := joined_calls A3 c3 _ id _ (Kd.R_reads' (e3 ▸ HR69.out)).2.2 hc3 (by rw [HPL.out]; exact HL.out)
                rw [← e3, HPJ.out] at hj3
                refine goes_ Try.func20 (by kernel_rfl) rfl #[v70, .int .i64 id] (by rfl) rfl rfl (by simp only [List.map_toArray, List.map_cons, List.map_nil]; rfl) ?_
                refine hj3.mono ?_
                rintro e w73 ⟨rfl, hb⟩
                refine ⟨_, rfl, ?_⟩
                have HB74 := Aside0.mk (below_then HB68.out HB68.out.size hb)
                have HZ75 := Aside0.mk (blk_below HZ71.out hb)
                clear hb hj3 hc3 e3
                refine hK.out _ _ trivial (fun hHeld => ?_)
                clear hK K
                refine norm_ (a' := ?_) ?_ ?_
                rotate_left
                · show Act.put _ (some 125) _ = _
                  simp only [Act.put, List.setIfInBounds_toArray, List.set_cons_zero, List.set_cons_succ]
                  rfl
                refine pure_ (i := 11) (N := some 114) #[true, true, true, true, true, true, true, true, true, true, true, true, false, false, true, false, false] rfl rfl (by kernel_rfl) (fun _ _ _ h => h) (.inl ⟨by rfl, by (intro w; go_simp <;> with_reducible rfl)⟩) rfl ?_
                (try simp only [Act.put, List.setIfInBounds_toArray, List.set_cons_zero, List.set_cons_succ])
                refine pure_ (i := 12) (N := some 126) #[true, true, true, true, true, true, true, true, true, true, true, true, true, false, true, false, false] rfl rfl (by kernel_rfl) (fun _ _ _ h => h) (.inl ⟨by rfl, by (intro w; go_simp <;> with_reducible rfl)⟩) rfl ?_
                (try simp only [Act.put, List.setIfInBounds_toArray, List.set_cons_zero, List.set_cons_succ])
                refine pure_ (i := 13) (N := some 127) #[true, true, true, true, true, true, true, true, true, true, true, true, true, true, true, false, false] rfl rfl (by kernel_rfl) (fun _ _ _ h => h) (.inl ⟨by rfl, by (intro w; go_simp <;> with_reducible rfl)⟩) rfl ?_
                (try simp only [Act.put, List.setIfInBounds_toArray, List.set_cons_zero, List.set_cons_succ])
                exact norm_ (by first | (simp only [putAll, Act.put, List.setIfInBounds_toArray, List.set_cons_zero, List.set_cons_succ]; done) | (simp only [putAll, Act.put, List.setIfInBounds_toArray, List.set_cons_zero, List.set_cons_succ]; rfl)) (hT ⟨b56, v5, v64, v70⟩ _ ⟨HB74.out, HG57.out, HZ75.out⟩)
          · skip
            refine box_step (by rfl) (N := 13) rfl (cs := (cells8 z40).toArray) (t := 40) ?hr_76 ?h_76
            (case hr_76 => first | (go_simp; done) | (go_simp; rfl))
            case h_76 =>
              intro b79 hbe w77 hk hbw
              have HB78 : Aside0 (Below wr'.heap.size wr' w77) := ⟨below_then HB0.out HB0.out.size hbw⟩
              have HG80 : Aside0 (wr'.heap.size ≤ b79) := ⟨by rw [hbe]; exact HB0.out.size⟩
              have HZ81 := Aside0.mk hk
              clear hk hbw hbe
              refine hK.out _ _ trivial (fun hHeld => ?_)
              clear hK K
              refine norm_ (a' := ?_) ?_ ?_
              rotate_left
              · show Act.put _ (some 13) _ = _
                simp only [Act.put, List.setIfInBounds_toArray, List.set_cons_zero, List.set_cons_succ]
                rfl
              refine one_ (i := 0) (N := some 115) #[true, true, true, true, false, true, true, true, false, true, false, false, false, false, true, false, false] rfl rfl (by kernel_rfl) (by simp) (fun K hK => ?_)
              refine Kd.R_lit_step k40 (w0 := wr') wr'.heap.size 40 ?hw_82 (N := 115) ?hN_82 (xs := ([] : List S40)) (inner := []) (ok := (fun k => k ≠ b79)) (okp := fun _ => False) ?hr_82 (Reps.none _ _) (fun _ hk => hk.elim) (by have h_ := blk_lt HZ81.out; show _ ≠ _; omega) HB78.out HB78.out.size (by simp) ?_
              (case hw_82 => rfl)
              (case hN_82 => rfl)
              (case hr_82 => first | (go_simp; done) | (go_simp; rfl))
              intro v86 w83 ho hb hg hat
              have HZ87 := Aside0.mk (grown_far hg HZ81.out (by simp))
              have HR85 := Aside0.mk ho
              have HB84 := Aside0.mk hb
              clear ho hb hg hat
              refine hK.out _ _ trivial (fun hHeld => ?_)
              clear hK K
              refine norm_ (a' := ?_) ?_ ?_
              rotate_left
              · show Act.put _ (some 115) _ = _
                simp only [Act.put, List.setIfInBounds_toArray, List.set_cons_zero, List.set_cons_succ]
                rfl
              refine one_ (i := 4) (N := some 119) #[true, true, true, true, true, true, true, true, false, true, false, false, false, false, true, false, false] rfl rfl (by kernel_rfl) (by simp) (fun K hK => ?_)
              refine Kd.R_append_rows_step k40 (w0 := wr') wr'.heap.size ?hw_88 (.tmp 115) (.tmp 118) 23 40 (.agg #[.int .i64 0, .int .i64 0, .int .i64 0, .int .i64 0, .int .i64 0, .int .i64 0, .int .i64 0, .int .i64 0]) 64 ?ho_88 Try.underlying23 Pc.info40 ?hz_88 (by decide) (by omega) v86 [] (xs.drop kn) (some (adx.add (kn * 8))) (n - kn) (cx - kn) (fun k => k ≠ b79) (fun _ => False) ?hs_88 ?hx_88 HR85.out (Kd.C_below (HC1.out.2) (below_then HB1J.out HB1J.out.size HB84.out)) (fun _ _ h => h) (fun _ h => h.elim) (fun k hk => by have := blk_lt HZ87.out; omega) HB84.out HB84.out.size ?hl_88 ?_
              (case hw_88 => rfl)
              (case ho_88 => rfl)
              (case hz_88 => rfl)
              (case hs_88 => rfl)
              (case hx_88 => rfl)
              (case hl_88 => simp only [List.length_drop, List.length_nil]; have := HXL.out; have := HL.out; have := HKN.out; omega)
              intro v92 w89 ho hb hg hat
              have HZ93 := Aside0.mk (grown_far hg HZ87.out (fun hh => HR85.out.1 _ hh.symm rfl))
              have HR91 := Aside0.mk ho
              have HB90 := Aside0.mk hb
              clear ho hb hg hat
              refine hK.out _ _ trivial (fun hHeld => ?_)
              clear hK K
              refine norm_ (a' := ?_) ?_ ?_
              rotate_left
              · show Act.put _ (some 119) _ = _
                simp only [Act.put, List.setIfInBounds_toArray, List.set_cons_zero, List.set_cons_succ]
                rfl
              refine one_ (i := 8) (N := some 123) #[true, true, true, true, true, true, true, true, true, true, false, false, false, false, true, false, false] rfl rfl (by kernel_rfl) (by simp) (fun K hK => ?_)
              refine Kd.R_append_rows_step k40 (w0 := wr') wr'.heap.size ?hw_94 (.tmp 119) (.tmp 122) 23 40 (.agg #[.int .i64 0, .int .i64 0, .int .i64 0, .int .i64 0, .int .i64 0, .int .i64 0, .int .i64 0, .int .i64 0]) 64 ?ho_94 Try.underlying23 Pc.info40 ?hz_94 (by decide) (by omega) v92 (xs.drop kn) (xs.take kn) (some adx) kn cx (fun k => k ≠ b79) (fun _ => False) ?hs_94 ?hx_94 HR91.out (Kd.C_below (HC1.out.1) (below_then HB1J.out HB1J.out.size HB90.out)) (fun _ _ h => h) (fun _ h => h.elim) (fun k hk => by have := blk_lt HZ93.out; omega) HB90.out HB90.out.size ?hl_94 ?_
              (case hw_94 => rfl)
              (case ho_94 => rfl)
              (case hz_94 => rfl)
              (case hs_94 => rfl)
              (case hx_94 => rfl)
              (case hl_94 => simp only [List.length_drop, List.length_nil]; have := HXL.out; have := HL.out; have := HKN.out; omega)
              intro v98 w95 ho hb hg hat
              have HZ99 := Aside0.mk (grown_far hg HZ93.out (fun hh => HR91.out.1 _ hh.symm rfl))
              have HR97 := Aside0.mk ho
              have HB96 := Aside0.mk hb
              clear ho hb hg hat
              refine hK.out _ _ trivial (fun hHeld => ?_)
              clear hK K
              refine norm_ (a' := ?_) ?_ ?_
              rotate_left
              · show Act.put _ (some 123) _ = _
                simp only [Act.put, List.setIfInBounds_toArray, List.set_cons_zero, List.set_cons_succ]
                rfl
              refine one_ (i := 10) (N := some 125) #[true, true, true, true, true, true, true, true, true, true, true, false, false, false, true, false, false] rfl rfl (by kernel_rfl) (by simp) (fun K hK => ?_)
              obtain ⟨A3, c3, e3, hc3⟩ := OwnRow.slice_ HR97.out.2
              have hj3 := joined_calls A3 c3 _ id _ (Kd.R_reads' (e3 ▸ HR97.out)).2.2 hc3 (by rw [HPL.out]; exact HL.out)
              rw [← e3, HPJ.out] at hj3
              refine goes_ Try.func20 (by kernel_rfl) rfl #[v98, .int .i64 id] (by rfl) rfl rfl (by simp only [List.map_toArray, List.map_cons, List.map_nil]; rfl) ?_
              refine hj3.mono ?_
              rintro e w101 ⟨rfl, hb⟩
              refine ⟨_, rfl, ?_⟩
              have HB102 := Aside0.mk (below_then HB96.out HB96.out.size hb)
              have HZ103 := Aside0.mk (blk_below HZ99.out hb)
              clear hb hj3 hc3 e3
              refine hK.out _ _ trivial (fun hHeld => ?_)
              clear hK K
              refine norm_ (a' := ?_) ?_ ?_
              rotate_left
              · show Act.put _ (some 125) _ = _
                simp only [Act.put, List.setIfInBounds_toArray, List.set_cons_zero, List.set_cons_succ]
                rfl
              refine pure_ (i := 11) (N := some 114) #[true, true, true, true, true, true, true, true, true, true, true, true, false, false, true, false, false] rfl rfl (by kernel_rfl) (fun _ _ _ h => h) (.inl ⟨by rfl, by (intro w; go_simp <;> with_reducible rfl)⟩) rfl ?_
              (try simp only [Act.put, List.setIfInBounds_toArray, List.set_cons_zero, List.set_cons_succ])
              refine pure_ (i := 12) (N := some 126) #[true, true, true, true, true, true, true, true, true, true, true, true, true, false, true, false, false] rfl rfl (by kernel_rfl) (fun _ _ _ h => h) (.inl ⟨by rfl, by (intro w; go_simp <;> with_reducible rfl)⟩) rfl ?_
              (try simp only [Act.put, List.setIfInBounds_toArray, List.set_cons_zero, List.set_cons_succ])
              refine pure_ (i := 13) (N := some 127) #[true, true, true, true, true, true, true, true, true, true, true, true, true, true, true, false, false] rfl rfl (by kernel_rfl) (fun _ _ _ h => h) (.inl ⟨by rfl, by (intro w; go_simp <;> with_reducible rfl)⟩) rfl ?_
              (try simp only [Act.put, List.setIfInBounds_toArray, List.set_cons_zero, List.set_cons_succ])
              exact norm_ (by first | (simp only [putAll, Act.put, List.setIfInBounds_toArray, List.set_cons_zero, List.set_cons_succ]; done) | (simp only [putAll, Act.put, List.setIfInBounds_toArray, List.set_cons_zero, List.set_cons_succ]; rfl)) (hT ⟨b79, v86, v92, v98⟩ _ ⟨HB102.out, HG80.out, HZ103.out⟩)
        rintro ⟨b13, v115, v119, v123⟩ w4 ⟨hb4, hg4, hz4⟩
        have HB4 := Aside0.mk hb4
        have HG4 := Aside0.mk hg4
        have HZ4 := Aside0.mk hz4
        clear hb4 hg4 hz4
        refine norm_ (a' := ?_) ?_ ?_
        rotate_left
        · simp only [putAll, Act.put, List.setIfInBounds_toArray, List.set_cons_zero, List.set_cons_succ]
          rfl
        refine last_ (i := 15) (N := none) #[true, true, true, true, true, true, true, true, true, true, true, true, true, true, true, true, false] rfl rfl (by kernel_rfl) (by simp) (fun K hK => ?_)
        refine put8_step q (by rfl) rfl rfl rfl rfl HZ4.out rfl ?_
        intro w5 hk5 hf5 hb5 hs5
        have HK5 := Aside0.mk hk5
        have HB5 : Aside0 (Below wr'.heap.size wr' w5) := ⟨hb5 _ _ HG4.out HB4.out⟩
        clear hk5 hf5 hb5 hs5
        refine hK.out _ _ ?_
        clear hK K
        (try simp only [Act.put, List.setIfInBounds_toArray, List.set_cons_zero, List.set_cons_succ])
        refine take_ (i := 16) (N := some 14) #[true, true, true, true, true, true, true, true, true, true, true, true, true, true, true, true, true] rfl rfl (by kernel_rfl) (fun _ _ _ h => h) (.inl ⟨by rfl, by (intro w hSw; (try dsimp only at hSw); go_simp <;> with_reducible rfl)⟩) trivial rfl ?_
        (try simp only [Act.put, List.setIfInBounds_toArray, List.set_cons_zero, List.set_cons_succ])
        refine done_ (by kernel_rfl) ?_
        have hk8 := (HB5.out.block b8 HL8'.out).trans HKJ.out
        have hk5 := HK5.out
        have d0 := blk_cell hk8 0
        have d1 := blk_cell hk8 1
        have d2 := blk_cell hk8 2
        have d3 := blk_cell hk8 3
        have d4 := blk_cell hk8 4
        have d5 := blk_cell hk8 5
        have d6 := blk_cell hk8 6
        have d7 := blk_cell hk8 7
        simp [cells8] at d0 d1 d2 d3 d4 d5 d6 d7
        have e0 := blk_cell hk5 0
        have e1 := blk_cell hk5 1
        have e2 := blk_cell hk5 2
        have e3 := blk_cell hk5 3
        have e4 := blk_cell hk5 4
        have e5 := blk_cell hk5 5
        have e6 := blk_cell hk5 6
        have e7 := blk_cell hk5 7
        simp [cells8] at e0 e1 e2 e3 e4 e5 e6 e7
        clear hk8 hk5
        have hid : (q.f0 == id) = true := by rw [HY.out.2.2.2.1]; simp
        have HB5' := Aside0.mk (below_then HBJ.out HBJ.out.size HB5.out)
        have hkn := knows_true w5
        go_wp2_with fail
        refine hkn.mono ?_
        rintro e w6 ⟨rfl, hb6⟩
        have HB6 := Aside0.mk (below_step HB5'.out hb6)
        clear hkn hb6
        go_wp2
        go_ret
        exact ⟨rfl, HB6.out⟩
theorem joins_row (A : Option Addr) (c : Nat) (l : List S44) (id kk : Int) (w : World) (hC : k44.C w A l.length l) (hc : l.length ≤ c) (hl : l.length ≤ 1048576)
    (_ : (Lit.int .i64 id).wf = true) (_ : (Lit.int .i64 kk).wf = true) :
    Calls Try.prog 7 #[.slice A l.length c, .int .i64 id, .int .i64 kk] w fun e w' => e = .returned (.bool true) ∧ Below w.heap.size w w' := joins_true A c l id kk w hC hc hl
end Go.Proofs.Ytdohacnjngkkiaa.Jn
