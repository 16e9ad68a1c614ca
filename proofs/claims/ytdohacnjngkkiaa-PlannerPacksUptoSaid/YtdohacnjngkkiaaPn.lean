/- The law PlannerPacks, walked. -/
import Derived.Test.YtdohacnjngkkiaaRl
import Derived.Test.YtdohacnjngkkiaaJd
import Derived.Test.YtdohacnjngkkiaaRk
import Derived.Test.YtdohacnjngkkiaaJo
namespace Go.Proofs.Ytdohacnjngkkiaa.Rj
set_option linter.unusedVariables false
set_option linter.unusedSimpArgs false
open Go.Proofs.Ytdohacnjngkkiaa.Jd Go.RowKit Go.Proofs.YtdohacnjngkkiaaW.PrintWords Go.Proofs.YtdohacnjngkkiaaW.PrintLast Go.Proofs.YtdohacnjngkkiaaW.PrintMore Go.Proofs.Ytdohacnjngkkiaa.A Go.Proofs.Ytdohacnjngkkiaa.Pm Go.Proofs.Ytdohacnjngkkiaa.Pf Go.Proofs.Ytdohacnjngkkiaa.Pi Go.Proofs.Ytdohacnjngkkiaa.Rl
def tupJ (r : S40 × Bool) : Int × Int × Int × Int × Int × Int × Int × Int × Bool := (r.1.f0, r.1.f1, r.1.f2, r.1.f3, r.1.f4, r.1.f5, r.1.f6, r.1.f7, r.2)
theorem mn_eq (a b : Int) : mn a b = min a b := by unfold mn; split <;> omega
theorem mx_eq (a b : Int) : mx a b = max a b := by unfold mx; split <;> omega
theorem joined_l0 (l : List S44) (hl : l.length ≤ 1048576) (id : Int) : ∀ (n i : Nat) (m : S40), i + n = l.length → Ev (fun k => icehouseref09_Joined.l0 k l id (i : Int) m.f0 m.f1 m.f2 m.f3 m.f4 m.f5 m.f6 m.f7) (tupJ (finJ (((l.drop i).map cv).foldl stepJ m) id))
  | 0, i, m, h => by
    rw [List.drop_of_length_le (by omega)]
    refine ev_step (ev_some _) (fun k => ?_)
    rw [icehouseref09_Joined.l0, if_neg (by omega)]
    have hr := rright_is ⟨id, m.f1, m.f2, m.f3, m.f4, m.f5, m.f6, wrap64 (m.f7 + 1)⟩
    simp only at hr
    rw [hr, Option.bind_some]
    show _ = some (tupJ (finJ m id))
    unfold finJ
    by_cases hR : rightB (lastJ m id) = true
    · rw [if_pos hR, if_pos (show rightB (cv ⟨id, m.f1, m.f2, m.f3, m.f4, m.f5, m.f6, wrap64 (m.f7 + 1)⟩) = true from hR)]; rfl
    · rw [if_neg hR, if_neg (show ¬ rightB (cv ⟨id, m.f1, m.f2, m.f3, m.f4, m.f5, m.f6, wrap64 (m.f7 + 1)⟩) = true from hR)]; rfl
  | n + 1, i, m, h => by
    have hi : i < l.length := by omega
    rw [List.drop_eq_getElem_cons hi, List.map_cons, List.foldl_cons]
    have ih := joined_l0 l hl id n (i + 1) (stepJ m (cv l[i])) (by omega)
    refine ev_step ih (fun k => ?_)
    rw [icehouseref09_Joined.l0, if_pos (by omega), if_pos (by omega), rd44 hi, w1 hi hl, mn_eq, mn_eq, mn_eq, mn_eq, mx_eq, mx_eq, mx_eq]
    rfl
theorem joined_is (l : List S44) (hl : l.length ≤ 1048576) (id : Int) : Ev (fun k => icehouseref09_Joined.f k l id) (tupJ (joinB (l.map cv) id)) := by
  cases l with
  | nil =>
    refine ⟨1, fun k hk => ?_⟩
    obtain ⟨k', rfl⟩ : ∃ k', k = k' + 1 := ⟨k - 1, by omega⟩
    show (if (([] : List S44).length : Int) = 0 then _ else _) = _
    rw [if_pos (by rfl), icehouseref09_Joined.j0, if_pos rfl]
    rfl
  | cons x r =>
    have hfi := fine_is (x :: r) hl
    have hne : ¬ (((x :: r).length : Int) = 0) := by rw [List.length_cons]; omega
    have hx : rd_T44 (x :: r) 0 = x := rd44 (l := x :: r) (i := 0) (by simp)
    have h := ev_bind (g2 := fun k t => icehouseref09_Joined.j0 k (x :: r) id (!t)) (r := tupJ (joinB ((x :: r).map cv) id)) hfi ?_
    · obtain ⟨K, hK⟩ := h
      refine ⟨K, fun k hk => ?_⟩
      show (if ((x :: r).length : Int) = 0 then _ else _) = _
      rw [if_neg hne]
      exact hK k hk
    · by_cases hf : fineB ((x :: r).map cv) = true
      · rw [hf]
        have hj := joined_l0 (x :: r) hl id r.length 1 (cv x) (by simp; omega)
        refine ev_step (r := tupJ (joinB ((x :: r).map cv) id)) (g := fun k => icehouseref09_Joined.l0 k (x :: r) id 1 x.f0 x.f1 x.f2 x.f3 x.f4 x.f5 x.f6 x.f7) ?_ (fun k => ?_)
        · have e : joinB ((x :: r).map cv) id = finJ ((((x :: r).drop 1).map cv).foldl stepJ (cv x)) id := by
            show (if fineB ((x :: r).map cv) = true then _ else _) = _
            rw [if_pos hf]
            rfl
          rw [e]
          exact hj
        · show icehouseref09_Joined.j0 (k + 1) (x :: r) id false = _
          rw [icehouseref09_Joined.j0, if_neg (by decide), if_pos (by rw [List.length_cons]; omega), hx]
      · have hff : fineB ((x :: r).map cv) = false := by simpa using hf
        rw [hff]
        refine ev_step (g := fun _ => some (tupJ (joinB ((x :: r).map cv) id))) (ev_some _) (fun k => ?_)
        show icehouseref09_Joined.j0 (k + 1) (x :: r) id true = _
        rw [icehouseref09_Joined.j0, if_pos rfl]
        have e : joinB ((x :: r).map cv) id = (z40, false) := by
          show (if fineB ((x :: r).map cv) = true then _ else _) = _
          rw [if_neg hf]
        rw [e]
        rfl
end Go.Proofs.Ytdohacnjngkkiaa.Rj
namespace Go.Proofs.Ytdohacnjngkkiaa.Pn
set_option linter.unusedVariables false
set_option linter.unusedSimpArgs false
open Go.Proofs.Ytdohacnjngkkiaa.Rk Go.Proofs.Ytdohacnjngkkiaa.Rj Go.Proofs.Ytdohacnjngkkiaa.Jd Go.Proofs.Ytdohacnjngkkiaa.Jo Go.Proofs.Ytdohacnjngkkiaa.Bx Go.Proofs.Ytdohacnjngkkiaa.Wp Go.Proofs.Ytdohacnjngkkiaa.Lk Go.Proofs.Ytdohacnjngkkiaa.Kn Go.Proofs.Ytdohacnjngkkiaa.Rl Go.Proofs.Ytdohacnjngkkiaa.Sm Go.Proofs.Ytdohacnjngkkiaa.Sr Go.Proofs.Ytdohacnjngkkiaa.Pk Go.Proofs.Ytdohacnjngkkiaa.Pq Go.Proofs.Ytdohacnjngkkiaa.Pw Go.Shelf Go.RowKit Go.Proofs.YtdohacnjngkkiaaW.PrintWords Go.Proofs.YtdohacnjngkkiaaW.PrintLast Go.Proofs.YtdohacnjngkkiaaW.PrintMore Go.Proofs.Ytdohacnjngkkiaa.Fr Go.Proofs.Ytdohacnjngkkiaa.A Go.Proofs.Ytdohacnjngkkiaa.Pm Go.Proofs.Ytdohacnjngkkiaa.Pf Go.Proofs.Ytdohacnjngkkiaa.Pi Go.Proofs.Ytdohacnjngkkiaa.Pc Go.Proofs.Ytdohacnjngkkiaa.Pd
attribute [local go_sem high] eqA40
theorem rules_calls (fan mx keep : Int) (w : World) : Calls Try.prog 19 #[.agg #[.int .i64 fan, .int .i64 mx, .int .i64 keep]] w fun e w' => e = .returned (.agg #[.int .i64 fan, .int .i64 mx, .int .i64 keep]) ∧ Below w.heap.size w w' :=
  icehouselaw09_rules.calls fan mx keep fan mx keep w rfl
theorem rjoined_calls (A : Option Addr) (c : Nat) (l : List S44) (id : Int) (w : World) (hC : k44.C w A l.length l) (hc : l.length ≤ c) (hl : l.length ≤ 1048576) :
    Calls Try.prog 21 #[.slice A l.length c, .int .i64 id] w fun e w' => e = .returned (.tuple #[ag (joinB (l.map cv) id).1, .bool (joinB (l.map cv) id).2]) ∧ Below w.heap.size w w' := by
  obtain ⟨K, hK⟩ := joined_is l hl id
  exact icehouseref09_Joined.calls K A c l id _ _ _ _ _ _ _ _ _ w hC hc (hK K (Nat.le_refl _))
theorem own_calls (q : S40) (w : World) : Calls Try.prog 23 #[.agg #[.int .i64 q.f0, .int .i64 q.f1, .int .i64 q.f2, .int .i64 q.f3, .int .i64 q.f4, .int .i64 q.f5, .int .i64 q.f6, .int .i64 q.f7]] w fun e w' => e = .returned (.agg #[.int .i64 q.f0, .int .i64 q.f1, .int .i64 q.f2, .int .i64 q.f3, .int .i64 q.f4, .int .i64 q.f5, .int .i64 q.f6, .int .i64 q.f7]) ∧ Below w.heap.size w w' :=
  icehouselaw09_Own.calls q.f0 q.f1 q.f2 q.f3 q.f4 q.f5 q.f6 q.f7 _ _ _ _ _ _ _ _ w rfl
theorem info44s' : (Try.prog.info? 44).map (·.size) = some 8 := by kernel_rfl
theorem put_cells44 {w : World} {g : Nat} {cur : Array Value} (hg : w.heap[g]? = some (.cells cur 44 (0, 0))) (hz : cur.size = 8) (x : S40) : (w.setCells g 0 (cells8 x)).heap[g]? = some (.cells (cells8 x).toArray 44 (0, 0)) := by
  obtain ⟨c0, c1, c2, c3, c4, c5, c6, c7, rfl⟩ : ∃ c0 c1 c2 c3 c4 c5 c6 c7, cur = #[c0, c1, c2, c3, c4, c5, c6, c7] := by
    obtain ⟨l⟩ := cur
    match l, hz with
    | [c0, c1, c2, c3, c4, c5, c6, c7], _ => exact ⟨c0, c1, c2, c3, c4, c5, c6, c7, rfl⟩
  have h := blk_put (blk_put (blk_put (blk_put (blk_put (blk_put (blk_put (blk_put hg 0 (.int .i64 x.f0) rfl) 1 (.int .i64 x.f1) rfl) 2 (.int .i64 x.f2) rfl) 3 (.int .i64 x.f3) rfl) 4 (.int .i64 x.f4) rfl) 5 (.int .i64 x.f5) rfl) 6 (.int .i64 x.f6) rfl) 7 (.int .i64 x.f7) rfl
  simpa [cells8, World.setCells] using h
section
variable {ops : Array Oper} {rest : List Oper} {o : Oper} {a : Act} {Q : Exit → Act → World → Prop} {W : World}
theorem put44 {g : Nat} {cur : Array Value} (x : S40) (hgd : o.guard = none) (hN : o.dst = none) {p : Tmp} {v : Operand} (ho : o.op = .store 44 (.tmp p) v) (hp : a.eval (.tmp p) = .pointer (some ⟨g, 0, none⟩)) (hv : a.eval v = ag x)
    (hg : W.heap[g]? = some (.cells cur 44 (0, 0))) (hz : cur.size = 8)
    (h : ∀ w1, w1.heap[g]? = some (.cells (cells8 x).toArray 44 (0, 0)) → (∀ k, k ≠ g → w1.heap[k]? = W.heap[k]?) → (∀ B w0, B ≤ g → Below B w0 W → Below B w0 w1) → w1.heap.size = W.heap.size → wpList Try.prog ops Q rest a w1) :
    wpList Try.prog ops Q (o :: rest) a W := by
  refine wpList_plain hgd fun K hK => ?_
  have hrun := run_store_run (P := Try.prog) (w := W) (o := 0) 44 (ag x) (cells8 x) hg rfl info44s' (by rw [hz]; exact Nat.le_refl _) (seg_one x)
  unfold Oper.wp execOp
  simp only [ho, hp, hv, Sem.run_bind, Sem.run_pure, Result.andThen_ok, hrun]
  show K (a.put o.dst undef) _
  rw [hN]
  have hs := setCells_same g (cells8 x) 0 W
  refine hK a _ (h _ (put_cells44 hg hz x) (fun k hk => setCells_far _ 0 k hk) (fun B w0 hB hb => ?_) (by rw [hs.2.2.2]))
  exact hb.trans ⟨hs.1, hs.2.1, hs.2.2.1, by rw [hs.2.2.2]; exact Nat.le_refl _, fun k hk => setCells_far _ 0 k (by omega)⟩
end
def B8 (b : Nat) (q : S40) (W : World) : Prop := W.cell? ⟨b, 0, none⟩ = some (.int .i64 q.f0) ∧ W.cell? ⟨b, 1, none⟩ = some (.int .i64 q.f1) ∧ W.cell? ⟨b, 2, none⟩ = some (.int .i64 q.f2) ∧ W.cell? ⟨b, 3, none⟩ = some (.int .i64 q.f3) ∧ W.cell? ⟨b, 4, none⟩ = some (.int .i64 q.f4) ∧ W.cell? ⟨b, 5, none⟩ = some (.int .i64 q.f5) ∧ W.cell? ⟨b, 6, none⟩ = some (.int .i64 q.f6) ∧ W.cell? ⟨b, 7, none⟩ = some (.int .i64 q.f7)
theorem B8_of {W : World} {b : Nat} {q : S40} {t : TypeId} (h : W.heap[b]? = some (.cells (cells8 q).toArray t (0, 0))) : B8 b q W := by
  unfold B8
  refine ⟨?_, ?_, ?_, ?_, ?_, ?_, ?_, ?_⟩
  all_goals (rw [World.cell?]; simp [h, cells8])
set_option maxHeartbeats 8000000 in
set_option maxRecDepth 100000 in
theorem packs_true (A : Option Addr) (c : Nat) (l : List S44) (fan mx keep now id : Int) (w : World) (hC : k44.C w A l.length l) (hc : l.length ≤ c) (hl : l.length ≤ 1048576) :
    Calls Try.prog 5 #[.slice A l.length c, .agg #[.int .i64 fan, .int .i64 mx, .int .i64 keep], .int .i64 now, .int .i64 id] w fun e w' => e = .returned (.bool true) ∧ Below w.heap.size w w' := by
  obtain ⟨w0, hw0⟩ : ∃ w0, w0 = w.alloc (.cells #[.int .i64 fan, .int .i64 mx, .int .i64 keep] 33) := ⟨_, rfl⟩
  have b0 : Below w.heap.size w w0 := by rw [hw0]; exact below_alloc (Below.refl _ _) _
  have k0 : w0.heap[w.heap.size]? = some (.cells #[.int .i64 fan, .int .i64 mx, .int .i64 keep] 33 (0, 0)) := by rw [hw0]; exact blk_new _ _
  have hli := list_calls A c l w0 (Kd.C_below hC b0) hc hl
  have HC := Aside0.mk hC
  have HCC := Aside0.mk hc
  have HXL : Aside0 ((l.map cv).length = l.length) := ⟨List.length_map ..⟩
  have HL := Aside0.mk hl
  obtain ⟨n, hn⟩ : ∃ n, n = l.length := ⟨_, rfl⟩
  have HN := Aside0.mk hn
  rw [← hn] at hli ⊢
  have HB0 := Aside0.mk b0
  have HK0 := Aside0.mk k0
  obtain ⟨b5, hb5⟩ : ∃ b5, b5 = w.heap.size := ⟨_, rfl⟩
  rw [← hb5] at HK0
  clear hC hc hn b0 k0 hl
  go_enter Try.func5, Try.ntmps5
  go_upto_region 1 with fail
  rw [← hw0, ← hb5]
  clear hw0 hb5
  go_wp2_with fail
  refine hli.mono ?_
  rintro e w1 ⟨v, rfl, hr1, hb1⟩
  obtain ⟨X, cx, rfl, hcx⟩ := OwnRow.slice_ hr1.2
  have HX := Aside0.mk (Kd.R_reads' hr1).2.2
  have HCX := Aside0.mk hcx
  have HB1 := Aside0.mk (below_step HB0.out hb1)
  have HK1 := Aside0.mk (blk_below HK0.out hb1)
  rw [HXL.out, ← HN.out]
  have hjo := joined_calls X cx (l.map cv) id w1 HX.out HCX.out (by rw [HXL.out]; exact HL.out)
  rw [HXL.out, ← HN.out] at hjo
  clear hli hr1 hb1 hcx
  obtain ⟨q, hq⟩ : ∃ q, q = (joinB (l.map cv) id).1 := ⟨_, rfl⟩
  obtain ⟨bb, hbb⟩ : ∃ bb, bb = (joinB (l.map cv) id).2 := ⟨_, rfl⟩
  rw [← hq, ← hbb] at hjo
  go_wp2_with fail
  refine hjo.mono ?_
  rintro e w2 ⟨rfl, hb2⟩
  have HB12 := Aside0.mk hb2
  have HB2 := Aside0.mk (below_step HB1.out hb2)
  have HK2 := Aside0.mk (blk_below HK1.out hb2)
  have hrj := fun W (h : Below w.heap.size w W) => rjoined_calls A c l id W (Kd.C_below HC.out h) HCC.out HL.out
  rw [← hq, ← hbb, ← HN.out] at hrj
  have HRJ := Aside0.mk hrj
  clear hjo hb2 hrj hq hbb
  go_upto_region 3 with (first | ((with_reducible refine gate_store (t := 40) (p := 10) rfl ?_); refine put8 q rfl rfl rfl rfl rfl (blk_new _ _) rfl ?_; intro w3 hk3 hf3 hb3 hs3; have HK10 := Aside0.mk hk3; have HB23 := Aside0.mk (hb3 _ _ (Nat.le_refl _) (below_alloc (Below.refl w2.heap.size w2) _)); clear hk3 hf3 hb3 hs3))
  obtain ⟨b10, hb10⟩ : ∃ b10, b10 = w2.heap.size := ⟨_, rfl⟩
  rw [← hb10] at HK10 ⊢
  clear hb10
  have HB3 := Aside0.mk (below_step HB2.out HB23.out)
  have HB13 := Aside0.mk (below_step HB12.out HB23.out)
  have HK3 := Aside0.mk (blk_below HK2.out HB23.out)
  have hrj := HRJ.out w3 HB3.out
  go_wp2_with fail
  refine hrj.mono ?_
  rintro e w4 ⟨rfl, hb4⟩
  have HB4 := Aside0.mk (below_step HB3.out hb4)
  have HB14 := Aside0.mk (below_step HB13.out hb4)
  have HK4 := Aside0.mk (blk_below HK3.out hb4)
  have HK104 := Aside0.mk (blk_below HK10.out hb4)
  clear hrj hb4
  go_upto_region 4 with (first | ((with_reducible refine gate_store (t := 44) (p := 12) rfl ?_); refine put44 q rfl rfl rfl rfl rfl (blk_new _ _) rfl ?_; intro w5 hk5 hf5 hb5 hs5; have HK12 := Aside0.mk hk5; have HB45 := Aside0.mk (hb5 _ _ (Nat.le_refl _) (below_alloc (Below.refl w4.heap.size w4) _)); clear hk5 hf5 hb5 hs5))
  obtain ⟨b12, hb12⟩ : ∃ b12, b12 = w4.heap.size := ⟨_, rfl⟩
  rw [← hb12] at HK12 ⊢
  clear hb12
  have HB5 := Aside0.mk (below_step HB4.out HB45.out)
  have HB15 := Aside0.mk (below_step HB14.out HB45.out)
  have HK5 := Aside0.mk (blk_below HK4.out HB45.out)
  have HK105 := Aside0.mk (blk_below HK104.out HB45.out)
  have H10 := Aside0.mk (B8_of HK105.out)
  have H12 := Aside0.mk (B8_of HK12.out)
  have HLT : Aside0 (b5 < w5.heap.size ∧ b10 < w5.heap.size ∧ b12 < w5.heap.size) := ⟨blk_lt HK5.out, blk_lt HK105.out, blk_lt HK12.out⟩
  have HCE : Aside0 (w5.cell? ⟨b5, 0, none⟩ = some (.int .i64 fan) ∧ w5.cell? ⟨b5, 1, none⟩ = some (.int .i64 mx) ∧ w5.cell? ⟨b5, 2, none⟩ = some (.int .i64 keep)) := ⟨by
    have hk := HK5.out
    have f0 := blk_cell hk 0
    have f1 := blk_cell hk 1
    have f2 := blk_cell hk 2
    simp at f0 f1 f2
    exact ⟨f0, f1, f2⟩⟩
  have HKEEP : Aside0 (∀ W, Below w5.heap.size w5 W → (W.cell? ⟨b5, 0, none⟩ = some (.int .i64 fan) ∧ W.cell? ⟨b5, 1, none⟩ = some (.int .i64 mx) ∧ W.cell? ⟨b5, 2, none⟩ = some (.int .i64 keep)) ∧ B8 b10 q W ∧ B8 b12 q W) := ⟨fun W hb => by
    obtain ⟨h0, h1, h2⟩ := HLT.out
    have k5 := (hb.block b5 h0).trans HK5.out
    have k10 := (hb.block b10 h1).trans HK105.out
    have k12 := (hb.block b12 h2).trans HK12.out
    have f0 := blk_cell k5 0
    have f1 := blk_cell k5 1
    have f2 := blk_cell k5 2
    simp at f0 f1 f2
    have g := B8_of k10
    have g' := B8_of k12
    exact ⟨⟨f0, f1, f2⟩, g, g'⟩⟩
  have HB50 : Aside0 (Below w5.heap.size w5 w5.drew) := ⟨below_drew (Below.refl _ _)⟩
  refine start_ (S := fun W => (W.cell? ⟨b5, 0, none⟩ = some (.int .i64 fan) ∧ W.cell? ⟨b5, 1, none⟩ = some (.int .i64 mx) ∧ W.cell? ⟨b5, 2, none⟩ = some (.int .i64 keep)) ∧ B8 b10 q W ∧ B8 b12 q W) (ds := []) #[false, false, false, false, false, false, false, false, false, false, false, false, false, false, false, false, false, false, false, false, false, false, false, false, false, false, false, false, false, false] (by kernel_rfl) rfl rfl (HKEEP.out _ HB50.out) (fun hHeld => ?_)
  refine pure_ (i := 0) (N := some 28) #[true, false, false, false, false, false, false, false, false, false, false, false, false, false, false, false, false, false, false, false, false, false, false, false, false, false, false, false, false, false] rfl rfl (by kernel_rfl) (fun _ _ _ h => h) (.inl ⟨by rfl, by (intro w; go_simp <;> with_reducible rfl)⟩) rfl ?_
  (try simp only [Act.put, List.setIfInBounds_toArray, List.set_cons_zero, List.set_cons_succ])
  refine pure_ (i := 3) (N := some 31) #[true, false, false, true, false, false, false, false, false, false, false, false, false, false, false, false, false, false, false, false, false, false, false, false, false, false, false, false, false, false] rfl rfl (by kernel_rfl) (fun _ _ _ h => h) (.inl ⟨by rfl, by (intro w; go_simp <;> with_reducible rfl)⟩) rfl ?_
  (try simp only [Act.put, List.setIfInBounds_toArray, List.set_cons_zero, List.set_cons_succ])
  refine pure_ (i := 5) (N := some 33) #[true, false, false, true, false, true, false, false, false, false, false, false, false, false, false, false, false, false, false, false, false, false, false, false, false, false, false, false, false, false] rfl rfl (by kernel_rfl) (fun _ _ _ h => h) (.inl ⟨by rfl, by (intro w; go_simp <;> with_reducible rfl)⟩) rfl ?_
  (try simp only [Act.put, List.setIfInBounds_toArray, List.set_cons_zero, List.set_cons_succ])
  refine pure_ (i := 7) (N := some 35) #[true, false, false, true, false, true, false, true, false, false, false, false, false, false, false, false, false, false, false, false, false, false, false, false, false, false, false, false, false, false] rfl rfl (by kernel_rfl) (fun _ _ _ h => h) (.inl ⟨by rfl, by (intro w; go_simp <;> with_reducible rfl)⟩) rfl ?_
  (try simp only [Act.put, List.setIfInBounds_toArray, List.set_cons_zero, List.set_cons_succ])
  refine take_ (i := 1) (N := some 29) #[true, true, false, true, false, true, false, true, false, false, false, false, false, false, false, false, false, false, false, false, false, false, false, false, false, false, false, false, false, false] rfl rfl (by kernel_rfl) (fun _ _ _ h => h) (.inl ⟨by rfl, by (intro w hSw; (try dsimp only at hSw); unfold B8 at hSw; go_simp <;> with_reducible rfl)⟩) hHeld rfl ?_
  (try simp only [Act.put, List.setIfInBounds_toArray, List.set_cons_zero, List.set_cons_succ])
  refine take_ (i := 6) (N := some 34) #[true, true, false, true, false, true, true, true, false, false, false, false, false, false, false, false, false, false, false, false, false, false, false, false, false, false, false, false, false, false] rfl rfl (by kernel_rfl) (fun _ _ _ h => h) (.inl ⟨by rfl, by (intro w hSw; (try dsimp only at hSw); unfold B8 at hSw; go_simp <;> with_reducible rfl)⟩) hHeld rfl ?_
  (try simp only [Act.put, List.setIfInBounds_toArray, List.set_cons_zero, List.set_cons_succ])
  refine one_ (i := 2) (N := some 30) #[true, true, true, true, false, true, true, true, false, false, false, false, false, false, false, false, false, false, false, false, false, false, false, false, false, false, false, false, false, false] rfl rfl (by kernel_rfl) (by simp) (fun K hK => ?_)
  refine goes_ Try.func19 (by kernel_rfl) rfl #[.agg #[.int .i64 fan, .int .i64 mx, .int .i64 keep]] (by rfl) rfl rfl (by simp only [List.map_toArray, List.map_cons, List.map_nil]; rfl) ?_
  with_reducible refine (rules_calls fan mx keep _).mono ?_
  rintro e wn2 ⟨rfl, hb⟩
  refine ⟨_, rfl, ?_⟩
  have HB2' := Aside0.mk (below_step HB50.out hb)
  clear hb
  refine hK.out _ _ (HKEEP.out _ HB2'.out) (fun hHeld => ?_)
  clear hK K
  refine norm_ (a' := ?_) ?_ ?_
  rotate_left
  · show Act.put _ (some 30) _ = _
    simp only [Act.put, List.setIfInBounds_toArray, List.set_cons_zero, List.set_cons_succ]
    rfl
  refine one_ (i := 4) (N := some 32) #[true, true, true, true, true, true, true, true, false, false, false, false, false, false, false, false, false, false, false, false, false, false, false, false, false, false, false, false, false, false] rfl rfl (by kernel_rfl) (by simp) (fun K hK => ?_)
  have hq4 := pack_calls X cx (l.map cv) fan mx keep now _ (Kd.C_below HX.out (below_then HB15.out HB15.out.size HB2'.out)) HCX.out (by rw [HXL.out]; exact HL.out)
  rw [HXL.out, ← HN.out] at hq4
  refine goes_ Try.func18 (by kernel_rfl) rfl #[.slice X n cx, .agg #[.int .i64 fan, .int .i64 mx, .int .i64 keep], .int .i64 now] (by rfl) rfl rfl (by simp only [List.map_toArray, List.map_cons, List.map_nil]; rfl) ?_
  with_reducible refine (hq4).mono ?_
  rintro e wn4 ⟨v4, s4, rfl, hp4, hs4, hr4, hb⟩
  refine ⟨_, rfl, ?_⟩
  have HR4 := Aside0.mk hr4
  have HP4 := Aside0.mk (And.intro hp4 hs4)
  have HB4' := Aside0.mk (below_step HB2'.out hb)
  clear hq4 hb hr4 hp4 hs4
  refine hK.out _ _ (HKEEP.out _ HB4'.out) (fun hHeld => ?_)
  clear hK K
  refine norm_ (a' := ?_) ?_ ?_
  rotate_left
  · show Act.put _ (some 32) _ = _
    simp only [Act.put, List.setIfInBounds_toArray, List.set_cons_zero, List.set_cons_succ]
    rfl
  refine one_ (i := 8) (N := some 36) #[true, true, true, true, true, true, true, true, true, false, false, false, false, false, false, false, false, false, false, false, false, false, false, false, false, false, false, false, false, false] rfl rfl (by kernel_rfl) (by simp) (fun K hK => ?_)
  have hq8 := rpack_calls A c l fan mx keep now _ (Kd.C_below HC.out (below_then HB5.out HB5.out.size HB4'.out)) HCC.out HL.out
  rw [← HN.out] at hq8
  refine goes_ Try.func22 (by kernel_rfl) rfl #[.slice A n c, .agg #[.int .i64 fan, .int .i64 mx, .int .i64 keep], .int .i64 now] (by rfl) rfl rfl (by simp only [List.map_toArray, List.map_cons, List.map_nil]; rfl) ?_
  with_reducible refine (hq8).mono ?_
  rintro e wn8 ⟨v8, s8, rfl, hp8, hs8, hr8, hb⟩
  refine ⟨_, rfl, ?_⟩
  have hr4' := Kd.R_below HR4.out hb
  have hee : packR (l.map cv) s8 fan mx keep = packR (l.map cv) s4 fan mx keep := by
    by_cases hf : fineB (l.map cv) = true
    · have hnd : (((l.map cv).filter (fun x => !overB keep now x)).map (·.f0)).Nodup := ((List.filter_sublist (l := l.map cv)).map _).nodup (fine_iff.1 hf).2
      rw [srt_unique hnd hp8 HP4.out.1 hs8 HP4.out.2]
    · have hff : fineB (l.map cv) = false := by simpa using hf
      unfold packR
      rw [if_pos (.inr (.inr (.inr (.inr hff)))), if_pos (.inr (.inr (.inr (.inr hff))))]
  rw [hee] at hr8
  have hB8' : Below w5.heap.size w5 wn8 := below_step HB4'.out hb
  have HPLE : Aside0 ((packR (l.map cv) s4 fan mx keep).length ≤ 1048576) := ⟨by
    have h1 := HP4.out.1
    by_cases hf : fineB (l.map cv) = true
    · exact Nat.le_trans (pack_facts hf h1).2.2.2 (by rw [HXL.out]; exact HL.out)
    · have hff : fineB (l.map cv) = false := by simpa using hf
      unfold packR
      rw [if_pos (.inr (.inr (.inr (.inr hff))))]
      exact Nat.zero_le _⟩
  obtain ⟨p, hpp⟩ : ∃ p, p = packR (l.map cv) s4 fan mx keep := ⟨_, rfl⟩
  rw [← hpp] at hr4' hr8 HPLE
  obtain ⟨A4, c4, rfl, hc4⟩ := OwnRow.slice_ hr4'.2
  obtain ⟨A8, c8, rfl, hc8⟩ := OwnRow.slice_ hr8.2
  have HI4 := Aside0.mk (And.intro (Kd.R_reads' hr4').2.2 (And.intro hc4 (And.intro (Kd.R_reads' hr8).2.2 hc8)))
  have HB8' := Aside0.mk hB8'
  clear hq8 hb hr8 hp8 hs8 hr4' hee hB8' hpp hc4 hc8
  refine hK.out _ _ (HKEEP.out _ HB8'.out) (fun hHeld => ?_)
  clear hK K
  refine norm_ (a' := ?_) ?_ ?_
  rotate_left
  · show Act.put _ (some 36) _ = _
    simp only [Act.put, List.setIfInBounds_toArray, List.set_cons_zero, List.set_cons_succ]
    rfl
  refine one_ (i := 9) (N := some 37) #[true, true, true, true, true, true, true, true, true, true, false, false, false, false, false, false, false, false, false, false, false, false, false, false, false, false, false, false, false, false] rfl rfl (by kernel_rfl) (by simp) (fun K hK => ?_)
  refine goes_ Try.func10 (by kernel_rfl) rfl #[.slice A4 p.length c4, .slice A8 p.length c8] (by rfl) rfl rfl (by simp only [List.map_toArray, List.map_cons, List.map_nil]; rfl) ?_
  with_reducible refine (ints_calls A4 c4 A8 c8 p _ HI4.out.1 HI4.out.2.1 HI4.out.2.2.1 HI4.out.2.2.2 HPLE.out).mono ?_
  rintro e wn9 ⟨rfl, hb⟩
  refine ⟨_, rfl, ?_⟩
  have HB9' := Aside0.mk (below_step HB8'.out hb)
  clear hb
  refine hK.out _ _ (HKEEP.out _ HB9'.out) (fun hHeld => ?_)
  clear hK K
  refine norm_ (a' := ?_) ?_ ?_
  rotate_left
  · show Act.put _ (some 37) _ = _
    simp only [Act.put, List.setIfInBounds_toArray, List.set_cons_zero, List.set_cons_succ]
    rfl
  refine pure_ (i := 10) (N := some 38) #[true, true, true, true, true, true, true, true, true, true, true, false, false, false, false, false, false, false, false, false, false, false, false, false, false, false, false, false, false, false] rfl rfl (by kernel_rfl) (fun _ _ _ h => h) (.inl ⟨by rfl, by (intro w; go_simp <;> with_reducible rfl)⟩) rfl ?_
  (try simp only [Act.put, List.setIfInBounds_toArray, List.set_cons_zero, List.set_cons_succ])
  refine take_ (i := 11) (N := some 39) #[true, true, true, true, true, true, true, true, true, true, true, true, false, false, false, false, false, false, false, false, false, false, false, false, false, false, false, false, false, false] rfl rfl (by kernel_rfl) (fun _ _ _ h => h) (.inl ⟨by rfl, by (intro w hSw; (try dsimp only at hSw); unfold B8 at hSw; go_simp <;> with_reducible rfl)⟩) hHeld rfl ?_
  (try simp only [Act.put, List.setIfInBounds_toArray, List.set_cons_zero, List.set_cons_succ])
  refine take_ (i := 12) (N := some 40) #[true, true, true, true, true, true, true, true, true, true, true, true, true, false, false, false, false, false, false, false, false, false, false, false, false, false, false, false, false, false] rfl rfl (by kernel_rfl) (fun _ _ _ h => h) (.inl ⟨by rfl, by (intro w hSw; (try dsimp only at hSw); unfold B8 at hSw; go_simp <;> with_reducible rfl)⟩) hHeld rfl ?_
  (try simp only [Act.put, List.setIfInBounds_toArray, List.set_cons_zero, List.set_cons_succ])
  refine one_ (i := 13) (N := some 41) #[true, true, true, true, true, true, true, true, true, true, true, true, true, true, false, false, false, false, false, false, false, false, false, false, false, false, false, false, false, false] rfl rfl (by kernel_rfl) (by simp) (fun K hK => ?_)
  refine goes_ Try.func23 (by kernel_rfl) rfl #[.agg #[.int .i64 q.f0, .int .i64 q.f1, .int .i64 q.f2, .int .i64 q.f3, .int .i64 q.f4, .int .i64 q.f5, .int .i64 q.f6, .int .i64 q.f7]] (by rfl) rfl rfl (by simp only [List.map_toArray, List.map_cons, List.map_nil]; rfl) ?_
  with_reducible refine (own_calls q _).mono ?_
  rintro e wn13 ⟨rfl, hb⟩
  refine ⟨_, rfl, ?_⟩
  have HB13' := Aside0.mk (below_step HB9'.out hb)
  clear hb
  refine hK.out _ _ (HKEEP.out _ HB13'.out) (fun hHeld => ?_)
  clear hK K
  refine norm_ (a' := ?_) ?_ ?_
  rotate_left
  · show Act.put _ (some 41) _ = _
    simp only [Act.put, List.setIfInBounds_toArray, List.set_cons_zero, List.set_cons_succ]
    rfl
  refine pure_ (i := 14) (N := some 42) #[true, true, true, true, true, true, true, true, true, true, true, true, true, true, true, false, false, false, false, false, false, false, false, false, false, false, false, false, false, false] rfl rfl (by kernel_rfl) (fun _ _ _ h => h) (.inl ⟨by rfl, by (intro w; go_simp <;> with_reducible rfl)⟩) rfl ?_
  (try simp only [Act.put, List.setIfInBounds_toArray, List.set_cons_zero, List.set_cons_succ])
  refine pure_ (i := 15) (N := some 43) #[true, true, true, true, true, true, true, true, true, true, true, true, true, true, true, true, false, false, false, false, false, false, false, false, false, false, false, false, false, false] rfl rfl (by kernel_rfl) (fun _ _ _ h => h) (.inl ⟨by rfl, by (intro w; go_simp <;> with_reducible rfl)⟩) rfl ?_
  (try simp only [Act.put, List.setIfInBounds_toArray, List.set_cons_zero, List.set_cons_succ])
  refine pure_ (i := 16) (N := some 44) #[true, true, true, true, true, true, true, true, true, true, true, true, true, true, true, true, true, false, false, false, false, false, false, false, false, false, false, false, false, false] rfl rfl (by kernel_rfl) (fun _ _ _ h => h) (.inl ⟨by rfl, by (intro w; go_simp <;> with_reducible rfl)⟩) rfl ?_
  (try simp only [Act.put, List.setIfInBounds_toArray, List.set_cons_zero, List.set_cons_succ])
  refine pure_ (i := 17) (N := some 45) #[true, true, true, true, true, true, true, true, true, true, true, true, true, true, true, true, true, true, false, false, false, false, false, false, false, false, false, false, false, false] rfl rfl (by kernel_rfl) (fun _ _ _ h => h) (.inl ⟨by rfl, by (intro w; go_simp <;> with_reducible rfl)⟩) rfl ?_
  (try simp only [Act.put, List.setIfInBounds_toArray, List.set_cons_zero, List.set_cons_succ])
  refine pure_ (i := 18) (N := some 46) #[true, true, true, true, true, true, true, true, true, true, true, true, true, true, true, true, true, true, true, false, false, false, false, false, false, false, false, false, false, false] rfl rfl (by kernel_rfl) (fun _ _ _ h => h) (.inl ⟨by rfl, by (intro w; go_simp <;> with_reducible rfl)⟩) rfl ?_
  (try simp only [Act.put, List.setIfInBounds_toArray, List.set_cons_zero, List.set_cons_succ])
  refine pure_ (i := 19) (N := some 47) #[true, true, true, true, true, true, true, true, true, true, true, true, true, true, true, true, true, true, true, true, false, false, false, false, false, false, false, false, false, false] rfl rfl (by kernel_rfl) (fun _ _ _ h => h) (.inl ⟨by rfl, by (intro w; go_simp <;> with_reducible rfl)⟩) rfl ?_
  (try simp only [Act.put, List.setIfInBounds_toArray, List.set_cons_zero, List.set_cons_succ])
  refine pure_ (i := 20) (N := some 48) #[true, true, true, true, true, true, true, true, true, true, true, true, true, true, true, true, true, true, true, true, true, false, false, false, false, false, false, false, false, false] rfl rfl (by kernel_rfl) (fun _ _ _ h => h) (.inl ⟨by rfl, by (intro w; go_simp <;> with_reducible rfl)⟩) rfl ?_
  (try simp only [Act.put, List.setIfInBounds_toArray, List.set_cons_zero, List.set_cons_succ])
  refine pure_ (i := 21) (N := some 49) #[true, true, true, true, true, true, true, true, true, true, true, true, true, true, true, true, true, true, true, true, true, true, false, false, false, false, false, false, false, false] rfl rfl (by kernel_rfl) (fun _ _ _ h => h) (.inl ⟨by rfl, by (intro w; go_simp <;> with_reducible rfl)⟩) rfl ?_
  (try simp only [Act.put, List.setIfInBounds_toArray, List.set_cons_zero, List.set_cons_succ])
  refine pure_ (i := 22) (N := some 50) #[true, true, true, true, true, true, true, true, true, true, true, true, true, true, true, true, true, true, true, true, true, true, true, false, false, false, false, false, false, false] rfl rfl (by kernel_rfl) (fun _ _ _ h => h) (.inl ⟨by rfl, by (intro w; go_simp <;> with_reducible rfl)⟩) rfl ?_
  (try simp only [Act.put, List.setIfInBounds_toArray, List.set_cons_zero, List.set_cons_succ])
  refine pure_ (i := 23) (N := some 51) #[true, true, true, true, true, true, true, true, true, true, true, true, true, true, true, true, true, true, true, true, true, true, true, true, false, false, false, false, false, false] rfl rfl (by kernel_rfl) (fun _ _ _ h => h) (.inl ⟨by rfl, by (intro w; go_simp <;> with_reducible rfl)⟩) rfl ?_
  (try simp only [Act.put, List.setIfInBounds_toArray, List.set_cons_zero, List.set_cons_succ])
  refine one_ (i := 24) (N := some 52) #[true, true, true, true, true, true, true, true, true, true, true, true, true, true, true, true, true, true, true, true, true, true, true, true, true, false, false, false, false, false] rfl rfl (by kernel_rfl) (by simp) (fun K hK => ?_)
  have hq24 := same_calls X cx A c l _ (Kd.C_below HX.out (below_then HB15.out HB15.out.size HB13'.out)) HCX.out (Kd.C_below HC.out (below_then HB5.out HB5.out.size HB13'.out)) HCC.out HL.out
  rw [HXL.out, ← HN.out] at hq24
  refine goes_ Try.func15 (by kernel_rfl) rfl #[.slice X n cx, .slice A n c] (by rfl) rfl rfl (by simp only [List.map_toArray, List.map_cons, List.map_nil]; rfl) ?_
  with_reducible refine (hq24).mono ?_
  rintro e wn24 ⟨rfl, hb⟩
  refine ⟨_, rfl, ?_⟩
  have HB24' := Aside0.mk (below_step HB13'.out hb)
  clear hb hq24
  refine hK.out _ _ (HKEEP.out _ HB24'.out) (fun hHeld => ?_)
  clear hK K
  refine norm_ (a' := ?_) ?_ ?_
  rotate_left
  · show Act.put _ (some 52) _ = _
    simp only [Act.put, List.setIfInBounds_toArray, List.set_cons_zero, List.set_cons_succ]
    rfl
  refine pure_ (i := 25) (N := some 53) #[true, true, true, true, true, true, true, true, true, true, true, true, true, true, true, true, true, true, true, true, true, true, true, true, true, true, false, false, false, false] rfl rfl (by kernel_rfl) (fun _ _ _ h => h) (.inl ⟨by rfl, by (intro w; go_simp <;> with_reducible rfl)⟩) rfl ?_
  (try simp only [Act.put, List.setIfInBounds_toArray, List.set_cons_zero, List.set_cons_succ])
  refine pure_ (i := 26) (N := some 54) #[true, true, true, true, true, true, true, true, true, true, true, true, true, true, true, true, true, true, true, true, true, true, true, true, true, true, true, false, false, false] rfl rfl (by kernel_rfl) (fun _ _ _ h => h) (.inl ⟨by rfl, by (intro w; go_simp <;> with_reducible rfl)⟩) rfl ?_
  (try simp only [Act.put, List.setIfInBounds_toArray, List.set_cons_zero, List.set_cons_succ])
  refine one_ (i := 27) (N := some 55) #[true, true, true, true, true, true, true, true, true, true, true, true, true, true, true, true, true, true, true, true, true, true, true, true, true, true, true, true, false, false] rfl rfl (by kernel_rfl) (by simp) (fun K hK => ?_)
  refine goes_ Try.func16 (by kernel_rfl) rfl #[] (by rfl) rfl rfl (by simp only [List.map_toArray, List.map_cons, List.map_nil]) ?_
  with_reducible refine (knows_true _).mono ?_
  rintro e wn27 ⟨rfl, hb⟩
  refine ⟨_, rfl, ?_⟩
  have HBE := Aside0.mk (below_step HB24'.out hb)
  clear hb
  refine hK.out _ _ (HKEEP.out _ HBE.out) (fun hHeld => ?_)
  clear hK K
  refine norm_ (a' := ?_) ?_ ?_
  rotate_left
  · show Act.put _ (some 55) _ = _
    simp only [Act.put, List.setIfInBounds_toArray, List.set_cons_zero, List.set_cons_succ]
    rfl
  refine pure_ (i := 28) (N := some 56) #[true, true, true, true, true, true, true, true, true, true, true, true, true, true, true, true, true, true, true, true, true, true, true, true, true, true, true, true, true, false] rfl rfl (by kernel_rfl) (fun _ _ _ h => h) (.inl ⟨by rfl, by (intro w; go_simp <;> with_reducible rfl)⟩) rfl ?_
  (try simp only [Act.put, List.setIfInBounds_toArray, List.set_cons_zero, List.set_cons_succ])
  refine pure_ (i := 29) (N := some 8) #[true, true, true, true, true, true, true, true, true, true, true, true, true, true, true, true, true, true, true, true, true, true, true, true, true, true, true, true, true, true] rfl rfl (by kernel_rfl) (fun _ _ _ h => h) (.inl ⟨by rfl, by (intro w; go_simp <;> with_reducible rfl)⟩) rfl ?_
  (try simp only [Act.put, List.setIfInBounds_toArray, List.set_cons_zero, List.set_cons_succ])
  refine done_ (by kernel_rfl) ?_
  go_wp2
  go_ret
  exact ⟨rfl, HB5.out.trans (Rk.below_low HBE.out HB5.out.size)⟩
theorem packs_row (A : Option Addr) (c : Nat) (l : List S44) (fan mx keep now id : Int) (w : World) (hC : k44.C w A l.length l) (hc : l.length ≤ c) (hl : l.length ≤ 1048576)
    (_ : (Lit.int .i64 now).wf = true) (_ : (Lit.int .i64 id).wf = true) :
    Calls Try.prog 5 #[.slice A l.length c, .agg #[.int .i64 fan, .int .i64 mx, .int .i64 keep], .int .i64 now, .int .i64 id] w fun e w' => e = .returned (.bool true) ∧ Below w.heap.size w w' := packs_true A c l fan mx keep now id w hC hc hl
end Go.Proofs.Ytdohacnjngkkiaa.Pn
