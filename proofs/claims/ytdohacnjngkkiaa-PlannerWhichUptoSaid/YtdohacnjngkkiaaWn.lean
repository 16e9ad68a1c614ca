/- The law PlannerWhich, walked. -/
import Derived.Test.YtdohacnjngkkiaaLk
import Derived.Test.YtdohacnjngkkiaaWp
namespace Go.Proofs.Ytdohacnjngkkiaa.Wn
set_option linter.unusedVariables false
set_option linter.unusedSimpArgs false
open Go.Proofs.Ytdohacnjngkkiaa.Wp Go.Proofs.Ytdohacnjngkkiaa.Mv Go.Proofs.Ytdohacnjngkkiaa.Lk Go.Proofs.Ytdohacnjngkkiaa.Kn Go.Proofs.Ytdohacnjngkkiaa.Rl Go.Proofs.Ytdohacnjngkkiaa.Sm Go.Proofs.Ytdohacnjngkkiaa.Sr Go.Proofs.Ytdohacnjngkkiaa.Pk Go.Proofs.Ytdohacnjngkkiaa.Pq Go.Proofs.Ytdohacnjngkkiaa.Pw Go.Shelf Go.RowKit Go.Proofs.YtdohacnjngkkiaaW.PrintWords Go.Proofs.YtdohacnjngkkiaaW.PrintLast Go.Proofs.YtdohacnjngkkiaaW.PrintMore Go.Proofs.Ytdohacnjngkkiaa.Fr Go.Proofs.Ytdohacnjngkkiaa.A Go.Proofs.Ytdohacnjngkkiaa.Pm Go.Proofs.Ytdohacnjngkkiaa.Pf Go.Proofs.Ytdohacnjngkkiaa.Pi Go.Proofs.Ytdohacnjngkkiaa.Pc Go.Proofs.Ytdohacnjngkkiaa.Pd
theorem int_at {w : World} {A : Option Addr} {n : Nat} {l : List Int} (h : (Kd.int .i64).C w A n l) (i : Nat) (hi : i < l.length) : ∃ ad, A = some ad ∧ w.cell? (ad.add i) = some (.int .i64 l[i]) := by
  obtain ⟨h1, h2, h3⟩ := Kd.reads_of_C (d := (0 : Int)) h
  obtain ⟨ad, e, hc⟩ := h3 (by omega)
  refine ⟨ad, e, ?_⟩
  rw [hc i (by omega)]
  simp [List.getD_eq_getElem?_getD, List.getElem?_eq_getElem hi]
theorem rules_calls (fan mx keep : Int) (w : World) : Calls Try.prog 19 #[.agg #[.int .i64 fan, .int .i64 mx, .int .i64 keep]] w fun e w' => e = .returned (.agg #[.int .i64 fan, .int .i64 mx, .int .i64 keep]) ∧ Below w.heap.size w w' :=
  icehouselaw09_rules.calls fan mx keep fan mx keep w rfl
theorem below_step' {B : Nat} {w w1 w2 : World} (h1 : Below B w w1) (h2 : Below B w1 w2) (_ : B ≤ B) : Below B w w2 := h1.trans h2
theorem own_base' {e base : Nat} {w : World} {ok : Nat → Prop} {l : List Int} {A : Option Addr} {n c : Nat} (h : (Kd.int .i64).R e w base ok (.slice A n c) l) (hn : 0 < n) : ∀ ad, A = some ad → base ≤ ad.block := by
  intro ad e; subst e
  have hb := (Kd.R_bound h).1 ad.block rfl
  exact hb.2.1
theorem mem_snoc_upd (l : List Int) (j : Nat) (hj : j < l.length) (b : Bool) (F : Int → Bool) : upd (fun y => decide (y ∈ l.take j)) l[j] true = fun y => decide (y ∈ l.take (j + 1)) := by
  funext y
  rw [List.take_succ_eq_append_getElem hj]
  unfold upd
  by_cases hy : y = l[j]
  · rw [if_pos hy]; simp only [List.mem_append, List.mem_singleton, hy, or_true, decide_true]
  · rw [if_neg hy]; simp only [List.mem_append, List.mem_singleton, hy, or_false]
set_option maxHeartbeats 8000000 in
set_option maxRecDepth 100000 in
theorem which_true (A : Option Addr) (c : Nat) (l : List S44) (fr up fan mx keep now : Int) (w : World) (hC : k44.C w A l.length l) (hc : l.length ≤ c) (hl : l.length ≤ 1048576) :
    Calls Try.prog 4 #[.slice A l.length c, .int .i64 fr, .int .i64 up, .agg #[.int .i64 fan, .int .i64 mx, .int .i64 keep], .int .i64 now] w fun e w' => e = .returned (.bool true) ∧ Below w.heap.size w w' := by
  obtain ⟨w0, hw0⟩ : ∃ w0, w0 = w.alloc (.cells #[.int .i64 fan, .int .i64 mx, .int .i64 keep] 33) := ⟨_, rfl⟩
  have b0 : Below w.heap.size w w0 := by rw [hw0]; exact below_alloc (Below.refl _ _) _
  have k0 : w0.heap[w.heap.size]? = some (.cells #[.int .i64 fan, .int .i64 mx, .int .i64 keep] 33 (0, 0)) := by rw [hw0]; exact blk_new _ _
  have hli := list_calls A c l w0 (Kd.C_below hC b0) hc hl
  have HC := Aside0.mk hC
  have HCC := Aside0.mk hc
  have HXL : Aside0 ((l.map cv).length = l.length) := ⟨List.length_map ..⟩
  obtain ⟨xs, hxs⟩ : ∃ xs, xs = l.map cv := ⟨_, rfl⟩
  rw [← hxs] at hli HXL
  obtain ⟨n, hn⟩ : ∃ n, n = l.length := ⟨_, rfl⟩
  rw [← hn] at hli HXL hl ⊢
  have HL := Aside0.mk hl
  have HB0 := Aside0.mk b0
  have HK0 := Aside0.mk k0
  obtain ⟨b8, hb8⟩ : ∃ b8, b8 = w.heap.size := ⟨_, rfl⟩
  rw [← hb8] at HK0
  clear hC hc hn hxs b0 k0
  go_enter Try.func4, Try.ntmps4
  go_upto_region 1 with fail
  rw [← hw0, ← hb8]
  have HB8 : Aside0 (w.heap.size ≤ b8) := ⟨by rw [hb8]; exact Nat.le_refl _⟩
  clear hw0 hb8
  go_wp2_with fail
  refine hli.mono ?_
  rintro e w1 ⟨v, rfl, hr1, hb1⟩
  obtain ⟨X, cx, rfl, hcx⟩ := OwnRow.slice_ hr1.2
  have HX := Aside0.mk (Kd.R_reads' hr1).2.2
  have HCX := Aside0.mk hcx
  have HB1 := Aside0.mk (below_step HB0.out hb1)
  have HK1 := Aside0.mk (blk_below HK0.out hb1)
  rw [HXL.out]
  have hfi := fine_calls X cx xs w1 HX.out (by rw [HXL.out]; exact HL.out)
  rw [HXL.out] at hfi
  clear hli hr1 hb1 hcx
  obtain ⟨f, hf⟩ : ∃ f, f = fineB xs := ⟨_, rfl⟩
  rw [← hf] at hfi
  go_wp2_with fail
  refine hfi.mono ?_
  rintro e w2 ⟨rfl, hb2⟩
  have HB12 := Aside0.mk hb2
  have HB2 := Aside0.mk (below_step HB1.out hb2)
  have HK2 := Aside0.mk (blk_below HK1.out hb2)
  clear hfi hb2
  cases f with
  | false =>
    have HF := Aside0.mk hf
    clear hf
    have hno : ∀ p, idsB xs p = [] := fun p => by unfold idsB; rw [if_neg (by rw [← HF.out]; decide)]
    have hnp : ∀ s, packR xs s fan mx keep = [] := fun s => by unfold packR; rw [if_pos (.inr (.inr (.inr (.inr HF.out.symm))))]
    have HNO := Aside0.mk hno
    have HNP := Aside0.mk hnp
    clear hno hnp
    have hcells : w2.cell? ⟨b8, 0, none⟩ = some (.int .i64 fan) ∧ w2.cell? ⟨b8, 1, none⟩ = some (.int .i64 mx) ∧ w2.cell? ⟨b8, 2, none⟩ = some (.int .i64 keep) := by
      have hk := HK2.out
      have f0 := blk_cell hk 0
      have f1 := blk_cell hk 1
      have f2 := blk_cell hk 2
      simp at f0 f1 f2
      exact ⟨f0, f1, f2⟩
    have HCE := Aside0.mk hcells
    have HL8 : Aside0 (b8 < w2.heap.size) := ⟨blk_lt HK2.out⟩
    clear hcells
    go_upto_region 3 with fail
    have HB0' : Aside0 (Below w2.heap.size w2 w2.drew) := ⟨below_drew (Below.refl _ _)⟩
    refine start_ (S := fun W => W.cell? ⟨b8, 0, none⟩ = some (.int .i64 fan) ∧ W.cell? ⟨b8, 1, none⟩ = some (.int .i64 mx) ∧ W.cell? ⟨b8, 2, none⟩ = some (.int .i64 keep)) (ds := []) #[false, false, false, false, false, false, false, false, false, false, false, false, false, false, false, false, false, false, false, false, false, false, false, false] (by kernel_rfl) rfl rfl HCE.out (fun hHeld => ?_)
    refine pure_ (i := 0) (N := some 28) #[true, false, false, false, false, false, false, false, false, false, false, false, false, false, false, false, false, false, false, false, false, false, false, false] rfl rfl (by kernel_rfl) (fun _ _ _ h => h) (.inl ⟨by rfl, by (intro w; go_simp <;> with_reducible rfl)⟩) rfl ?_
    (try simp only [Act.put, List.setIfInBounds_toArray, List.set_cons_zero, List.set_cons_succ])
    refine pure_ (i := 1) (N := some 29) #[true, true, false, false, false, false, false, false, false, false, false, false, false, false, false, false, false, false, false, false, false, false, false, false] rfl rfl (by kernel_rfl) (fun _ _ _ h => h) (.inl ⟨by rfl, by (intro w; go_simp <;> with_reducible rfl)⟩) rfl ?_
    (try simp only [Act.put, List.setIfInBounds_toArray, List.set_cons_zero, List.set_cons_succ])
    refine pure_ (i := 2) (N := some 30) #[true, true, true, false, false, false, false, false, false, false, false, false, false, false, false, false, false, false, false, false, false, false, false, false] rfl rfl (by kernel_rfl) (fun _ _ _ h => h) (.inl ⟨by rfl, by (intro w; go_simp <;> with_reducible rfl)⟩) rfl ?_
    (try simp only [Act.put, List.setIfInBounds_toArray, List.set_cons_zero, List.set_cons_succ])
    refine pure_ (i := 5) (N := some 33) #[true, true, true, false, false, true, false, false, false, false, false, false, false, false, false, false, false, false, false, false, false, false, false, false] rfl rfl (by kernel_rfl) (fun _ _ _ h => h) (.inl ⟨by rfl, by (intro w; go_simp <;> with_reducible rfl)⟩) rfl ?_
    (try simp only [Act.put, List.setIfInBounds_toArray, List.set_cons_zero, List.set_cons_succ])
    refine pure_ (i := 6) (N := some 34) #[true, true, true, false, false, true, true, false, false, false, false, false, false, false, false, false, false, false, false, false, false, false, false, false] rfl rfl (by kernel_rfl) (fun _ _ _ h => h) (.inl ⟨by rfl, by (intro w; go_simp <;> with_reducible rfl)⟩) rfl ?_
    (try simp only [Act.put, List.setIfInBounds_toArray, List.set_cons_zero, List.set_cons_succ])
    refine pure_ (i := 8) (N := some 36) #[true, true, true, false, false, true, true, false, true, false, false, false, false, false, false, false, false, false, false, false, false, false, false, false] rfl rfl (by kernel_rfl) (fun _ _ _ h => h) (.inl ⟨by rfl, by (intro w; go_simp <;> with_reducible rfl)⟩) rfl ?_
    (try simp only [Act.put, List.setIfInBounds_toArray, List.set_cons_zero, List.set_cons_succ])
    refine pure_ (i := 12) (N := some 40) #[true, true, true, false, false, true, true, false, true, false, false, false, true, false, false, false, false, false, false, false, false, false, false, false] rfl rfl (by kernel_rfl) (fun _ _ _ h => h) (.inl ⟨by rfl, by (intro w; go_simp <;> with_reducible rfl)⟩) rfl ?_
    (try simp only [Act.put, List.setIfInBounds_toArray, List.set_cons_zero, List.set_cons_succ])
    refine pure_ (i := 15) (N := some 43) #[true, true, true, false, false, true, true, false, true, false, false, false, true, false, false, true, false, false, false, false, false, false, false, false] rfl rfl (by kernel_rfl) (fun _ _ _ h => h) (.inl ⟨by rfl, by (intro w; go_simp <;> with_reducible rfl)⟩) rfl ?_
    (try simp only [Act.put, List.setIfInBounds_toArray, List.set_cons_zero, List.set_cons_succ])
    refine take_ (i := 7) (N := some 35) #[true, true, true, false, false, true, true, true, true, false, false, false, true, false, false, true, false, false, false, false, false, false, false, false] rfl rfl (by kernel_rfl) (fun _ _ _ h => h) (.inl ⟨by rfl, by (intro w hSw; (try dsimp only at hSw); go_simp <;> with_reducible rfl)⟩) hHeld rfl ?_
    (try simp only [Act.put, List.setIfInBounds_toArray, List.set_cons_zero, List.set_cons_succ])
    refine take_ (i := 13) (N := some 41) #[true, true, true, false, false, true, true, true, true, false, false, false, true, true, false, true, false, false, false, false, false, false, false, false] rfl rfl (by kernel_rfl) (fun _ _ _ h => h) (.inl ⟨by rfl, by (intro w hSw; (try dsimp only at hSw); go_simp <;> with_reducible rfl)⟩) hHeld rfl ?_
    (try simp only [Act.put, List.setIfInBounds_toArray, List.set_cons_zero, List.set_cons_succ])
    refine one_ (i := 3) (N := some 31) #[true, true, true, true, false, true, true, true, true, false, false, false, true, true, false, true, false, false, false, false, false, false, false, false] rfl rfl (by kernel_rfl) (by simp) (fun K hK => ?_)
    have hq := Pi.look_calls X cx xs fr up _ (Kd.C_below HX.out (below_step HB12.out HB0'.out)) (by rw [HXL.out]; exact HL.out)
    rw [HXL.out, HNO.out] at hq
    refine goes_ Try.func11 (by kernel_rfl) rfl #[.slice X n cx, .int .i64 fr, .int .i64 up] (by rfl) rfl rfl (by simp only [List.map_toArray, List.map_cons, List.map_nil]; rfl) ?_
    with_reducible refine (hq).mono ?_
    rintro e wn3 ⟨vn, rfl, hr, hb⟩
    refine ⟨_, rfl, ?_⟩
    obtain ⟨An, cn, rfl, hcn⟩ := OwnRow.slice_ hr.2
    have HB3' := Aside0.mk (below_step HB0'.out hb)
    clear hq hr hb hcn
    (try simp only [show ([] : List Int).length = 0 from rfl])
    refine hK.out _ _ ⟨(HB3'.out.cell (p := ⟨b8, 0, none⟩) HL8.out).trans HCE.out.1, (HB3'.out.cell (p := ⟨b8, 1, none⟩) HL8.out).trans HCE.out.2.1, (HB3'.out.cell (p := ⟨b8, 2, none⟩) HL8.out).trans HCE.out.2.2⟩ (fun hHeld => ?_)
    clear hK K
    refine norm_ (a' := ?_) ?_ ?_
    rotate_left
    · show Act.put _ (some 31) _ = _
      simp only [Act.put, List.setIfInBounds_toArray, List.set_cons_zero, List.set_cons_succ]
      rfl
    refine pure_ (i := 4) (N := some 32) #[true, true, true, true, true, true, true, true, true, false, false, false, true, true, false, true, false, false, false, false, false, false, false, false] rfl rfl (by kernel_rfl) (fun _ _ _ h => h) (.inl ⟨by rfl, by (intro w; go_simp <;> with_reducible rfl)⟩) rfl ?_
    (try simp only [Act.put, List.setIfInBounds_toArray, List.set_cons_zero, List.set_cons_succ])
    refine one_ (i := 9) (N := some 37) #[true, true, true, true, true, true, true, true, true, true, false, false, true, true, false, true, false, false, false, false, false, false, false, false] rfl rfl (by kernel_rfl) (by simp) (fun K hK => ?_)
    have hq := Pi.over_calls X cx xs keep now _ (Kd.C_below HX.out (below_step HB12.out HB3'.out)) (by rw [HXL.out]; exact HL.out)
    rw [HXL.out, HNO.out] at hq
    refine goes_ Try.func13 (by kernel_rfl) rfl #[.slice X n cx, .int .i64 keep, .int .i64 now] (by rfl) rfl rfl (by simp only [List.map_toArray, List.map_cons, List.map_nil]; rfl) ?_
    with_reducible refine (hq).mono ?_
    rintro e wn9 ⟨vn, rfl, hr, hb⟩
    refine ⟨_, rfl, ?_⟩
    obtain ⟨An, cn, rfl, hcn⟩ := OwnRow.slice_ hr.2
    have HB9' := Aside0.mk (below_step HB3'.out hb)
    clear hq hr hb hcn
    (try simp only [show ([] : List Int).length = 0 from rfl])
    refine hK.out _ _ ⟨(HB9'.out.cell (p := ⟨b8, 0, none⟩) HL8.out).trans HCE.out.1, (HB9'.out.cell (p := ⟨b8, 1, none⟩) HL8.out).trans HCE.out.2.1, (HB9'.out.cell (p := ⟨b8, 2, none⟩) HL8.out).trans HCE.out.2.2⟩ (fun hHeld => ?_)
    clear hK K
    refine norm_ (a' := ?_) ?_ ?_
    rotate_left
    · show Act.put _ (some 37) _ = _
      simp only [Act.put, List.setIfInBounds_toArray, List.set_cons_zero, List.set_cons_succ]
      rfl
    refine pure_ (i := 10) (N := some 38) #[true, true, true, true, true, true, true, true, true, true, true, false, true, true, false, true, false, false, false, false, false, false, false, false] rfl rfl (by kernel_rfl) (fun _ _ _ h => h) (.inl ⟨by rfl, by (intro w; go_simp <;> with_reducible rfl)⟩) rfl ?_
    (try simp only [Act.put, List.setIfInBounds_toArray, List.set_cons_zero, List.set_cons_succ])
    refine pure_ (i := 11) (N := some 39) #[true, true, true, true, true, true, true, true, true, true, true, true, true, true, false, true, false, false, false, false, false, false, false, false] rfl rfl (by kernel_rfl) (fun _ _ _ h => h) (.inl ⟨by rfl, by (intro w; go_simp <;> with_reducible rfl)⟩) rfl ?_
    (try simp only [Act.put, List.setIfInBounds_toArray, List.set_cons_zero, List.set_cons_succ])
    refine one_ (i := 14) (N := some 42) #[true, true, true, true, true, true, true, true, true, true, true, true, true, true, true, true, false, false, false, false, false, false, false, false] rfl rfl (by kernel_rfl) (by simp) (fun K hK => ?_)
    refine goes_ Try.func19 (by kernel_rfl) rfl #[.agg #[.int .i64 fan, .int .i64 mx, .int .i64 keep]] (by rfl) rfl rfl (by simp only [List.map_toArray, List.map_cons, List.map_nil]; rfl) ?_
    with_reducible refine (rules_calls fan mx keep _).mono ?_
    rintro e wn14 ⟨rfl, hb⟩
    refine ⟨_, rfl, ?_⟩
    have HB14' := Aside0.mk (below_step HB9'.out hb)
    clear hb
    refine hK.out _ _ ⟨(HB14'.out.cell (p := ⟨b8, 0, none⟩) HL8.out).trans HCE.out.1, (HB14'.out.cell (p := ⟨b8, 1, none⟩) HL8.out).trans HCE.out.2.1, (HB14'.out.cell (p := ⟨b8, 2, none⟩) HL8.out).trans HCE.out.2.2⟩ (fun hHeld => ?_)
    clear hK K
    refine norm_ (a' := ?_) ?_ ?_
    rotate_left
    · show Act.put _ (some 42) _ = _
      simp only [Act.put, List.setIfInBounds_toArray, List.set_cons_zero, List.set_cons_succ]
      rfl
    refine one_ (i := 16) (N := some 44) #[true, true, true, true, true, true, true, true, true, true, true, true, true, true, true, true, true, false, false, false, false, false, false, false] rfl rfl (by kernel_rfl) (by simp) (fun K hK => ?_)
    have hq := pack_calls X cx xs fan mx keep now _ (Kd.C_below HX.out (below_step HB12.out HB14'.out)) HCX.out (by rw [HXL.out]; exact HL.out)
    rw [HXL.out] at hq
    refine goes_ Try.func18 (by kernel_rfl) rfl #[.slice X n cx, .agg #[.int .i64 fan, .int .i64 mx, .int .i64 keep], .int .i64 now] (by rfl) rfl rfl (by simp only [List.map_toArray, List.map_cons, List.map_nil]; rfl) ?_
    with_reducible refine (hq).mono ?_
    rintro e wn16 ⟨vn, s, rfl, hp, hs, hr, hb⟩
    refine ⟨_, rfl, ?_⟩
    rw [HNP.out] at hr
    obtain ⟨An, cn, rfl, hcn⟩ := OwnRow.slice_ hr.2
    have HB16' := Aside0.mk (below_step HB14'.out hb)
    clear hq hp hs hr hb hcn
    (try simp only [show ([] : List Int).length = 0 from rfl])
    refine hK.out _ _ ⟨(HB16'.out.cell (p := ⟨b8, 0, none⟩) HL8.out).trans HCE.out.1, (HB16'.out.cell (p := ⟨b8, 1, none⟩) HL8.out).trans HCE.out.2.1, (HB16'.out.cell (p := ⟨b8, 2, none⟩) HL8.out).trans HCE.out.2.2⟩ (fun hHeld => ?_)
    clear hK K
    refine norm_ (a' := ?_) ?_ ?_
    rotate_left
    · show Act.put _ (some 44) _ = _
      simp only [Act.put, List.setIfInBounds_toArray, List.set_cons_zero, List.set_cons_succ]
      rfl
    refine pure_ (i := 17) (N := some 45) #[true, true, true, true, true, true, true, true, true, true, true, true, true, true, true, true, true, true, false, false, false, false, false, false] rfl rfl (by kernel_rfl) (fun _ _ _ h => h) (.inl ⟨by rfl, by (intro w; go_simp <;> with_reducible rfl)⟩) rfl ?_
    (try simp only [Act.put, List.setIfInBounds_toArray, List.set_cons_zero, List.set_cons_succ])
    refine pure_ (i := 18) (N := some 46) #[true, true, true, true, true, true, true, true, true, true, true, true, true, true, true, true, true, true, true, false, false, false, false, false] rfl rfl (by kernel_rfl) (fun _ _ _ h => h) (.inl ⟨by rfl, by (intro w; go_simp <;> with_reducible rfl)⟩) rfl ?_
    (try simp only [Act.put, List.setIfInBounds_toArray, List.set_cons_zero, List.set_cons_succ])
    refine pure_ (i := 19) (N := some 47) #[true, true, true, true, true, true, true, true, true, true, true, true, true, true, true, true, true, true, true, true, false, false, false, false] rfl rfl (by kernel_rfl) (fun _ _ _ h => h) (.inl ⟨by rfl, by (intro w; go_simp <;> with_reducible rfl)⟩) rfl ?_
    (try simp only [Act.put, List.setIfInBounds_toArray, List.set_cons_zero, List.set_cons_succ])
    refine pure_ (i := 20) (N := some 48) #[true, true, true, true, true, true, true, true, true, true, true, true, true, true, true, true, true, true, true, true, true, false, false, false] rfl rfl (by kernel_rfl) (fun _ _ _ h => h) (.inl ⟨by rfl, by (intro w; go_simp <;> with_reducible rfl)⟩) rfl ?_
    (try simp only [Act.put, List.setIfInBounds_toArray, List.set_cons_zero, List.set_cons_succ])
    refine one_ (i := 21) (N := some 49) #[true, true, true, true, true, true, true, true, true, true, true, true, true, true, true, true, true, true, true, true, true, true, false, false] rfl rfl (by kernel_rfl) (by simp) (fun K hK => ?_)
    refine goes_ Try.func16 (by kernel_rfl) rfl #[] (by rfl) rfl rfl (by simp only [List.map_toArray, List.map_cons, List.map_nil]) ?_
    with_reducible refine (knows_true _).mono ?_
    rintro e wn21 ⟨rfl, hb⟩
    refine ⟨_, rfl, ?_⟩
    have HBE := Aside0.mk (below_step HB16'.out hb)
    clear hb
    refine hK.out _ _ ⟨(HBE.out.cell (p := ⟨b8, 0, none⟩) HL8.out).trans HCE.out.1, (HBE.out.cell (p := ⟨b8, 1, none⟩) HL8.out).trans HCE.out.2.1, (HBE.out.cell (p := ⟨b8, 2, none⟩) HL8.out).trans HCE.out.2.2⟩ (fun hHeld => ?_)
    clear hK K
    refine norm_ (a' := ?_) ?_ ?_
    rotate_left
    · show Act.put _ (some 49) _ = _
      simp only [Act.put, List.setIfInBounds_toArray, List.set_cons_zero, List.set_cons_succ]
      rfl
    refine pure_ (i := 22) (N := some 50) #[true, true, true, true, true, true, true, true, true, true, true, true, true, true, true, true, true, true, true, true, true, true, true, false] rfl rfl (by kernel_rfl) (fun _ _ _ h => h) (.inl ⟨by rfl, by (intro w; go_simp <;> with_reducible rfl)⟩) rfl ?_
    (try simp only [Act.put, List.setIfInBounds_toArray, List.set_cons_zero, List.set_cons_succ])
    refine pure_ (i := 23) (N := some 10) #[true, true, true, true, true, true, true, true, true, true, true, true, true, true, true, true, true, true, true, true, true, true, true, true] rfl rfl (by kernel_rfl) (fun _ _ _ h => h) (.inl ⟨by rfl, by (intro w; go_simp <;> with_reducible rfl)⟩) rfl ?_
    (try simp only [Act.put, List.setIfInBounds_toArray, List.set_cons_zero, List.set_cons_succ])
    refine done_ (by kernel_rfl) ?_
    go_wp2
    go_ret
    exact ⟨rfl, below_step HB2.out HBE.out⟩
  | true =>
    have HF := Aside0.mk hf.symm
    have HHF := Aside0.mk hf
    clear hf
    have HRT : Aside0 (∀ x ∈ xs, rightB x = true) := ⟨(fine_iff.1 HF.out).1⟩
    obtain ⟨mb, hmb⟩ : ∃ mb, mb = w2.heap.size := ⟨_, rfl⟩
    have hmm := @run_makeMap Try.prog
    have hmade := El.M.made (E := Eb) w2
    obtain ⟨w3, hw3⟩ : ∃ w3, w3 = w2.alloc (.map #[] 0) := ⟨_, rfl⟩
    rw [← hw3, ← hmb] at hmade
    have hb3 : Below w2.heap.size w2 w3 := by rw [hw3]; exact below_alloc (Below.refl _ _) _
    have HM3 := Aside0.mk hmade
    have HB13 := Aside0.mk (below_step HB12.out hb3)
    have HB3 := Aside0.mk (below_step HB2.out hb3)
    have HK3 := Aside0.mk (blk_below HK2.out hb3)
    have HMB : Aside0 (w1.heap.size ≤ mb ∧ w.heap.size ≤ mb ∧ b8 < mb ∧ mb < w3.heap.size) := ⟨by rw [hmb]; exact ⟨HB12.out.size, HB2.out.size, blk_lt HK2.out, by rw [hw3, World.size_alloc]; exact Nat.lt_succ_self _⟩⟩
    go_upto_region 5 with fail
    rw [← hw3, ← hmb]
    clear hw3 hmb hmade hb3
    have hlo := look_calls X cx xs fr up w3 (Kd.C_below HX.out HB13.out) (by rw [HXL.out]; exact HL.out)
    rw [HXL.out] at hlo
    go_wp2_with fail
    refine hlo.mono ?_
    rintro e w4 ⟨v4, rfl, hr4, hb4⟩
    obtain ⟨LI, hLI⟩ : ∃ LI, LI = idsB xs (lookB fr up) := ⟨_, rfl⟩
    rw [← hLI] at hr4
    have HLI := Aside0.mk hLI
    obtain ⟨A4, c4, rfl, hc4⟩ := OwnRow.slice_ hr4.2
    have HR4 := Aside0.mk (Kd.R_reads' hr4).2.2
    obtain ⟨n4, hn4⟩ : ∃ n4, n4 = LI.length := ⟨_, rfl⟩
    have HO4 : Aside0 (0 < n4 → ∀ ad, A4 = some ad → w3.heap.size ≤ ad.block) := ⟨fun hp => own_base' hr4 (by rw [← hn4]; exact hp)⟩
    have HC4 := Aside0.mk (show n4 ≤ c4 by rw [hn4]; exact hc4)
    have HN4 := Aside0.mk hn4
    have HW4 : Aside0 (∀ v ∈ LI, (Lit.int .i64 v).wf = true) := ⟨fun v hv => by rw [hLI] at hv; have := ids_wf hv; exact wf64 (by omega) (by omega)⟩
    have HLE4 : Aside0 (n4 ≤ 1048576) := ⟨by rw [hn4, hLI]; exact Nat.le_trans (ids_le _ _) (by rw [HXL.out]; exact HL.out)⟩
    have HM4 := Aside0.mk (HM3.out.below hb4)
    have HB4 := Aside0.mk (below_step HB3.out hb4)
    have HB14 := Aside0.mk (below_step HB13.out hb4)
    have HK4 := Aside0.mk (blk_below HK3.out hb4)
    rw [← hn4]
    rw [← hn4] at HR4
    have HMB4 : Aside0 (mb < w3.heap.size) := ⟨HMB.out.2.2.2⟩
    clear hlo hr4 hb4 hc4 hLI hn4
    go_wp2_with fail
    go_loopg [14] n4 (fun g s14 wx => ∃ j : Nat, s14 = .int .i64 (j : Int) ∧ Aside0 (j + g = n4) ∧ Aside0 (Fr (fun k => k = mb) w4 wx) ∧ Aside0 (Eb.M wx mb j (fun y => decide (y ∈ LI.take j))))
    case atStart => exact ⟨0, rfl, ⟨Nat.zero_add _⟩, ⟨Fr.refl _ _⟩, ⟨map_start HM4.out⟩⟩
    case round =>
    obtain ⟨j, rfl, HG, HFR, HMJ⟩ := hrel
    by_cases hj : (j : Int) < n4
    · have hjl : j < LI.length := by have := HN4.out; omega
      have hcr := HFR.out.C HR4.out (fun ad e hp => by have h1 := HO4.out hp ad e; have h2 := HMB4.out; omega)
      obtain ⟨ad, hA, hcell⟩ := int_at hcr j hjl
      subst hA
      obtain ⟨w6, hrun6, hm6, ht6⟩ := HMJ.out.store (HW4.out _ (List.getElem_mem hjl)) (by simp only [maxLen]; have := HLE4.out; omega) true
      have hup : (Instr.mapUpdate 38 (.map (some mb)) (.int .i64 LI[j]) (.bool true)).run Try.prog wr = .ok () w6 := hrun6
      rw [mem_snoc_upd LI j hjl true (fun _ => true)] at hm6
      have HM6 := Aside0.mk hm6
      have HFR6 := Aside0.mk (HFR.out.trans (turned_fr (S := fun k => k = mb) ht6 rfl))
      obtain ⟨y, hy⟩ : ∃ y, y = LI[j] := ⟨_, rfl⟩
      rw [← hy] at hcell hup
      have hbd := HLE4.out
      clear hcr hjl hrun6 hm6 ht6 hy
      go_wp2
      go_roundg (gk - 1)
      case measure => have h1 := HG.out; omega
      case rel => exact ⟨j + 1, by go_num, ⟨by have h1 := HG.out; omega⟩, HFR6, HM6⟩
    have hje : j = n4 := by have := HG.out; omega
    have HML4 : Aside0 (Eb.M wr mb n4 (fun y => decide (y ∈ LI))) := ⟨by have h := HMJ.out; rw [hje, List.take_of_length_le (by rw [HN4.out]; exact Nat.le_refl _)] at h; exact h⟩
    clear hje HMJ HG
    obtain ⟨wa, hwa⟩ : ∃ wa, wa = wr := ⟨_, rfl⟩
    rw [← hwa] at HFR HML4 ⊢
    clear hwa
    have HFA := Aside0.mk HFR.out
    have HFB4 : Aside0 (Below w1.heap.size w4 wa ∧ Below w.heap.size w4 wa ∧ wa.heap[b8]? = w4.heap[b8]?) := ⟨by
      have h1 := HFA.out.below (B := w1.heap.size) (by have := HMB.out; have := HB14.out.size; omega) (fun k hk => by have := HMB.out; omega)
      have h2 := HFA.out.below (B := w.heap.size) (by have := HMB.out; have := HB4.out.size; omega) (fun k hk => by have := HMB.out; omega)
      exact ⟨h1, h2, HFA.out.block b8 (blk_lt HK4.out) (fun e => by have := HMB.out; omega)⟩⟩
    have HB1A := Aside0.mk (HB14.out.trans HFB4.out.1)
    have HBA := Aside0.mk (HB4.out.trans HFB4.out.2.1)
    have HKA := Aside0.mk (HFB4.out.2.2.trans HK4.out)
    obtain ⟨mb2, hmb2⟩ : ∃ mb2, mb2 = wa.heap.size := ⟨_, rfl⟩
    have hmade := El.M.made (E := Eb) wa
    obtain ⟨w5, hw5⟩ : ∃ w5, w5 = wa.alloc (.map #[] 0) := ⟨_, rfl⟩
    rw [← hw5, ← hmb2] at hmade
    have hb5 : Below wa.heap.size wa w5 := by rw [hw5]; exact below_alloc (Below.refl _ _) _
    have HM5 := Aside0.mk hmade
    have HML5 := Aside0.mk (HML4.out.below hb5)
    have HB15 := Aside0.mk (below_step HB1A.out hb5)
    have HB5 := Aside0.mk (below_step HBA.out hb5)
    have HK5 := Aside0.mk (blk_below HKA.out hb5)
    have HMB2 : Aside0 (w1.heap.size ≤ mb2 ∧ w.heap.size ≤ mb2 ∧ b8 < mb2 ∧ mb2 < w5.heap.size ∧ mb < mb2) := ⟨by rw [hmb2]; exact ⟨HB1A.out.size, HBA.out.size, blk_lt HKA.out, by rw [hw5, World.size_alloc]; exact Nat.lt_succ_self _, HML4.out.lt⟩⟩
    go_upto_region 11 with fail
    rw [← hw5, ← hmb2]
    clear hw5 hmb2 hmade hb5 HFB4 HFA HFR HM3 HM4 HB13 HB3 HB14 HB4 HK3 HK4 HO4 HR4
    have hlo := over_calls X cx xs keep now w5 (Kd.C_below HX.out HB15.out) (by rw [HXL.out]; exact HL.out)
    rw [HXL.out] at hlo
    have hkk := HK5.out
    have f0 := blk_cell hkk 0
    have f1 := blk_cell hkk 1
    have f2 := blk_cell hkk 2
    simp at f0 f1 f2
    clear hkk
    go_wp2_with fail
    refine hlo.mono ?_
    rintro e w7 ⟨v7, rfl, hr7, hb7⟩
    obtain ⟨LO, hLO⟩ : ∃ LO, LO = idsB xs (overB keep now) := ⟨_, rfl⟩
    rw [← hLO] at hr7
    have HLO := Aside0.mk hLO
    obtain ⟨A7, c7, rfl, hc7⟩ := OwnRow.slice_ hr7.2
    have HR7 := Aside0.mk (Kd.R_reads' hr7).2.2
    obtain ⟨n7, hn7⟩ : ∃ n7, n7 = LO.length := ⟨_, rfl⟩
    have HO7 : Aside0 (0 < n7 → ∀ ad, A7 = some ad → w5.heap.size ≤ ad.block) := ⟨fun hp => own_base' hr7 (by rw [← hn7]; exact hp)⟩
    have HN7 := Aside0.mk hn7
    have HMB7 : Aside0 (mb2 < w5.heap.size) := ⟨HMB2.out.2.2.2.1⟩
    have HW7 : Aside0 (∀ v ∈ LO, (Lit.int .i64 v).wf = true) := ⟨fun v hv => by rw [hLO] at hv; have := ids_wf hv; exact wf64 (by omega) (by omega)⟩
    have HLE7 : Aside0 (n7 ≤ 1048576) := ⟨by rw [hn7, hLO]; exact Nat.le_trans (ids_le _ _) (by rw [HXL.out]; exact HL.out)⟩
    have HM7 := Aside0.mk (HM5.out.below hb7)
    have HMLX7 := Aside0.mk (HML5.out.below hb7)
    have HB7 := Aside0.mk (below_step HB5.out hb7)
    have HB17 := Aside0.mk (below_step HB15.out hb7)
    have HK7 := Aside0.mk (blk_below HK5.out hb7)
    rw [← hn7]
    rw [← hn7] at HR7
    clear hlo hr7 hb7 hc7 hLO hn7 f0 f1 f2
    go_wp2_with fail
    go_loopg [17] n7 (fun g s17 wx => ∃ j : Nat, s17 = .int .i64 (j : Int) ∧ Aside0 (j + g = n7) ∧ Aside0 (Fr (fun k => k = mb2) w7 wx) ∧ Aside0 (Eb.M wx mb2 j (fun y => decide (y ∈ LO.take j))))
    case atStart => exact ⟨0, rfl, ⟨Nat.zero_add _⟩, ⟨Fr.refl _ _⟩, ⟨map_start HM7.out⟩⟩
    case round =>
    obtain ⟨j, rfl, HG, HFR, HMJ⟩ := hrel
    by_cases hj : (j : Int) < n7
    · have hjl : j < LO.length := by have := HN7.out; omega
      have hcr := HFR.out.C HR7.out (fun ad e hp => by have h1 := HO7.out hp ad e; have h2 := HMB7.out; omega)
      obtain ⟨ad, hA, hcell⟩ := int_at hcr j hjl
      subst hA
      obtain ⟨w6, hrun6, hm6, ht6⟩ := HMJ.out.store (HW7.out _ (List.getElem_mem hjl)) (by simp only [maxLen]; have := HLE7.out; omega) true
      have hup : (Instr.mapUpdate 38 (.map (some mb2)) (.int .i64 LO[j]) (.bool true)).run Try.prog wr = .ok () w6 := hrun6
      rw [mem_snoc_upd LO j hjl true (fun _ => true)] at hm6
      have HM6 := Aside0.mk hm6
      have HFR6 := Aside0.mk (HFR.out.trans (turned_fr (S := fun k => k = mb2) ht6 rfl))
      obtain ⟨y, hy⟩ : ∃ y, y = LO[j] := ⟨_, rfl⟩
      rw [← hy] at hcell hup
      have hbd := HLE7.out
      clear hcr hjl hrun6 hm6 ht6 hy
      go_wp2
      go_roundg (gk - 1)
      case measure => have h1 := HG.out; omega
      case rel => exact ⟨j + 1, by go_num, ⟨by have h1 := HG.out; omega⟩, HFR6, HM6⟩
    have hje : j = n7 := by have := HG.out; omega
    have HML7 : Aside0 (Eb.M wr mb2 n7 (fun y => decide (y ∈ LO))) := ⟨by have h := HMJ.out; rw [hje, List.take_of_length_le (by rw [HN7.out]; exact Nat.le_refl _)] at h; exact h⟩
    clear hje HMJ HG
    obtain ⟨wc, hwc⟩ : ∃ wc, wc = wr := ⟨_, rfl⟩
    rw [← hwc] at HFR HML7 ⊢
    clear hwc
    have HFB7 : Aside0 (Below w1.heap.size w7 wc ∧ Below w.heap.size w7 wc ∧ wc.heap[b8]? = w7.heap[b8]?) := ⟨by
      have h1 := HFR.out.below (B := w1.heap.size) (by have := HMB2.out; have := HB17.out.size; omega) (fun k hk => by have := HMB2.out; omega)
      have h2 := HFR.out.below (B := w.heap.size) (by have := HMB2.out; have := HB7.out.size; omega) (fun k hk => by have := HMB2.out; omega)
      exact ⟨h1, h2, HFR.out.block b8 (blk_lt HK7.out) (fun e => by have := HMB2.out; omega)⟩⟩
    have HB1C := Aside0.mk (HB17.out.trans HFB7.out.1)
    have HBC := Aside0.mk (HB7.out.trans HFB7.out.2.1)
    have HKC := Aside0.mk (HFB7.out.2.2.trans HK7.out)
    have HMLC := Aside0.mk (HMLX7.out.fr HFR.out (fun e => by have := HMB2.out; omega))
    obtain ⟨mb3, hmb3⟩ : ∃ mb3, mb3 = wc.heap.size := ⟨_, rfl⟩
    have hmade := El.M.made (E := Eb) wc
    obtain ⟨w8, hw8⟩ : ∃ w8, w8 = wc.alloc (.map #[] 0) := ⟨_, rfl⟩
    rw [← hw8, ← hmb3] at hmade
    have hb8' : Below wc.heap.size wc w8 := by rw [hw8]; exact below_alloc (Below.refl _ _) _
    have HM8 := Aside0.mk hmade
    have HMA8 := Aside0.mk (HMLC.out.below hb8')
    have HMO8 := Aside0.mk (HML7.out.below hb8')
    have HB18 := Aside0.mk (below_step HB1C.out hb8')
    have HB8' := Aside0.mk (below_step HBC.out hb8')
    have HK8 := Aside0.mk (blk_below HKC.out hb8')
    have HMB3 : Aside0 (w1.heap.size ≤ mb3 ∧ w.heap.size ≤ mb3 ∧ b8 < mb3 ∧ mb3 < w8.heap.size ∧ mb < mb3 ∧ mb2 < mb3) := ⟨by rw [hmb3]; exact ⟨HB1C.out.size, HBC.out.size, blk_lt HKC.out, by rw [hw8, World.size_alloc]; exact Nat.lt_succ_self _, HMLC.out.lt, HML7.out.lt⟩⟩
    go_upto_region 17 with fail
    rw [← hw8, ← hmb3]
    clear hmm hw8 hmb3 hmade hb8' HFB7 HFR HB1C HBC HKC HB17 HB7 HK7 HM5 HM7 HML5 HB15 HB5 HK5 HO7 HR7
    go_wp2_with fail
    go_loopg [19] n (fun g s19 wx => ∃ j : Nat, s19 = .int .i64 (j : Int) ∧ Aside0 (j + g = n) ∧ Aside0 (Fr (fun k => k = mb3) w8 wx) ∧ Aside0 (Eb.M wx mb3 j (fun y => decide (y ∈ (xs.take j).map (·.f0)))))
    case atStart => exact ⟨0, rfl, ⟨Nat.zero_add _⟩, ⟨Fr.refl _ _⟩, ⟨map_start HM8.out⟩⟩
    case round =>
    obtain ⟨j, rfl, HG, HFR, HMJ⟩ := hrel
    have HBR : Aside0 (Below w1.heap.size w1 wr) := ⟨HB18.out.trans (HFR.out.below (by have := HMB3.out; have := HB18.out.size; omega) (fun k hk => by have := HMB3.out; omega))⟩
    by_cases hj : (j : Int) < n
    · have hjl : j < xs.length := by have := HXL.out; omega
      obtain ⟨ad, hA2, c0, c1, c2, c3, c4', c5, c6', c7'⟩ := el_at (Kd.C_below HX.out HBR.out) j hjl
      subst hA2
      have hLk := ids_mem HF.out (List.getElem_mem hjl) (lookB fr up)
      have hOv := ids_mem HF.out (List.getElem_mem hjl) (overB keep now)
      rw [← HLI.out] at hLk
      rw [← HLO.out] at hOv
      have hrj := right_wf (HRT.out xs[j] (List.getElem_mem hjl))
      have HTK : Aside0 (upd (fun y => decide (y ∈ (xs.take j).map (·.f0))) xs[j].f0 true = fun y => decide (y ∈ (xs.take (j + 1)).map (·.f0))) := ⟨by
        have h := mem_snoc_upd (xs.map (·.f0)) j (by rw [List.length_map]; exact hjl) true (fun _ => true)
        simp only [List.getElem_map, ← List.map_take] at h
        exact h⟩
      obtain ⟨x, hx⟩ : ∃ x, x = xs[j] := ⟨_, rfl⟩
      rw [← hx] at c0 c1 c2 c3 c4' c5 c6' c7' hLk hOv hrj HTK
      have hwf : (Lit.int .i64 x.f0).wf = true := wf64 (by omega) (by omega)
      have HWF := Aside0.mk hwf
      have HLK := Aside0.mk hLk
      have HOV := Aside0.mk hOv
      clear hx hjl hrj hLk hOv hwf
      go_upto_region 21 with fail
      obtain ⟨W1, hW1⟩ : ∃ W1, W1 = wr.alloc (.cells #[.int .i64 x.f0, .int .i64 x.f1, .int .i64 x.f2, .int .i64 x.f3, .int .i64 x.f4, .int .i64 x.f5, .int .i64 x.f6, .int .i64 x.f7] 40) := ⟨_, rfl⟩
      rw [← hW1]
      have hbk : W1.heap[wr.heap.size]? = some (.cells #[.int .i64 x.f0, .int .i64 x.f1, .int .i64 x.f2, .int .i64 x.f3, .int .i64 x.f4, .int .i64 x.f5, .int .i64 x.f6, .int .i64 x.f7] 40 (0, 0)) := by rw [hW1]; exact blk_new _ _
      have hbw : Below wr.heap.size wr W1 := by rw [hW1]; exact below_alloc (Below.refl _ _) _
      have HFW := Aside0.mk (HFR.out.trans' (Fr.of_below hbw (fun _ => False)) (fun k hk => hk.elim))
      have hmw := HMJ.out.below hbw
      obtain ⟨bx, hbx⟩ : ∃ bx, bx = wr.heap.size := ⟨_, rfl⟩
      have hbx3 : ¬ bx = mb3 := by have := HMJ.out.lt; omega
      rw [← hbx] at hbk ⊢
      have e00 := blk_cell hbk 0
      simp at e00
      obtain ⟨W2, hrun2, hm2, ht2⟩ := hmw.store HWF.out (by simp only [maxLen]; have := HL.out; omega) true
      have hup : (Instr.mapUpdate 38 (.map (some mb3)) (.int .i64 x.f0) (.bool true)).run Try.prog W1 = .ok () W2 := hrun2
      rw [HTK.out] at hm2
      have HM2 := Aside0.mk hm2
      have hf2 := turned_fr (S := fun k => k = mb3) ht2 rfl
      have HF2 := Aside0.mk (HFW.out.trans hf2)
      have hbk2 := (hf2.block bx (blk_lt hbk) hbx3).trans hbk
      have e0 := blk_cell hbk2 0
      have e1 := blk_cell hbk2 1
      have e2 := blk_cell hbk2 2
      simp at e0 e1 e2
      have hk82 := (HF2.out.block b8 (blk_lt HK8.out) (fun e => by have := HMB3.out; omega)).trans HK8.out
      have g2 := blk_cell hk82 2
      simp at g2
      have hlA := (HMA8.out.fr HF2.out (fun e => by have := HMB3.out; omega)).look HWF.out
      have hlO := (HMO8.out.fr HF2.out (fun e => by have := HMB3.out; omega)).look HWF.out
      clear hW1 hbw hmw hbx hbk hbx3 hrun2 hm2 hf2 ht2 hbk2 hk82 c0 c1 c2 c3 c4' c5 c6' c7'
      by_cases hO : overB keep now x = true
      · have hlo2 : (Instr.lookup 38 (.map (some mb2)) (.int .i64 x.f0) false).run Try.prog W2 = .ok (.bool true) W2 := by rw [decide_eq_true (HOV.out.2 hO)] at hlO; exact hlO
        have t1 : decide (now < x.f2) = false := by unfold overB at hO; simp at hO; simp; omega
        have t2 : decide (wrap64 (now - x.f2) < keep) = false := by unfold overB at hO; simp at hO; simp; omega
        clear hlO hO
        by_cases hL : lookB fr up x = true
        · have hla2 : (Instr.lookup 38 (.map (some mb)) (.int .i64 x.f0) false).run Try.prog W2 = .ok (.bool true) W2 := by rw [decide_eq_true (HLK.out.2 hL)] at hlA; exact hlA
          clear hlA hL
          go_wp2
          go_roundg (gk - 1)
          case measure => have h1 := HG.out; omega
          case rel => exact ⟨j + 1, by go_num, ⟨by have h1 := HG.out; omega⟩, HF2, HM2⟩
        · have hla2 : (Instr.lookup 38 (.map (some mb)) (.int .i64 x.f0) false).run Try.prog W2 = .ok (.bool false) W2 := by rw [decide_eq_false (fun h => hL (HLK.out.1 h))] at hlA; exact hlA
          by_cases hlu : x.f1 < up
          · have hlf : decide (fr ≤ x.f2) = false := by
              unfold lookB at hL
              simp only [Bool.and_eq_true, decide_eq_true_eq] at hL
              exact decide_eq_false (fun h => hL ⟨hlu, h⟩)
            have hlu' : decide (x.f1 < up) = true := decide_eq_true hlu
            clear hlA hL hlu
            go_wp2
            go_roundg (gk - 1)
            case measure => have h1 := HG.out; omega
            case rel => exact ⟨j + 1, by go_num, ⟨by have h1 := HG.out; omega⟩, HF2, HM2⟩
          · have hlu' : decide (x.f1 < up) = false := decide_eq_false hlu
            clear hlA hL hlu
            go_wp2
            go_roundg (gk - 1)
            case measure => have h1 := HG.out; omega
            case rel => exact ⟨j + 1, by go_num, ⟨by have h1 := HG.out; omega⟩, HF2, HM2⟩
      · have hlo2 : (Instr.lookup 38 (.map (some mb2)) (.int .i64 x.f0) false).run Try.prog W2 = .ok (.bool false) W2 := by rw [decide_eq_false (fun h => hO (HOV.out.1 h))] at hlO; exact hlO
        clear hlO hO
        by_cases hL : lookB fr up x = true
        · have hla2 : (Instr.lookup 38 (.map (some mb)) (.int .i64 x.f0) false).run Try.prog W2 = .ok (.bool true) W2 := by rw [decide_eq_true (HLK.out.2 hL)] at hlA; exact hlA
          clear hlA hL
          go_wp2
          go_roundg (gk - 1)
          case measure => have h1 := HG.out; omega
          case rel => exact ⟨j + 1, by go_num, ⟨by have h1 := HG.out; omega⟩, HF2, HM2⟩
        · have hla2 : (Instr.lookup 38 (.map (some mb)) (.int .i64 x.f0) false).run Try.prog W2 = .ok (.bool false) W2 := by rw [decide_eq_false (fun h => hL (HLK.out.1 h))] at hlA; exact hlA
          by_cases hlu : x.f1 < up
          · have hlf : decide (fr ≤ x.f2) = false := by
              unfold lookB at hL
              simp only [Bool.and_eq_true, decide_eq_true_eq] at hL
              exact decide_eq_false (fun h => hL ⟨hlu, h⟩)
            have hlu' : decide (x.f1 < up) = true := decide_eq_true hlu
            clear hlA hL hlu
            go_wp2
            go_roundg (gk - 1)
            case measure => have h1 := HG.out; omega
            case rel => exact ⟨j + 1, by go_num, ⟨by have h1 := HG.out; omega⟩, HF2, HM2⟩
          · have hlu' : decide (x.f1 < up) = false := decide_eq_false hlu
            clear hlA hL hlu
            go_wp2
            go_roundg (gk - 1)
            case measure => have h1 := HG.out; omega
            case rel => exact ⟨j + 1, by go_num, ⟨by have h1 := HG.out; omega⟩, HF2, HM2⟩
    · have hje : j = n := by have := HG.out; omega
      have HMT : Aside0 (Eb.M wr mb3 n (fun y => decide (y ∈ xs.map (·.f0)))) := ⟨by have h := HMJ.out; rw [hje, List.take_of_length_le (by rw [HXL.out]; exact Nat.le_refl _)] at h; exact h⟩
      have HBE0 : Aside0 (Below w.heap.size w wr) := ⟨HB8'.out.trans (HFR.out.below (by have := HMB3.out; have := HB8'.out.size; omega) (fun k hk => by have := HMB3.out; omega))⟩
      obtain ⟨wd, hwd⟩ : ∃ wd, wd = wr := ⟨_, rfl⟩
      rw [← hwd] at HFR HMT HBR HBE0 ⊢
      have HKD := Aside0.mk ((HFR.out.block b8 (blk_lt HK8.out) (fun e => by have := HMB3.out; omega)).trans HK8.out)
      have HMOD := Aside0.mk (HMO8.out.fr HFR.out (fun e => by have := HMB3.out; omega))
      clear hje HMJ HG hwd HFR
      have hkk := HKD.out
      have f0 := blk_cell hkk 0
      have f1 := blk_cell hkk 1
      have f2 := blk_cell hkk 2
      simp at f0 f1 f2
      clear hkk
      have hru := rules_calls fan mx keep wd
      go_wp2_with fail
      refine hru.mono ?_
      rintro e w9 ⟨rfl, hb9⟩
      have HBR9 := Aside0.mk (below_step HBR.out hb9)
      have HBE9 := Aside0.mk (below_step HBE0.out hb9)
      have HKD9 := Aside0.mk (blk_below HKD.out hb9)
      have HMO9 := Aside0.mk (HMOD.out.below hb9)
      have HMT9 := Aside0.mk (HMT.out.below hb9)
      clear hru hb9 f0 f1 f2
      have hpk := pack_calls X cx xs fan mx keep now w9 (Kd.C_below HX.out HBR9.out) HCX.out (by rw [HXL.out]; exact HL.out)
      rw [HXL.out] at hpk
      go_wp2_with fail
      refine hpk.mono ?_
      rintro e w10 ⟨v10, s, rfl, hp10, hs10, hr10, hb10⟩
      have hfacts := pack_facts (fan := fan) (mx := mx) HF.out hp10
      obtain ⟨p, hp⟩ : ∃ p, p = packR xs s fan mx keep := ⟨_, rfl⟩
      rw [← hp] at hr10 hfacts
      have HPF := Aside0.mk hfacts
      obtain ⟨A10, c10, rfl, hc10⟩ := OwnRow.slice_ hr10.2
      have HR10 := Aside0.mk (Kd.R_reads' hr10).2.2
      obtain ⟨np, hnp⟩ : ∃ np, np = p.length := ⟨_, rfl⟩
      have HO10 : Aside0 (0 < np → ∀ ad, A10 = some ad → w9.heap.size ≤ ad.block) := ⟨fun h => own_base' hr10 (by rw [← hnp]; exact h)⟩
      have HNP := Aside0.mk hnp
      have HLP : Aside0 (np ≤ 1048576) := ⟨by rw [hnp]; exact Nat.le_trans hfacts.2.2.2 (by rw [HXL.out]; exact HL.out)⟩
      have HBR10 := Aside0.mk (below_step HBR9.out hb10)
      have HBE10 := Aside0.mk (below_step HBE9.out hb10)
      have HKD10 := Aside0.mk (blk_below HKD9.out hb10)
      have HMO10 := Aside0.mk (HMO9.out.below hb10)
      have HMT10 := Aside0.mk (HMT9.out.below hb10)
      have HMB9 := Aside0.mk HMT9.out.lt
      rw [← hnp]
      rw [← hnp] at HR10
      clear hpk hp10 hs10 hr10 hb10 hfacts hp hc10 hnp s
      go_wp2_with fail
      go_loopg [22] np (fun g s22 wx => ∃ j : Nat, s22 = .int .i64 (j : Int) ∧ Aside0 (j + g = np) ∧ Aside0 (Fr (fun k => k = mb3) w10 wx) ∧ Aside0 (Eb.M wx mb3 (n + j) (fun y => decide (y ∈ xs.map (·.f0) ∧ y ∉ p.take j))))
      case atStart => exact ⟨0, rfl, ⟨Nat.zero_add _⟩, ⟨Fr.refl _ _⟩, ⟨by simpa using HMT10.out⟩⟩
      case round =>
      obtain ⟨j, rfl, HG, HFR, HMJ⟩ := hrel
      have HKR := Aside0.mk ((HFR.out.block b8 (blk_lt HKD10.out) (fun e => by have := HMB3.out; omega)).trans HKD10.out)
      have HBER : Aside0 (Below w.heap.size w wr) := ⟨HBE10.out.trans (HFR.out.below HBE10.out.size (fun k hk => by have := HMB3.out; omega))⟩
      by_cases hj : (j : Int) < np
      · have hjl : j < p.length := by have := HNP.out; omega
        have hcr := HFR.out.C HR10.out (fun ad e hp => by have h1 := HO10.out hp ad e; have h2 := HMB9.out; omega)
        obtain ⟨ad, hA, hcell⟩ := int_at hcr j hjl
        subst hA
        obtain ⟨yy, hy1, hy2, hy3⟩ := HPF.out.2.1 p[j] (List.getElem_mem hjl)
        have hyw := right_wf (HRT.out yy hy1)
        have hwf : (Lit.int .i64 p[j]).wf = true := wf64 (by omega) (by omega)
        have hin : p[j] ∈ xs.map (·.f0) := List.mem_map.2 ⟨yy, hy1, hy2⟩
        have hnt : p[j] ∉ p.take j := fun hm => by
          have hs : p = p.take j ++ p[j] :: p.drop (j + 1) := by rw [← List.drop_eq_getElem_cons hjl, List.take_append_drop]
          have hnd := HPF.out.1
          rw [hs, List.nodup_append] at hnd
          exact hnd.2.2 _ hm _ (List.mem_cons_self) rfl
        have hno : p[j] ∉ LO := fun hm => by
          rw [HLO.out, ← hy2] at hm
          rw [(ids_mem HF.out hy1 (overB keep now)).1 hm] at hy3
          cases hy3
        have hl3 := HMJ.out.look hwf
        rw [decide_eq_true (show p[j] ∈ xs.map (·.f0) ∧ p[j] ∉ p.take j from ⟨hin, hnt⟩)] at hl3
        replace hl3 : (Instr.lookup 38 (.map (some mb3)) (.int .i64 p[j]) false).run Try.prog wr = .ok (.bool true) wr := hl3
        have hl2 := (HMO10.out.fr HFR.out (fun e => by have := HMB3.out; omega)).look hwf
        rw [decide_eq_false hno] at hl2
        replace hl2 : (Instr.lookup 38 (.map (some mb2)) (.int .i64 p[j]) false).run Try.prog wr = .ok (.bool false) wr := hl2
        obtain ⟨w11, hrun, hm11, ht11⟩ := HMJ.out.store hwf (by simp only [maxLen]; have := HL.out; have := HLP.out; omega) false
        have hup : (Instr.mapUpdate 38 (.map (some mb3)) (.int .i64 p[j]) (.bool false)).run Try.prog wr = .ok () w11 := hrun
        have HM11 : Aside0 (Eb.M w11 mb3 (n + (j + 1)) (fun y => decide (y ∈ xs.map (·.f0) ∧ y ∉ p.take (j + 1)))) := ⟨by
          have e : (fun y => decide (y ∈ xs.map (·.f0) ∧ y ∉ p.take (j + 1))) = upd (fun y => decide (y ∈ xs.map (·.f0) ∧ y ∉ p.take j)) p[j] false := by
            funext y
            rw [List.take_succ_eq_append_getElem hjl]
            unfold upd
            by_cases hy : y = p[j]
            · rw [if_pos hy]; simp only [List.mem_append, List.mem_singleton, hy, or_true, not_true_eq_false, and_false, decide_false]
            · rw [if_neg hy]; simp only [List.mem_append, List.mem_singleton, hy, or_false]
          rw [e]
          exact hm11⟩
        have HFR11 := Aside0.mk (HFR.out.trans (turned_fr (S := fun k => k = mb3) ht11 rfl))
        obtain ⟨y, hy⟩ : ∃ y, y = p[j] := ⟨_, rfl⟩
        rw [← hy] at hcell hl3 hl2 hup
        have hbd := HLP.out
        clear hcr hjl hy1 hy2 hy3 hyw hwf hin hnt hno hrun hm11 ht11 hy
        go_wp2
        go_roundg (gk - 1)
        case measure => have h1 := HG.out; omega
        case rel => exact ⟨j + 1, by go_num, ⟨by have h1 := HG.out; omega⟩, HFR11, HM11⟩
      · clear HMJ HG HFR
        have hkk := HKR.out
        have f0 := blk_cell hkk 0
        have f1 := blk_cell hkk 1
        have f2 := blk_cell hkk 2
        simp at f0 f1 f2
        clear hkk
        have hkn := knows_true wr
        by_cases hz : np = 0
        · have hz1 : ((np : Int) == 0) = true := by simp [hz]
          have hz2 : (np == 0) = true := by simp [hz]
          clear hz
          go_wp2_with fail
          refine hkn.mono ?_
          rintro e w12 ⟨rfl, hb12⟩
          have HBF := Aside0.mk (below_step HBER.out hb12)
          clear hkn hb12
          go_wp2
          go_ret
          exact ⟨rfl, HBF.out⟩
        · have hz1 : ((np : Int) == 0) = false := beq_eq_false_iff_ne.mpr (by omega)
          have hz2 : ((np : Int) == fan) = true := by
            rcases HPF.out.2.2.1 with h | h
            · exact absurd (by rw [HNP.out, h]; rfl) hz
            · rw [HNP.out, h]; simp
          clear hz
          go_wp2_with fail
          refine hkn.mono ?_
          rintro e w12 ⟨rfl, hb12⟩
          have HBF := Aside0.mk (below_step HBER.out hb12)
          clear hkn hb12
          go_wp2
          go_ret
          exact ⟨rfl, HBF.out⟩
theorem which_row (A : Option Addr) (c : Nat) (l : List S44) (fr up fan mx keep now : Int) (w : World) (hC : k44.C w A l.length l) (hc : l.length ≤ c) (hl : l.length ≤ 1048576)
    (_ : (Lit.int .i64 fr).wf = true) (_ : (Lit.int .i64 up).wf = true) (_ : (Lit.int .i64 now).wf = true) :
    Calls Try.prog 4 #[.slice A l.length c, .int .i64 fr, .int .i64 up, .agg #[.int .i64 fan, .int .i64 mx, .int .i64 keep], .int .i64 now] w fun e w' => e = .returned (.bool true) ∧ Below w.heap.size w w' := which_true A c l fr up fan mx keep now w hC hc hl
end Go.Proofs.Ytdohacnjngkkiaa.Wn
