/- The order in which Pack sorts blocks, walked; the sort itself. -/
import Derived.Test.YtdohacnjngkkiaaSo
namespace Go.Proofs.Ytdohacnjngkkiaa.Sm
set_option linter.unusedVariables false
set_option linter.unusedSimpArgs false
open Go.Proofs.Ytdohacnjngkkiaa.So Go.Proofs.Ytdohacnjngkkiaa.La Go.Shelf Go.RowKit Go.Sort Go.Proofs.YtdohacnjngkkiaaW.PrintWords Go.Proofs.YtdohacnjngkkiaaW.PrintLast Go.Proofs.YtdohacnjngkkiaaW.PrintMore Go.Proofs.Ytdohacnjngkkiaa.Fr Go.Proofs.Ytdohacnjngkkiaa.A Go.Proofs.Ytdohacnjngkkiaa.Pm Go.Proofs.Ytdohacnjngkkiaa.Pf Go.Proofs.Ytdohacnjngkkiaa.Pi Go.Proofs.Ytdohacnjngkkiaa.Pc Go.Proofs.Ytdohacnjngkkiaa.Pd
def cells8 (x : S40) : List Value := [.int .i64 x.f0, .int .i64 x.f1, .int .i64 x.f2, .int .i64 x.f3, .int .i64 x.f4, .int .i64 x.f5, .int .i64 x.f6, .int .i64 x.f7]
set_option maxHeartbeats 4000000 in
theorem order_is (x y : S40) (W : World) : Calls Try.prog 44 #[.agg (cells8 x).toArray, .agg (cells8 y).toArray] W fun e w' => e = .returned (.int .i64 (cfM x y)) ∧ ∃ q os', w' = grow (W.drewN q) os' := by
  obtain ⟨b1, hb1⟩ : ∃ b1 : Obj, b1 = .cells #[.int .i64 x.f0, .int .i64 x.f1, .int .i64 x.f2, .int .i64 x.f3, .int .i64 x.f4, .int .i64 x.f5, .int .i64 x.f6, .int .i64 x.f7] 40 := ⟨_, rfl⟩
  obtain ⟨b2, hb2⟩ : ∃ b2 : Obj, b2 = .cells #[.int .i64 y.f0, .int .i64 y.f1, .int .i64 y.f2, .int .i64 y.f3, .int .i64 y.f4, .int .i64 y.f5, .int .i64 y.f6, .int .i64 y.f7] 40 := ⟨_, rfl⟩
  obtain ⟨W2, hW2⟩ : ∃ W2, W2 = (W.alloc b1).alloc b2 := ⟨_, rfl⟩
  have k1 : (W.alloc b1).heap[W.heap.size]? = some b1 := blk_new _ _
  have k1' : W2.heap[W.heap.size]? = some (.cells #[.int .i64 x.f0, .int .i64 x.f1, .int .i64 x.f2, .int .i64 x.f3, .int .i64 x.f4, .int .i64 x.f5, .int .i64 x.f6, .int .i64 x.f7] 40 (0, 0)) := by
    rw [hW2, ← hb1]
    exact (Below.heap_alloc _ _ _ (blk_lt k1)).trans k1
  have k2' : W2.heap[W.heap.size + 1]? = some (.cells #[.int .i64 y.f0, .int .i64 y.f1, .int .i64 y.f2, .int .i64 y.f3, .int .i64 y.f4, .int .i64 y.f5, .int .i64 y.f6, .int .i64 y.f7] 40 (0, 0)) := by
    have h := blk_new (W.alloc b1) b2
    rw [World.size_alloc, ← hW2] at h
    rw [h, hb2]
  have HW2 := Aside0.mk hW2
  obtain ⟨p1, hp1⟩ : ∃ p1, p1 = W.heap.size := ⟨_, rfl⟩
  rw [← hp1] at k1' k2'
  have x0 := blk_cell k1' 0
  have x3 := blk_cell k1' 3
  have y0 := blk_cell k2' 0
  have y3 := blk_cell k2' 3
  simp at x0 x3 y0 y3
  have h3 := compare_is x.f3 y.f3 W2.drew
  have h0 := compare_is x.f0 y.f0 W2.drew
  obtain ⟨a, ha⟩ : ∃ a, a = cmpI x.f3 y.f3 := ⟨_, rfl⟩
  obtain ⟨b, hb⟩ : ∃ b, b = cmpI x.f0 y.f0 := ⟨_, rfl⟩
  rw [← ha] at h3
  rw [← hb] at h0
  have hor := or_is a b W2.heap.size (W2.alloc (.cells #[.int .i64 a, .int .i64 b] 3)).drew (blk_new W2 _)
  have HCF : Aside0 (cfM x y = orI a b) := ⟨by unfold cfM; rw [ha, hb]⟩
  unfold cells8
  simp only [List.toArray] 
  rw [hb1, hb2] at hW2
  clear k1 k1' k2' ha hb hb1 hb2
  go_enter Try.func44, Try.ntmps44
  go_upto_region 1 with fail
  rw [← hW2, ← hp1]
  clear hW2 hp1
  refine start_ (S := fun w => w.cell? ⟨p1, 3, none⟩ = some (.int .i64 x.f3) ∧ w.cell? ⟨p1 + 1, 3, none⟩ = some (.int .i64 y.f3) ∧ w.cell? ⟨p1, 0, none⟩ = some (.int .i64 x.f0) ∧ w.cell? ⟨p1 + 1, 0, none⟩ = some (.int .i64 y.f0)) (ds := []) #[false, false, false, false, false, false, false, false, false, false, false, false, false] (by kernel_rfl) rfl rfl ⟨x3, y3, x0, y0⟩ (fun hHeld => ?_)
  refine take_ (i := 0) (N := (some 5)) #[true, false, false, false, false, false, false, false, false, false, false, false, false] rfl rfl (by kernel_rfl) (fun _ _ _ h => h) (.inl ⟨by rfl, by (intro w hSw; (try dsimp only at hSw); go_simp <;> with_reducible rfl)⟩) hHeld rfl ?_
  (try simp only [Act.put, List.setIfInBounds_toArray, List.set_cons_zero, List.set_cons_succ])
  refine take_ (i := 1) (N := (some 6)) #[true, true, false, false, false, false, false, false, false, false, false, false, false] rfl rfl (by kernel_rfl) (fun _ _ _ h => h) (.inl ⟨by rfl, by (intro w hSw; (try dsimp only at hSw); go_simp <;> with_reducible rfl)⟩) hHeld rfl ?_
  (try simp only [Act.put, List.setIfInBounds_toArray, List.set_cons_zero, List.set_cons_succ])
  refine take_ (i := 2) (N := (some 7)) #[true, true, true, false, false, false, false, false, false, false, false, false, false] rfl rfl (by kernel_rfl) (fun _ _ _ h => h) (.inl ⟨by rfl, by (intro w hSw; (try dsimp only at hSw); go_simp <;> with_reducible rfl)⟩) hHeld rfl ?_
  (try simp only [Act.put, List.setIfInBounds_toArray, List.set_cons_zero, List.set_cons_succ])
  refine take_ (i := 3) (N := (some 8)) #[true, true, true, true, false, false, false, false, false, false, false, false, false] rfl rfl (by kernel_rfl) (fun _ _ _ h => h) (.inl ⟨by rfl, by (intro w hSw; (try dsimp only at hSw); go_simp <;> with_reducible rfl)⟩) hHeld rfl ?_
  (try simp only [Act.put, List.setIfInBounds_toArray, List.set_cons_zero, List.set_cons_succ])
  refine take_ (i := 5) (N := (some 10)) #[true, true, true, true, false, true, false, false, false, false, false, false, false] rfl rfl (by kernel_rfl) (fun _ _ _ h => h) (.inl ⟨by rfl, by (intro w hSw; (try dsimp only at hSw); go_simp <;> with_reducible rfl)⟩) hHeld rfl ?_
  (try simp only [Act.put, List.setIfInBounds_toArray, List.set_cons_zero, List.set_cons_succ])
  refine take_ (i := 6) (N := (some 11)) #[true, true, true, true, false, true, true, false, false, false, false, false, false] rfl rfl (by kernel_rfl) (fun _ _ _ h => h) (.inl ⟨by rfl, by (intro w hSw; (try dsimp only at hSw); go_simp <;> with_reducible rfl)⟩) hHeld rfl ?_
  (try simp only [Act.put, List.setIfInBounds_toArray, List.set_cons_zero, List.set_cons_succ])
  refine take_ (i := 7) (N := (some 12)) #[true, true, true, true, false, true, true, true, false, false, false, false, false] rfl rfl (by kernel_rfl) (fun _ _ _ h => h) (.inl ⟨by rfl, by (intro w hSw; (try dsimp only at hSw); go_simp <;> with_reducible rfl)⟩) hHeld rfl ?_
  (try simp only [Act.put, List.setIfInBounds_toArray, List.set_cons_zero, List.set_cons_succ])
  refine take_ (i := 8) (N := (some 13)) #[true, true, true, true, false, true, true, true, true, false, false, false, false] rfl rfl (by kernel_rfl) (fun _ _ _ h => h) (.inl ⟨by rfl, by (intro w hSw; (try dsimp only at hSw); go_simp <;> with_reducible rfl)⟩) hHeld rfl ?_
  (try simp only [Act.put, List.setIfInBounds_toArray, List.set_cons_zero, List.set_cons_succ])
  refine one_ (i := 4) (N := (some 9)) #[true, true, true, true, true, true, true, true, true, false, false, false, false] rfl rfl (by kernel_rfl) (by simp) (fun K hK => ?_)
  go_simp
  (with_reducible refine h3.mono ?_)
  rintro e wt ⟨rfl, hwt⟩
  rw [hwt]
  clear hwt wt
  refine hK.out _ _ hHeld (fun hHeld => ?_)
  clear hK K
  (try simp only [Act.put, List.setIfInBounds_toArray, List.set_cons_zero, List.set_cons_succ])
  refine one_ (i := 9) (N := (some 14)) #[true, true, true, true, true, true, true, true, true, true, false, false, false] rfl rfl (by kernel_rfl) (by simp) (fun K hK => ?_)
  go_simp
  (with_reducible refine h0.mono ?_)
  rintro e wt ⟨rfl, hwt⟩
  rw [hwt]
  clear hwt wt
  refine hK.out _ _ hHeld (fun hHeld => ?_)
  clear hK K
  (try simp only [Act.put, List.setIfInBounds_toArray, List.set_cons_zero, List.set_cons_succ])
  refine one_ (i := 10) (N := (some 15)) #[true, true, true, true, true, true, true, true, true, true, true, false, false] rfl rfl (by kernel_rfl) (by simp) (fun K hK => ?_)
  go_simp
  have z1 : (W2.drew.alloc (.cells #[.int .i64 a, .int .i64 b] 3)).cell? ⟨p1, 3, none⟩ = some (.int .i64 x.f3) := (World.cell?_alloc_some _ _ _ (by rw [hHeld.1]; rfl)).trans hHeld.1
  have z2 : (W2.drew.alloc (.cells #[.int .i64 a, .int .i64 b] 3)).cell? ⟨p1 + 1, 3, none⟩ = some (.int .i64 y.f3) := (World.cell?_alloc_some _ _ _ (by rw [hHeld.2.1]; rfl)).trans hHeld.2.1
  have z3 : (W2.drew.alloc (.cells #[.int .i64 a, .int .i64 b] 3)).cell? ⟨p1, 0, none⟩ = some (.int .i64 x.f0) := (World.cell?_alloc_some _ _ _ (by rw [hHeld.2.2.1]; rfl)).trans hHeld.2.2.1
  have z4 : (W2.drew.alloc (.cells #[.int .i64 a, .int .i64 b] 3)).cell? ⟨p1 + 1, 0, none⟩ = some (.int .i64 y.f0) := (World.cell?_alloc_some _ _ _ (by rw [hHeld.2.2.2]; rfl)).trans hHeld.2.2.2
  refine hK.out _ _ ⟨z1, z2, z3, z4⟩ (fun hHeld => ?_)
  clear hK K
  (try simp only [Act.put, List.setIfInBounds_toArray, List.set_cons_zero, List.set_cons_succ])
  refine one_ (i := 11) (N := (some 16)) #[true, true, true, true, true, true, true, true, true, true, true, true, false] rfl rfl (by kernel_rfl) (by simp) (fun K hK => ?_)
  go_simp
  (with_reducible refine hor.mono ?_)
  rintro e wt ⟨rfl, hwt⟩
  rw [hwt]
  clear hwt wt
  refine hK.out _ _ hHeld (fun hHeld => ?_)
  clear hK K
  (try simp only [Act.put, List.setIfInBounds_toArray, List.set_cons_zero, List.set_cons_succ])
  refine take_ (i := 12) (N := (some 4)) #[true, true, true, true, true, true, true, true, true, true, true, true, true] rfl rfl (by kernel_rfl) (fun _ _ _ h => h) (.inl ⟨by rfl, by (intro w hSw; (try dsimp only at hSw); go_simp <;> with_reducible rfl)⟩) hHeld rfl ?_
  (try simp only [Act.put, List.setIfInBounds_toArray, List.set_cons_zero, List.set_cons_succ])
  refine done_ (by kernel_rfl) ?_
  go_wp2
  go_ret
  refine ⟨by rw [HCF.out]; rfl, 1, #[b1, b2, .cells #[.int .i64 a, .int .i64 b] 3], ?_⟩
  rw [HW2.out]
  simp only [alloc_eq_grow, grow_grow]
  rfl
end Go.Proofs.Ytdohacnjngkkiaa.Sm
