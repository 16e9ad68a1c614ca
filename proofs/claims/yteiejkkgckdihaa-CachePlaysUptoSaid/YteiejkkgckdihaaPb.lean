/- Put of too much; Get of what is not there. -/
import Derived.Test.YteiejkkgckdihaaPu
import Derived.Test.YteiejkkgckdihaaGe
import Derived.Test.YteiejkkgckdihaaCl
namespace Go.Proofs.Yteiejkkgckdihaa.Pb
set_option linter.unusedVariables false
open Go.RowKit Go.Proofs.YteiejkkgckdihaaW.PrintWords Go.Proofs.YteiejkkgckdihaaW.PrintLast Go.Proofs.YteiejkkgckdihaaW.PrintMore Go.Proofs.Yteiejkkgckdihaa.Fr Go.Proofs.Yteiejkkgckdihaa.Rg Go.Proofs.Yteiejkkgckdihaa.Rk Go.Proofs.Yteiejkkgckdihaa.Mp Go.Proofs.Yteiejkkgckdihaa.Ca Go.Proofs.Yteiejkkgckdihaa.Dr Go.Proofs.Yteiejkkgckdihaa.Tk Go.Proofs.Yteiejkkgckdihaa.Dw Go.Proofs.Yteiejkkgckdihaa.Cl Go.Proofs.Yteiejkkgckdihaa.Pe Go.Proofs.Yteiejkkgckdihaa.Pu Go.Proofs.Yteiejkkgckdihaa.Pk Go.Proofs.Yteiejkkgckdihaa.Tu
set_option maxHeartbeats 4000000 in
theorem put_big (c m r nn : Nat) (lim hi mi : Int) (L : List Ent) (s : ByteArray) (A : Option Addr) (cc : Nat) (xs : List Int) (w : World) (h : CL w c m r nn lim hi mi L) (hs : s.size + xs.length ≤ 9223372036854775807) (hbig : lim < (s.size : Int) + xs.length)
    (hC : (Kd.int .u8).C w A xs.length xs) (hc : xs.length ≤ cc) (hl : xs.length ≤ 140737488351232) :
    Calls Try.prog 10 #[PT c, .string s, .slice A xs.length cc] w fun e w' => e = .returned (.int .i64 6) ∧ Below w.heap.size w w' := by
  have hcl := clone_any A cc xs w hC hc hl
  obtain ⟨n, hn⟩ : ∃ n, n = xs.length := ⟨_, rfl⟩
  rw [← hn] at hc hl hcl hC hs hbig ⊢
  have hbd : decide (lim < (s.size : Int) + n) = true := by simp only [decide_eq_true_eq]; exact hbig
  have HN := Aside0.mk hn
  have HL := Aside0.mk h
  clear hn h
  go_enter Try.func10, Try.ntmps10
  go_wp2_with fail
  refine hcl.mono ?_
  rintro e w1 ⟨u, rfl, hr, hb⟩
  obtain ⟨A1, c1, rfl, hc1, hC1⟩ := Kd.R_reads hr
  rw [← HN.out] at hC1 hc1 ⊢
  have h1 := HL.out.below hb
  obtain ⟨w2, hw2⟩ : ∃ w2, w2 = w1.alloc (.cells #[.string s, .slice A1 n c1] 57) := ⟨_, rfl⟩
  obtain ⟨bx, hbx⟩ : ∃ bx, bx = w1.heap.size := ⟨_, rfl⟩
  have h2 : CL w2 c m r nn lim hi mi L := hw2 ▸ h1.below (below_alloc (Below.refl _ _) _)
  have hx : w2.heap[bx]? = some (.cells #[.string s, .slice A1 n c1] 57 (0, 0)) := by rw [hw2, hbx]; exact blk_new _ _
  have hno := none_no c m r lim _ hi mi w2 h2.blk
  have x0 := blk_cell hx 0
  have x1 := blk_cell hx 1
  have cl := blk_cell h2.blk 0
  simp at x0 x1 cl
  have hfarA := R_far hr rfl
  have HFA := Aside0.mk (show ∀ ad, A1 = some ad → 0 < xs.length → ¬ Own c m r L ad.block from fun ad e _ ho => by
    have := hfarA ad e
    have := HL.out.own_lt ho
    omega)
  have HNB := Aside0.mk (show ¬ Own c m r L bx from fun ho => by
    have := HL.out.own_lt ho
    have := hb.size
    omega)
  have HF2 : Aside0 (Fr (Own c m r L) w1 w2) := Aside0.mk (by rw [hw2]; exact Fr.alloc (Fr.refl _ _) _)
  clear hfarA
  have HB := Aside0.mk hb
  have HR := Aside0.mk hr
  have HC1 := Aside0.mk hC1
  have H2 := Aside0.mk h2
  have HX := Aside0.mk hx
  have hsz := size_is s A1 n c1 w2.drew hs
  clear hcl hb hr hC hC1 h1 h2 hx
  go_wp2_with fail
  rw [← hw2, ← hbx]
  have HW2 := Aside0.mk hw2
  have HBX := Aside0.mk hbx
  clear hw2 hbx
  refine hno.mono ?_
  rintro e w2' ⟨rfl, rfl⟩
  go_wp2_with fail
  refine start_ (S := fun w' => w'.cell? ⟨bx, 0, none⟩ = some (.string s) ∧ w'.cell? ⟨bx, 1, none⟩ = some (.slice A1 n c1) ∧ w'.cell? ⟨c, 0, none⟩ = some (.int .i64 lim)) (ds := []) #[false, false, false, false, false, false, false, false] (by kernel_rfl) rfl rfl ⟨x0, x1, cl⟩ (fun hHeld => ?_)
  refine take_ (i := 0) (N := (some 17)) #[true, false, false, false, false, false, false, false] rfl rfl (by kernel_rfl) (fun _ _ _ h => h) (.inl ⟨by rfl, by (intro w hSw; (try dsimp only at hSw); go_simp <;> with_reducible rfl)⟩) hHeld rfl ?_
  (try simp only [Act.put, List.setIfInBounds_toArray, List.set_cons_zero, List.set_cons_succ])
  refine take_ (i := 2) (N := (some 19)) #[true, false, true, false, false, false, false, false] rfl rfl (by kernel_rfl) (fun _ _ _ h => h) (.inl ⟨by rfl, by (intro w hSw; (try dsimp only at hSw); go_simp <;> with_reducible rfl)⟩) hHeld rfl ?_
  (try simp only [Act.put, List.setIfInBounds_toArray, List.set_cons_zero, List.set_cons_succ])
  refine take_ (i := 3) (N := (some 20)) #[true, false, true, true, false, false, false, false] rfl rfl (by kernel_rfl) (fun _ _ _ h => h) (.inl ⟨by rfl, by (intro w hSw; (try dsimp only at hSw); go_simp <;> with_reducible rfl)⟩) hHeld rfl ?_
  (try simp only [Act.put, List.setIfInBounds_toArray, List.set_cons_zero, List.set_cons_succ])
  refine take_ (i := 4) (N := (some 21)) #[true, false, true, true, true, false, false, false] rfl rfl (by kernel_rfl) (fun _ _ _ h => h) (.inl ⟨by rfl, by (intro w hSw; (try dsimp only at hSw); go_simp <;> with_reducible rfl)⟩) hHeld rfl ?_
  (try simp only [Act.put, List.setIfInBounds_toArray, List.set_cons_zero, List.set_cons_succ])
  refine take_ (i := 5) (N := (some 22)) #[true, false, true, true, true, true, false, false] rfl rfl (by kernel_rfl) (fun _ _ _ h => h) (.inl ⟨by rfl, by (intro w hSw; (try dsimp only at hSw); go_simp <;> with_reducible rfl)⟩) hHeld rfl ?_
  (try simp only [Act.put, List.setIfInBounds_toArray, List.set_cons_zero, List.set_cons_succ])
  refine one_ (i := 1) (N := (some 18)) #[true, true, true, true, true, true, false, false] rfl rfl (by kernel_rfl) (by simp) (fun K hK => ?_)
  go_simp
  go_at_call 23
  (with_reducible refine hsz.mono ?_)
  rintro e w3 ⟨rfl, rfl⟩
  refine hK.out _ _ ⟨cellA x0, cellA x1, cellA cl⟩ (fun hHeld => ?_)
  clear hK K
  (try simp only [Act.put, List.setIfInBounds_toArray, List.set_cons_zero, List.set_cons_succ])
  refine take_ (i := 6) (N := (some 23)) #[true, true, true, true, true, true, true, false] rfl rfl (by kernel_rfl) (fun _ _ _ h => h) (.inl ⟨by rfl, by (intro w hSw; (try dsimp only at hSw); go_simp <;> with_reducible rfl)⟩) hHeld rfl ?_
  (try simp only [Act.put, List.setIfInBounds_toArray, List.set_cons_zero, List.set_cons_succ])
  refine take_ (i := 7) (N := (some 16)) #[true, true, true, true, true, true, true, true] rfl rfl (by kernel_rfl) (fun _ _ _ h => h) (.inl ⟨by rfl, by (intro w hSw; (try dsimp only at hSw); go_simp <;> with_reducible rfl)⟩) hHeld rfl ?_
  (try simp only [Act.put, List.setIfInBounds_toArray, List.set_cons_zero, List.set_cons_succ])
  refine done_ (by kernel_rfl) ?_
  go_wp2
  go_ret
  refine ⟨rfl, ?_⟩
  have hb2 : Below w.heap.size w w2' := by rw [HW2.out]; exact below_alloc HB.out _
  exact below_alloc (below_drew1 hb2) _
theorem get_miss (c m r nn : Nat) (lim hi mi : Int) (L : List Ent) (s : ByteArray) (w : World) (h : CL w c m r nn lim hi mi L) (hs : s.size ≤ maxLen) (hl : lookE L s = none) (hmi : 0 ≤ mi ∧ mi ≤ 4611686018427387904) :
    Calls Try.prog 12 #[PT c, .string s] w fun e w' => e = .returned (.tuple #[.slice none 0 0, .bool false]) ∧ CL w' c m r nn lim hi (mi + 1) L ∧ Fr (fun k => k = c) w w' := by
  have hpk := peek_miss c m r nn lim hi mi L s w h hs hl
  have hno := none_no c m r lim _ hi mi w h.blk
  have c3 := blk_cell h.blk 3
  have f3 := blk_frozen h.blk 3
  simp at c3
  have hb2 : Blk (w.setCell ⟨c, 3, none⟩ (.int .i64 (mi + 1))) c m r lim (used L) hi (mi + 1) := blk_put h.blk 3 _ rfl
  have hf2 : Fr (fun k => k = c) w (w.setCell ⟨c, 3, none⟩ (.int .i64 (mi + 1))) := (Fr.refl (fun k => k = c) w).setCell (p := ⟨c, 3, none⟩) (.inl rfl) _
  have H2 := Aside0.mk (h.counts hb2 hf2)
  have HF := Aside0.mk hf2
  have wz : IntKind.i64.wrap (mi + 1) = mi + 1 := by rw [i64_w]; unfold wrap64; omega
  clear h hb2 hf2 hmi
  go_enter Try.func12, Try.ntmps12
  go_wp2_with fail
  refine hpk.mono ?_
  rintro e w1 ⟨rfl, rfl⟩
  go_wp2_with fail
  refine hno.mono ?_
  rintro e w1' ⟨rfl, rfl⟩
  go_wp2
  go_ret2
  exact ⟨rfl, H2.out, HF.out⟩
end Go.Proofs.Yteiejkkgckdihaa.Pb
