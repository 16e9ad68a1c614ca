/- Put and Get of both sides; what is put is got. -/
import Derived.Test.YtdohacnjngkkiaaXa
import Derived.Test.YtdohacnjngkkiaaXh
import Derived.LoopN
namespace Go.Proofs.Ytdohacnjngkkiaa.Xf
set_option linter.unusedVariables false
set_option linter.unusedSimpArgs false
open Go.RowKit Go.Proofs.YtdohacnjngkkiaaW.PrintWords Go.Proofs.YtdohacnjngkkiaaW.PrintLast Go.Proofs.YtdohacnjngkkiaaW.PrintMore
open Go.Proofs.Ytdohacnjngkkiaa.Xd Go.Proofs.Ytdohacnjngkkiaa.Xe Go.Proofs.Ytdohacnjngkkiaa.Xl Go.Proofs.Ytdohacnjngkkiaa.Xr Go.Proofs.Ytdohacnjngkkiaa.Fr Go.Proofs.Ytdohacnjngkkiaa.Sm Go.Proofs.Ytdohacnjngkkiaa.Pm Go.Proofs.Ytdohacnjngkkiaa.Xh Go.Proofs.Ytdohacnjngkkiaa.Rl Go.Proofs.Ytdohacnjngkkiaa.A
/-- a decoder's state behind some numbers -/
def st (xs : List Int) : Nat → List Int × Int
  | 0 => (xs, 0)
  | k + 1 => (stepD (st xs k).1 (st xs k).2).2
def vl (xs : List Int) (k : Nat) : Int := (stepD (st xs k).1 (st xs k).2).1
def metaV (xs : List Int) : S40 := ⟨vl xs 0, vl xs 1, wrap64 (vl xs 1 + vl xs 2), vl xs 3, wrap64 (vl xs 3 + vl xs 4), vl xs 5, vl xs 6, vl xs 7⟩
/-- what Get answers -/
def getV (xs : List Int) : S40 × Int := if doneV (st xs 8).1 (st xs 8).2 = 0 ∧ rightB (metaV xs) = true then (metaV xs, 0) else (z40, 21)
theorem below_low {B B' : Nat} {w w' : World} (h : Below B' w w') (hB : B ≤ B') : Below B w w' := ⟨h.os, h.tape, h.output, h.size, fun k hk => h.block k (by omega)⟩
theorem fr_of_below {B : Nat} {w w' : World} (h : Below B w w') : Fr (fun k => B ≤ k) w w' := ⟨h.os, h.tape, h.output, h.size, fun k _ hn => h.block k (by omega)⟩
theorem rnum_k (N b : Nat) (w : World) (xs : List Int) (k : Nat) (h : RDec w N b (st xs k).1 (st xs k).2) :
    Calls Try.prog 66 #[.pointer (some ⟨b, 0, none⟩)] w fun e w' => e = .returned (.int .i64 (vl xs k)) ∧ RDec w' N b (st xs (k + 1)).1 (st xs (k + 1)).2 ∧ Fr (fun j => j = b) w w' := rnumber_any N b w _ _ h
theorem rdec_lt {w : World} {N b : Nat} {ys : List Int} {er : Int} (h : RDec w N b ys er) : b < N := by
  obtain ⟨A, c, xs, a, hblk, hc, hC, hne, hys, ha, hbyt, hl, hbN, hAN⟩ := h
  exact hbN
set_option maxHeartbeats 8000000 in
set_option maxRecDepth 100000 in
theorem from_any (N b : Nat) (w : World) (xs : List Int) (h : RDec w N b xs 0) (hN : N ≤ w.heap.size) :
    Calls Try.prog 52 #[.pointer (some ⟨b, 0, none⟩)] w fun e w' => e = .returned (ag (metaV xs)) ∧ RDec w' N b (st xs 8).1 (st xs 8).2 ∧ Fr (fun j => j = b) w w' := by
  have HLT := Aside0.mk (And.intro (rdec_lt h) hN)
  obtain ⟨W0, hW0⟩ : ∃ W0, W0 = w.alloc (.cells #[.int .i64 0, .int .i64 0, .int .i64 0, .int .i64 0, .int .i64 0, .int .i64 0, .int .i64 0, .int .i64 0] 44) := ⟨_, rfl⟩
  have hb0 : Below w.heap.size w W0 := by rw [hW0]; exact below_alloc (Below.refl _ _) _
  have hk2 : W0.heap[w.heap.size]? = some (.cells #[.int .i64 0, .int .i64 0, .int .i64 0, .int .i64 0, .int .i64 0, .int .i64 0, .int .i64 0, .int .i64 0] 44 (0, 0)) := by rw [hW0]; exact blk_new _ _
  obtain ⟨b2, hb2⟩ : ∃ b2, b2 = w.heap.size := ⟨_, rfl⟩
  rw [← hb2] at hk2
  have HB2 := Aside0.mk hb2
  have HD0 := Aside0.mk (RDec.below h (below_low hb0 hN))
  have HF0 := Aside0.mk (Fr.of_below hb0 (fun j => j = b))
  have HK20 := Aside0.mk hk2
  have hn := rnum_k N b W0 xs 0 HD0.out
  clear h hN hb0 hk2
  go_enter Try.func52, Try.ntmps52
  go_upto_region 1 with fail
  rw [← hW0, ← hb2]
  clear hW0 hb2
  go_wp2_with fail
  refine hn.mono ?_
  rintro e V1 ⟨rfl, hd, hf⟩
  have HE1 := Aside0.mk (show RDec V1 N b (st xs 1).1 (st xs 1).2 from hd)
  have HG1 := Aside0.mk (HF0.out.trans hf)
  have HK2V1 := Aside0.mk ((hf.block b2 (blk_lt HK20.out) (by have := HLT.out; have := HB2.out; omega)).trans HK20.out)
  clear hn hd hf
  go_upto_region 2 with fail
  obtain ⟨W1, hW1⟩ : ∃ W1, W1 = V1.alloc (.cells #[.int .i64 (vl xs 0), .int .i64 0, .int .i64 0, .int .i64 0, .int .i64 0, .int .i64 0, .int .i64 0, .int .i64 0] 44) := ⟨_, rfl⟩
  rw [← hW1]
  have hbb : Below V1.heap.size V1 W1 := by rw [hW1]; exact below_alloc (Below.refl _ _) _
  have hk3 : W1.heap[V1.heap.size]? = some (.cells #[.int .i64 (vl xs 0), .int .i64 0, .int .i64 0, .int .i64 0, .int .i64 0, .int .i64 0, .int .i64 0, .int .i64 0] 44 (0, 0)) := by rw [hW1]; exact blk_new _ _
  obtain ⟨b3, hb3⟩ : ∃ b3, b3 = V1.heap.size := ⟨_, rfl⟩
  rw [← hb3] at hk3 ⊢
  have HK3W1 := Aside0.mk hk3
  have HK2W1 := Aside0.mk (blk_below HK2V1.out hbb)
  have HNV : Aside0 (N ≤ V1.heap.size ∧ w.heap.size ≤ V1.heap.size) := ⟨by have h1 := HG1.out.size; have h2 := HLT.out; omega⟩
  have HD1 := Aside0.mk (RDec.below HE1.out (below_low hbb HNV.out.1))
  have HF1 := Aside0.mk (HG1.out.trans (Fr.of_below hbb (fun j => j = b)))
  have HB3 : Aside0 (N ≤ b3 ∧ w.heap.size ≤ b3 ∧ b2 < b3 ∧ b < b3) := ⟨by have h1 := HNV.out; have h2 := HLT.out; have h3 := blk_lt HK2V1.out; omega⟩
  clear hW1 hbb hk3 hb3
  have hn := rnum_k N b W1 xs 1 HD1.out
  go_wp2_with fail
  refine hn.mono ?_
  rintro e V2 ⟨rfl, hd, hf⟩
  have HE2 := Aside0.mk (show RDec V2 N b (st xs 2).1 (st xs 2).2 from hd)
  have HG2 := Aside0.mk (HF1.out.trans hf)
  have HK2V2 := Aside0.mk ((hf.block b2 (blk_lt HK2W1.out) (by have := HLT.out; have := HB2.out; omega)).trans HK2W1.out)
  have HK3V2 := Aside0.mk ((hf.block b3 (blk_lt HK3W1.out) (by have := HB3.out; omega)).trans HK3W1.out)
  clear hn hd hf
  have cc := blk_cell HK3V2.out 1
  have cf := blk_frozen HK3V2.out 1
  simp at cc
  go_upto_region 3 with fail
  clear cc cf
  obtain ⟨W2, hW2⟩ : ∃ W2, W2 = V2.setCell ⟨b3, 1, none⟩ (.int .i64 (vl xs 1)) := ⟨_, rfl⟩
  rw [← hW2]
  have HK3W2 : Aside0 (W2.heap[b3]? = some (.cells #[.int .i64 (vl xs 0), .int .i64 (vl xs 1), .int .i64 0, .int .i64 0, .int .i64 0, .int .i64 0, .int .i64 0, .int .i64 0] 44 (0, 0))) := ⟨by
    have hp := blk_put HK3V2.out 1 (.int .i64 (vl xs 1)) rfl
    rw [hW2]
    simpa using hp⟩
  have hfar : ∀ j, j ≠ b3 → W2.heap[j]? = V2.heap[j]? := fun j hj => by rw [hW2]; exact Below.heap_setCell _ _ _ _ hj
  have hbl : Below b3 V2 W2 := ⟨by rw [hW2]; rfl, by rw [hW2]; rfl, by rw [hW2]; rfl, by rw [hW2]; simp, fun j hj => hfar j (by omega)⟩
  have HK2W2 := Aside0.mk ((hfar b2 (by have := HB3.out; omega)).trans HK2V2.out)
  have HD2 := Aside0.mk (RDec.below HE2.out (below_low hbl HB3.out.1))
  have HF2 : Aside0 (Fr (fun j => j = b) w W2) := ⟨by rw [hW2]; exact HG2.out.setCell (p := ⟨b3, 1, none⟩) (.inr HB3.out.2.1) _⟩
  clear hW2 hfar hbl
  have HCC : Aside0 (W2.cell? ⟨b3, 1, none⟩ = some (.int .i64 (vl xs 1))) := ⟨by
    have cc := blk_cell HK3W2.out 1
    simp at cc
    exact cc⟩
  have hn := rnum_k N b W2.drew xs 2 (RDec.below HD2.out (below_drew (Below.refl _ _)))
  have HN2 := Aside0.mk hn
  clear hn
  go_upto_region 3 with fail
  refine start_ (S := fun W => W.cell? ⟨b3, 1, none⟩ = some (.int .i64 (vl xs 1))) (ds := [6]) #[false, false, false, false, false, false, false] (by kernel_rfl) rfl rfl HCC.out (fun hHeld => ?_)
  refine pure_ (i := 0) (N := some 10) #[true, false, false, false, false, false, false] rfl rfl (by kernel_rfl) (fun _ _ _ h => h) (.inl ⟨by rfl, by (intro w; go_simp <;> with_reducible rfl)⟩) rfl ?_
  (try simp only [Act.put, List.setIfInBounds_toArray, List.set_cons_zero, List.set_cons_succ])
  refine pure_ (i := 2) (N := some 12) #[true, false, true, false, false, false, false] rfl rfl (by kernel_rfl) (fun _ _ _ h => h) (.inl ⟨by rfl, by (intro w; go_simp <;> with_reducible rfl)⟩) rfl ?_
  (try simp only [Act.put, List.setIfInBounds_toArray, List.set_cons_zero, List.set_cons_succ])
  refine take_ (i := 1) (N := some 11) #[true, true, true, false, false, false, false] rfl rfl (by kernel_rfl) (fun _ _ _ h => h) (.inl ⟨by rfl, by (intro w hSw; (try dsimp only at hSw); go_simp <;> with_reducible rfl)⟩) hHeld rfl ?_
  (try simp only [Act.put, List.setIfInBounds_toArray, List.set_cons_zero, List.set_cons_succ])
  refine one_ (i := 3) (N := some 13) #[true, true, true, true, false, false, false] rfl rfl (by kernel_rfl) (by simp) (fun K hK => ?_)
  refine goes_ Try.func66 (by kernel_rfl) rfl #[.pointer (some ⟨b, 0, none⟩)] (by rfl) rfl rfl (by simp only [List.map_toArray, List.map_cons, List.map_nil]; rfl) ?_
  with_reducible refine (HN2.out).mono ?_
  rintro e V3 ⟨rfl, hd, hf0⟩
  refine ⟨_, rfl, ?_⟩
  have hf : Fr (fun j => j = b) W2 V3 := ((Fr.refl _ W2).drew).trans hf0
  have HE3 := Aside0.mk (show RDec V3 N b (st xs 3).1 (st xs 3).2 from hd)
  have HG3 := Aside0.mk (HF2.out.trans hf)
  have HK2V3 := Aside0.mk ((hf.block b2 (blk_lt HK2W2.out) (by have := HLT.out; have := HB2.out; omega)).trans HK2W2.out)
  have HK3V3 := Aside0.mk ((hf.block b3 (blk_lt HK3W2.out) (by have := HB3.out; omega)).trans HK3W2.out)
  have HCN : Aside0 (V3.cell? ⟨b3, 1, none⟩ = some (.int .i64 (vl xs 1))) := ⟨by
    have cc := blk_cell HK3V3.out 1
    simp at cc
    exact cc⟩
  clear hd hf hf0
  refine hK.out _ _ HCN.out (fun hHeld => ?_)
  clear hK K
  refine norm_ (a' := ?_) ?_ ?_
  rotate_left
  · show Act.put _ (some 13) _ = _
    simp only [Act.put, List.setIfInBounds_toArray, List.set_cons_zero, List.set_cons_succ]
    rfl
  refine pure_ (i := 4) (N := some 14) #[true, true, true, true, true, false, false] rfl rfl (by kernel_rfl) (fun _ _ _ h => h) (.inl ⟨by rfl, by (intro w; go_simp <;> with_reducible rfl)⟩) rfl ?_
  (try simp only [Act.put, List.setIfInBounds_toArray, List.set_cons_zero, List.set_cons_succ])
  refine pure_ (i := 5) (N := some 15) #[true, true, true, true, true, true, false] rfl rfl (by kernel_rfl) (fun _ _ _ h => h) (.inl ⟨by rfl, by (intro w; go_simp <;> with_reducible rfl)⟩) rfl ?_
  (try simp only [Act.put, List.setIfInBounds_toArray, List.set_cons_zero, List.set_cons_succ])
  refine last_ (i := 6) (N := none) #[true, true, true, true, true, true, true] rfl rfl (by kernel_rfl) (by simp) (fun K hK => ?_)
  have cc := blk_cell HK3V3.out 2
  have cf := blk_frozen HK3V3.out 2
  simp at cc
  refine skip_ (w1 := ?_) (by rfl) rfl ?_ ?_
  rotate_left
  · go_simp
    rfl
  clear cc cf
  refine hK.out _ _ ?_
  clear hK K
  (try simp only [Act.put, List.setIfInBounds_toArray, List.set_cons_zero, List.set_cons_succ])
  refine done_ (by kernel_rfl) ?_
  (try simp only [i64_w])
  clear HCC HCN
  go_upto_region 4 with fail
  (try simp only [i64_w])
  obtain ⟨W3, hW3⟩ : ∃ W3, W3 = V3.setCell ⟨b3, 2, none⟩ (.int .i64 (wrap64 (vl xs 1 + vl xs 2))) := ⟨_, rfl⟩
  rw [← hW3]
  have HK3W3 : Aside0 (W3.heap[b3]? = some (.cells #[.int .i64 (vl xs 0), .int .i64 (vl xs 1), .int .i64 (wrap64 (vl xs 1 + vl xs 2)), .int .i64 0, .int .i64 0, .int .i64 0, .int .i64 0, .int .i64 0] 44 (0, 0))) := ⟨by
    have hp := blk_put HK3V3.out 2 (.int .i64 (wrap64 (vl xs 1 + vl xs 2))) rfl
    rw [hW3]
    simpa using hp⟩
  have hfar : ∀ j, j ≠ b3 → W3.heap[j]? = V3.heap[j]? := fun j hj => by rw [hW3]; exact Below.heap_setCell _ _ _ _ hj
  have hbl : Below b3 V3 W3 := ⟨by rw [hW3]; rfl, by rw [hW3]; rfl, by rw [hW3]; rfl, by rw [hW3]; simp, fun j hj => hfar j (by omega)⟩
  have HK2W3 := Aside0.mk ((hfar b2 (by have := HB3.out; omega)).trans HK2V3.out)
  have HD3 := Aside0.mk (RDec.below HE3.out (below_low hbl HB3.out.1))
  have HF3 : Aside0 (Fr (fun j => j = b) w W3) := ⟨by rw [hW3]; exact HG3.out.setCell (p := ⟨b3, 2, none⟩) (.inr HB3.out.2.1) _⟩
  clear hW3 hfar hbl
  have hn := rnum_k N b W3 xs 3 HD3.out
  go_wp2_with fail
  refine hn.mono ?_
  rintro e V4 ⟨rfl, hd, hf⟩
  have HE4 := Aside0.mk (show RDec V4 N b (st xs 4).1 (st xs 4).2 from hd)
  have HG4 := Aside0.mk (HF3.out.trans hf)
  have HK2V4 := Aside0.mk ((hf.block b2 (blk_lt HK2W3.out) (by have := HLT.out; have := HB2.out; omega)).trans HK2W3.out)
  have HK3V4 := Aside0.mk ((hf.block b3 (blk_lt HK3W3.out) (by have := HB3.out; omega)).trans HK3W3.out)
  clear hn hd hf
  have cc := blk_cell HK3V4.out 3
  have cf := blk_frozen HK3V4.out 3
  simp at cc
  go_upto_region 5 with fail
  clear cc cf
  obtain ⟨W4, hW4⟩ : ∃ W4, W4 = V4.setCell ⟨b3, 3, none⟩ (.int .i64 (vl xs 3)) := ⟨_, rfl⟩
  rw [← hW4]
  have HK3W4 : Aside0 (W4.heap[b3]? = some (.cells #[.int .i64 (vl xs 0), .int .i64 (vl xs 1), .int .i64 (wrap64 (vl xs 1 + vl xs 2)), .int .i64 (vl xs 3), .int .i64 0, .int .i64 0, .int .i64 0, .int .i64 0] 44 (0, 0))) := ⟨by
    have hp := blk_put HK3V4.out 3 (.int .i64 (vl xs 3)) rfl
    rw [hW4]
    simpa using hp⟩
  have hfar : ∀ j, j ≠ b3 → W4.heap[j]? = V4.heap[j]? := fun j hj => by rw [hW4]; exact Below.heap_setCell _ _ _ _ hj
  have hbl : Below b3 V4 W4 := ⟨by rw [hW4]; rfl, by rw [hW4]; rfl, by rw [hW4]; rfl, by rw [hW4]; simp, fun j hj => hfar j (by omega)⟩
  have HK2W4 := Aside0.mk ((hfar b2 (by have := HB3.out; omega)).trans HK2V4.out)
  have HD4 := Aside0.mk (RDec.below HE4.out (below_low hbl HB3.out.1))
  have HF4 : Aside0 (Fr (fun j => j = b) w W4) := ⟨by rw [hW4]; exact HG4.out.setCell (p := ⟨b3, 3, none⟩) (.inr HB3.out.2.1) _⟩
  clear hW4 hfar hbl
  have HCC : Aside0 (W4.cell? ⟨b3, 3, none⟩ = some (.int .i64 (vl xs 3))) := ⟨by
    have cc := blk_cell HK3W4.out 3
    simp at cc
    exact cc⟩
  have hn := rnum_k N b W4.drew xs 4 (RDec.below HD4.out (below_drew (Below.refl _ _)))
  have HN4 := Aside0.mk hn
  clear hn
  go_upto_region 5 with fail
  refine start_ (S := fun W => W.cell? ⟨b3, 3, none⟩ = some (.int .i64 (vl xs 3))) (ds := [6]) #[false, false, false, false, false, false, false] (by kernel_rfl) rfl rfl HCC.out (fun hHeld => ?_)
  refine pure_ (i := 0) (N := some 19) #[true, false, false, false, false, false, false] rfl rfl (by kernel_rfl) (fun _ _ _ h => h) (.inl ⟨by rfl, by (intro w; go_simp <;> with_reducible rfl)⟩) rfl ?_
  (try simp only [Act.put, List.setIfInBounds_toArray, List.set_cons_zero, List.set_cons_succ])
  refine pure_ (i := 2) (N := some 21) #[true, false, true, false, false, false, false] rfl rfl (by kernel_rfl) (fun _ _ _ h => h) (.inl ⟨by rfl, by (intro w; go_simp <;> with_reducible rfl)⟩) rfl ?_
  (try simp only [Act.put, List.setIfInBounds_toArray, List.set_cons_zero, List.set_cons_succ])
  refine take_ (i := 1) (N := some 20) #[true, true, true, false, false, false, false] rfl rfl (by kernel_rfl) (fun _ _ _ h => h) (.inl ⟨by rfl, by (intro w hSw; (try dsimp only at hSw); go_simp <;> with_reducible rfl)⟩) hHeld rfl ?_
  (try simp only [Act.put, List.setIfInBounds_toArray, List.set_cons_zero, List.set_cons_succ])
  refine one_ (i := 3) (N := some 22) #[true, true, true, true, false, false, false] rfl rfl (by kernel_rfl) (by simp) (fun K hK => ?_)
  refine goes_ Try.func66 (by kernel_rfl) rfl #[.pointer (some ⟨b, 0, none⟩)] (by rfl) rfl rfl (by simp only [List.map_toArray, List.map_cons, List.map_nil]; rfl) ?_
  with_reducible refine (HN4.out).mono ?_
  rintro e V5 ⟨rfl, hd, hf0⟩
  refine ⟨_, rfl, ?_⟩
  have hf : Fr (fun j => j = b) W4 V5 := ((Fr.refl _ W4).drew).trans hf0
  have HE5 := Aside0.mk (show RDec V5 N b (st xs 5).1 (st xs 5).2 from hd)
  have HG5 := Aside0.mk (HF4.out.trans hf)
  have HK2V5 := Aside0.mk ((hf.block b2 (blk_lt HK2W4.out) (by have := HLT.out; have := HB2.out; omega)).trans HK2W4.out)
  have HK3V5 := Aside0.mk ((hf.block b3 (blk_lt HK3W4.out) (by have := HB3.out; omega)).trans HK3W4.out)
  have HCN : Aside0 (V5.cell? ⟨b3, 3, none⟩ = some (.int .i64 (vl xs 3))) := ⟨by
    have cc := blk_cell HK3V5.out 3
    simp at cc
    exact cc⟩
  clear hd hf hf0
  refine hK.out _ _ HCN.out (fun hHeld => ?_)
  clear hK K
  refine norm_ (a' := ?_) ?_ ?_
  rotate_left
  · show Act.put _ (some 22) _ = _
    simp only [Act.put, List.setIfInBounds_toArray, List.set_cons_zero, List.set_cons_succ]
    rfl
  refine pure_ (i := 4) (N := some 23) #[true, true, true, true, true, false, false] rfl rfl (by kernel_rfl) (fun _ _ _ h => h) (.inl ⟨by rfl, by (intro w; go_simp <;> with_reducible rfl)⟩) rfl ?_
  (try simp only [Act.put, List.setIfInBounds_toArray, List.set_cons_zero, List.set_cons_succ])
  refine pure_ (i := 5) (N := some 24) #[true, true, true, true, true, true, false] rfl rfl (by kernel_rfl) (fun _ _ _ h => h) (.inl ⟨by rfl, by (intro w; go_simp <;> with_reducible rfl)⟩) rfl ?_
  (try simp only [Act.put, List.setIfInBounds_toArray, List.set_cons_zero, List.set_cons_succ])
  refine last_ (i := 6) (N := none) #[true, true, true, true, true, true, true] rfl rfl (by kernel_rfl) (by simp) (fun K hK => ?_)
  have cc := blk_cell HK3V5.out 4
  have cf := blk_frozen HK3V5.out 4
  simp at cc
  refine skip_ (w1 := ?_) (by rfl) rfl ?_ ?_
  rotate_left
  · go_simp
    rfl
  clear cc cf
  refine hK.out _ _ ?_
  clear hK K
  (try simp only [Act.put, List.setIfInBounds_toArray, List.set_cons_zero, List.set_cons_succ])
  refine done_ (by kernel_rfl) ?_
  (try simp only [i64_w])
  clear HCC HCN
  go_upto_region 6 with fail
  (try simp only [i64_w])
  obtain ⟨W5, hW5⟩ : ∃ W5, W5 = V5.setCell ⟨b3, 4, none⟩ (.int .i64 (wrap64 (vl xs 3 + vl xs 4))) := ⟨_, rfl⟩
  rw [← hW5]
  have HK3W5 : Aside0 (W5.heap[b3]? = some (.cells #[.int .i64 (vl xs 0), .int .i64 (vl xs 1), .int .i64 (wrap64 (vl xs 1 + vl xs 2)), .int .i64 (vl xs 3), .int .i64 (wrap64 (vl xs 3 + vl xs 4)), .int .i64 0, .int .i64 0, .int .i64 0] 44 (0, 0))) := ⟨by
    have hp := blk_put HK3V5.out 4 (.int .i64 (wrap64 (vl xs 3 + vl xs 4))) rfl
    rw [hW5]
    simpa using hp⟩
  have hfar : ∀ j, j ≠ b3 → W5.heap[j]? = V5.heap[j]? := fun j hj => by rw [hW5]; exact Below.heap_setCell _ _ _ _ hj
  have hbl : Below b3 V5 W5 := ⟨by rw [hW5]; rfl, by rw [hW5]; rfl, by rw [hW5]; rfl, by rw [hW5]; simp, fun j hj => hfar j (by omega)⟩
  have HK2W5 := Aside0.mk ((hfar b2 (by have := HB3.out; omega)).trans HK2V5.out)
  have HD5 := Aside0.mk (RDec.below HE5.out (below_low hbl HB3.out.1))
  have HF5 : Aside0 (Fr (fun j => j = b) w W5) := ⟨by rw [hW5]; exact HG5.out.setCell (p := ⟨b3, 4, none⟩) (.inr HB3.out.2.1) _⟩
  clear hW5 hfar hbl
  have hn := rnum_k N b W5 xs 5 HD5.out
  go_wp2_with fail
  refine hn.mono ?_
  rintro e V6 ⟨rfl, hd, hf⟩
  have HE6 := Aside0.mk (show RDec V6 N b (st xs 6).1 (st xs 6).2 from hd)
  have HG6 := Aside0.mk (HF5.out.trans hf)
  have HK2V6 := Aside0.mk ((hf.block b2 (blk_lt HK2W5.out) (by have := HLT.out; have := HB2.out; omega)).trans HK2W5.out)
  have HK3V6 := Aside0.mk ((hf.block b3 (blk_lt HK3W5.out) (by have := HB3.out; omega)).trans HK3W5.out)
  clear hn hd hf
  have cc := blk_cell HK3V6.out 5
  have cf := blk_frozen HK3V6.out 5
  simp at cc
  go_upto_region 7 with fail
  clear cc cf
  obtain ⟨W6, hW6⟩ : ∃ W6, W6 = V6.setCell ⟨b3, 5, none⟩ (.int .i64 (vl xs 5)) := ⟨_, rfl⟩
  rw [← hW6]
  have HK3W6 : Aside0 (W6.heap[b3]? = some (.cells #[.int .i64 (vl xs 0), .int .i64 (vl xs 1), .int .i64 (wrap64 (vl xs 1 + vl xs 2)), .int .i64 (vl xs 3), .int .i64 (wrap64 (vl xs 3 + vl xs 4)), .int .i64 (vl xs 5), .int .i64 0, .int .i64 0] 44 (0, 0))) := ⟨by
    have hp := blk_put HK3V6.out 5 (.int .i64 (vl xs 5)) rfl
    rw [hW6]
    simpa using hp⟩
  have hfar : ∀ j, j ≠ b3 → W6.heap[j]? = V6.heap[j]? := fun j hj => by rw [hW6]; exact Below.heap_setCell _ _ _ _ hj
  have hbl : Below b3 V6 W6 := ⟨by rw [hW6]; rfl, by rw [hW6]; rfl, by rw [hW6]; rfl, by rw [hW6]; simp, fun j hj => hfar j (by omega)⟩
  have HK2W6 := Aside0.mk ((hfar b2 (by have := HB3.out; omega)).trans HK2V6.out)
  have HD6 := Aside0.mk (RDec.below HE6.out (below_low hbl HB3.out.1))
  have HF6 : Aside0 (Fr (fun j => j = b) w W6) := ⟨by rw [hW6]; exact HG6.out.setCell (p := ⟨b3, 5, none⟩) (.inr HB3.out.2.1) _⟩
  clear hW6 hfar hbl
  have hn := rnum_k N b W6 xs 6 HD6.out
  go_wp2_with fail
  refine hn.mono ?_
  rintro e V7 ⟨rfl, hd, hf⟩
  have HE7 := Aside0.mk (show RDec V7 N b (st xs 7).1 (st xs 7).2 from hd)
  have HG7 := Aside0.mk (HF6.out.trans hf)
  have HK2V7 := Aside0.mk ((hf.block b2 (blk_lt HK2W6.out) (by have := HLT.out; have := HB2.out; omega)).trans HK2W6.out)
  have HK3V7 := Aside0.mk ((hf.block b3 (blk_lt HK3W6.out) (by have := HB3.out; omega)).trans HK3W6.out)
  clear hn hd hf
  have cc := blk_cell HK3V7.out 6
  have cf := blk_frozen HK3V7.out 6
  simp at cc
  go_upto_region 8 with fail
  clear cc cf
  obtain ⟨W7, hW7⟩ : ∃ W7, W7 = V7.setCell ⟨b3, 6, none⟩ (.int .i64 (vl xs 6)) := ⟨_, rfl⟩
  rw [← hW7]
  have HK3W7 : Aside0 (W7.heap[b3]? = some (.cells #[.int .i64 (vl xs 0), .int .i64 (vl xs 1), .int .i64 (wrap64 (vl xs 1 + vl xs 2)), .int .i64 (vl xs 3), .int .i64 (wrap64 (vl xs 3 + vl xs 4)), .int .i64 (vl xs 5), .int .i64 (vl xs 6), .int .i64 0] 44 (0, 0))) := ⟨by
    have hp := blk_put HK3V7.out 6 (.int .i64 (vl xs 6)) rfl
    rw [hW7]
    simpa using hp⟩
  have hfar : ∀ j, j ≠ b3 → W7.heap[j]? = V7.heap[j]? := fun j hj => by rw [hW7]; exact Below.heap_setCell _ _ _ _ hj
  have hbl : Below b3 V7 W7 := ⟨by rw [hW7]; rfl, by rw [hW7]; rfl, by rw [hW7]; rfl, by rw [hW7]; simp, fun j hj => hfar j (by omega)⟩
  have HK2W7 := Aside0.mk ((hfar b2 (by have := HB3.out; omega)).trans HK2V7.out)
  have HD7 := Aside0.mk (RDec.below HE7.out (below_low hbl HB3.out.1))
  have HF7 : Aside0 (Fr (fun j => j = b) w W7) := ⟨by rw [hW7]; exact HG7.out.setCell (p := ⟨b3, 6, none⟩) (.inr HB3.out.2.1) _⟩
  clear hW7 hfar hbl
  have hn := rnum_k N b W7 xs 7 HD7.out
  go_wp2_with fail
  refine hn.mono ?_
  rintro e V8 ⟨rfl, hd, hf⟩
  have HE8 := Aside0.mk (show RDec V8 N b (st xs 8).1 (st xs 8).2 from hd)
  have HG8 := Aside0.mk (HF7.out.trans hf)
  have HK2V8 := Aside0.mk ((hf.block b2 (blk_lt HK2W7.out) (by have := HLT.out; have := HB2.out; omega)).trans HK2W7.out)
  have HK3V8 := Aside0.mk ((hf.block b3 (blk_lt HK3W7.out) (by have := HB3.out; omega)).trans HK3W7.out)
  clear hn hd hf
  have cc := blk_cell HK3V8.out 7
  have cf := blk_frozen HK3V8.out 7
  simp at cc
  go_upto_region 9 with fail
  clear cc cf
  obtain ⟨W8, hW8⟩ : ∃ W8, W8 = V8.setCell ⟨b3, 7, none⟩ (.int .i64 (vl xs 7)) := ⟨_, rfl⟩
  rw [← hW8]
  have HK3W8 : Aside0 (W8.heap[b3]? = some (.cells #[.int .i64 (vl xs 0), .int .i64 (vl xs 1), .int .i64 (wrap64 (vl xs 1 + vl xs 2)), .int .i64 (vl xs 3), .int .i64 (wrap64 (vl xs 3 + vl xs 4)), .int .i64 (vl xs 5), .int .i64 (vl xs 6), .int .i64 (vl xs 7)] 44 (0, 0))) := ⟨by
    have hp := blk_put HK3V8.out 7 (.int .i64 (vl xs 7)) rfl
    rw [hW8]
    simpa using hp⟩
  have hfar : ∀ j, j ≠ b3 → W8.heap[j]? = V8.heap[j]? := fun j hj => by rw [hW8]; exact Below.heap_setCell _ _ _ _ hj
  have hbl : Below b3 V8 W8 := ⟨by rw [hW8]; rfl, by rw [hW8]; rfl, by rw [hW8]; rfl, by rw [hW8]; simp, fun j hj => hfar j (by omega)⟩
  have HK2W8 := Aside0.mk ((hfar b2 (by have := HB3.out; omega)).trans HK2V8.out)
  have HD8 := Aside0.mk (RDec.below HE8.out (below_low hbl HB3.out.1))
  have HF8 : Aside0 (Fr (fun j => j = b) w W8) := ⟨by rw [hW8]; exact HG8.out.setCell (p := ⟨b3, 7, none⟩) (.inr HB3.out.2.1) _⟩
  clear hW8 hfar hbl
  have hk3 := HK3W8.out
  have d0 := blk_cell hk3 0
  have d1 := blk_cell hk3 1
  have d2 := blk_cell hk3 2
  have d3 := blk_cell hk3 3
  have d4 := blk_cell hk3 4
  have d5 := blk_cell hk3 5
  have d6 := blk_cell hk3 6
  have d7 := blk_cell hk3 7
  simp at d0 d1 d2 d3 d4 d5 d6 d7
  clear hk3
  go_wp2_with (first | ((with_reducible refine gate_store (t := 44) (p := 2) rfl ?_); refine put44 (metaV xs) rfl rfl rfl rfl rfl HK2W8.out rfl ?_; intro w5 hk5 hf5 hb5 hs5; have HK5 := Aside0.mk hk5; have HB5 := Aside0.mk (hb5 b2 W8 (Nat.le_refl _) (Below.refl _ _)); clear hk5 hf5 hb5 hs5))
  refine bodyPost_ret (results_cell_row rfl _ _ b2 44 (cells8 (metaV xs)).toArray (0, 0) _ rfl HK5.out Try.underlying44 rfl (by kernel_rfl)) rfl ?_
  refine ⟨rfl, RDec.below HD8.out (below_low HB5.out (by have h1 := HLT.out; have h2 := HB2.out; omega)), HF8.out.trans' (fr_of_below HB5.out) (fun k hk => ?_)⟩
  right; have := HB2.out; omega
theorem rright_calls (q : S40) (w : World) : Calls Try.prog 33 #[.agg #[.int .i64 q.f0, .int .i64 q.f1, .int .i64 q.f2, .int .i64 q.f3, .int .i64 q.f4, .int .i64 q.f5, .int .i64 q.f6, .int .i64 q.f7]] w fun e w' => e = .returned (.bool (rightB q)) ∧ Below w.heap.size w w' :=
  Go.Proofs.Ytdohacnjngkkiaa.A.icehouseref09_Right.calls q.f0 q.f1 q.f2 q.f3 q.f4 q.f5 q.f6 q.f7 _ w (rright_is ⟨q.f0, q.f1, q.f2, q.f3, q.f4, q.f5, q.f6, q.f7⟩)
set_option maxHeartbeats 4000000 in
theorem rget_any (A : Option Addr) (c : Nat) (xs : List Int) (w : World) (hC : (Kd.int .u8).C w A xs.length xs) (hc : xs.length ≤ c) (hl : xs.length ≤ 140737488351232) (hb : Byts xs) :
    Calls Try.prog 26 #[.slice A xs.length c] w fun e w' => e = .returned (.tuple #[ag (getV xs).1, .int .i64 (getV xs).2]) ∧ Below w.heap.size w w' := by
  obtain ⟨W0, hW0⟩ : ∃ W0, W0 = w.alloc (.cells #[.int .i64 0, .int .i64 0, .int .i64 0, .int .i64 0, .int .i64 0, .int .i64 0, .int .i64 0, .int .i64 0] 44) := ⟨_, rfl⟩
  have hb0 : Below w.heap.size w W0 := by rw [hW0]; exact below_alloc (Below.refl _ _) _
  have hk2 : W0.heap[w.heap.size]? = some (.cells #[.int .i64 0, .int .i64 0, .int .i64 0, .int .i64 0, .int .i64 0, .int .i64 0, .int .i64 0, .int .i64 0] 44 (0, 0)) := by rw [hW0]; exact blk_new _ _
  obtain ⟨b2, hb2⟩ : ∃ b2, b2 = w.heap.size := ⟨_, rfl⟩
  rw [← hb2] at hk2
  have HB2 := Aside0.mk hb2
  have HK20 := Aside0.mk hk2
  have HB0 := Aside0.mk hb0
  have hn := rnew_any A c xs W0 (Kd.C_below hC hb0) hc hl hb
  obtain ⟨n, hxn⟩ : ∃ n, n = xs.length := ⟨_, rfl⟩
  rw [← hxn] at hn ⊢
  clear hC hc hb0 hk2 hxn hl hb
  go_enter Try.func26, Try.ntmps26
  go_upto_region 1 with fail
  rw [← hW0, ← hb2]
  clear hW0 hb2
  go_wp2_with fail
  refine hn.mono ?_
  rintro e W1 ⟨b, rfl, hd, hge, hb1⟩
  have HK21 := Aside0.mk (blk_below HK20.out hb1)
  have HB1 := Aside0.mk (below_step HB0.out hb1)
  have hf := from_any W1.heap.size b W1 xs hd (Nat.le_refl _)
  have HGE := Aside0.mk hge
  clear hn hd hge hb1
  go_wp2_with fail
  refine hf.mono ?_
  rintro e W2 ⟨rfl, hd, hf2⟩
  have HS12 : Aside0 (W1.heap.size ≤ W2.heap.size) := ⟨hf2.size⟩
  have HD2 := Aside0.mk hd
  have HK22 := Aside0.mk ((hf2.block b2 (blk_lt HK21.out) (by have h1 := HGE.out; have h2 := blk_lt HK20.out; omega)).trans HK21.out)
  have HB2w : Aside0 (Below w.heap.size w W2) := ⟨HB1.out.trans (hf2.below HB1.out.size (fun k hk => by have h1 := HGE.out; have h2 := HB0.out.size; omega))⟩
  obtain ⟨q, hq⟩ : ∃ q, q = metaV xs := ⟨_, rfl⟩
  rw [← hq]
  have HQ := Aside0.mk hq
  clear hf hd hf2 hq
  go_upto_region 3 with (first | ((with_reducible refine gate_store (t := 44) (p := 5) rfl ?_); refine put44 q rfl rfl rfl rfl rfl (blk_new _ _) rfl ?_; intro w5 hk5 hf5 hb5 hs5; have HK5 := Aside0.mk hk5; have HB5 := Aside0.mk (hb5 W2.heap.size W2 (Nat.le_refl _) (below_alloc (Below.refl _ _) _)); clear hk5 hf5 hb5 hs5))
  obtain ⟨b5, hb5⟩ : ∃ b5, b5 = W2.heap.size := ⟨_, rfl⟩
  rw [← hb5] at HK5 ⊢
  clear hb5
  have HK25 := Aside0.mk (blk_below HK22.out HB5.out)
  have HB5w := Aside0.mk (below_step HB2w.out HB5.out)
  have hdo := rdone_any _ b w5 _ _ (RDec.below HD2.out (below_low HB5.out HS12.out))
  obtain ⟨dv, hdv⟩ : ∃ dv, dv = doneV (st xs 8).1 (st xs 8).2 := ⟨_, rfl⟩
  rw [← hdv] at hdo
  have HDV := Aside0.mk hdv
  have hk5 := HK5.out
  have d0 := blk_cell hk5 0
  have d1 := blk_cell hk5 1
  have d2 := blk_cell hk5 2
  have d3 := blk_cell hk5 3
  have d4 := blk_cell hk5 4
  have d5 := blk_cell hk5 5
  have d6 := blk_cell hk5 6
  have d7 := blk_cell hk5 7
  simp [cells8] at d0 d1 d2 d3 d4 d5 d6 d7
  clear hk5 hdv
  by_cases h0 : dv = 0
  · have e1 : (dv != 0) = false := by simpa using h0
    have e2 : (dv == 0) = true := by simpa using h0
    have HH0 := Aside0.mk h0
    have HRR := Aside0.mk (rright_calls q)
    clear h0
    go_wp2_with fail
    refine hdo.mono ?_
    rintro e w6 ⟨rfl, m, rfl⟩
    have hrr := HRR.out (w5.drewN m)
    clear hdo
    by_cases hR : rightB q = true
    · have HG : Aside0 (getV xs = (q, 0)) := ⟨by unfold getV; rw [← HQ.out, ← HDV.out, if_pos ⟨HH0.out, hR⟩]⟩
      rw [hR] at hrr
      clear hR
      go_wp2_with fail
      refine hrr.mono ?_
      rintro e w7 ⟨rfl, hb7⟩
      have hk27 := blk_below HK25.out (show Below w5.heap.size w5 w7 from ⟨hb7.os, hb7.tape, hb7.output, hb7.size, hb7.block⟩)
      have hk57 := blk_below HK5.out (show Below w5.heap.size w5 w7 from ⟨hb7.os, hb7.tape, hb7.output, hb7.size, hb7.block⟩)
      have HB7 := Aside0.mk (below_step HB5w.out (show Below w5.heap.size w5 w7 from ⟨hb7.os, hb7.tape, hb7.output, hb7.size, hb7.block⟩))
      have HK27 := Aside0.mk hk27
      replace d0 := blk_cell hk57 0
      replace d1 := blk_cell hk57 1
      replace d2 := blk_cell hk57 2
      replace d3 := blk_cell hk57 3
      replace d4 := blk_cell hk57 4
      replace d5 := blk_cell hk57 5
      replace d6 := blk_cell hk57 6
      replace d7 := blk_cell hk57 7
      simp [cells8] at d0 d1 d2 d3 d4 d5 d6 d7
      clear hrr hb7 hk27 hk57
      go_wp2_with (first | ((with_reducible refine gate_store (t := 44) (p := 2) rfl ?_); refine put44 q rfl rfl rfl rfl rfl HK27.out rfl ?_; intro w8 hk8 hf8 hb8 hs8; have HK8 := Aside0.mk hk8; have HB8 := Aside0.mk (hb8 w.heap.size w (by rw [HB2.out]; exact Nat.le_refl _) HB7.out); clear hk8 hf8 hb8 hs8))
      refine bodyPost_ret (results_ct rfl _ _ b2 44 (cells8 q).toArray (0, 0) _ rfl HK8.out Try.underlying44 rfl (by kernel_rfl)) rfl ?_
      exact ⟨by rw [HG.out]; rfl, HB8.out⟩
    · have HG : Aside0 (getV xs = (z40, 21)) := ⟨by unfold getV; rw [if_neg (fun h => hR (by rw [HQ.out]; exact h.2))]⟩
      have hRf : rightB q = false := by simpa using hR
      rw [hRf] at hrr
      clear hR hRf
      go_wp2_with fail
      refine hrr.mono ?_
      rintro e w7 ⟨rfl, hb7⟩
      have hk27 := blk_below HK25.out (show Below w5.heap.size w5 w7 from ⟨hb7.os, hb7.tape, hb7.output, hb7.size, hb7.block⟩)
      have HB7 := Aside0.mk (below_step HB5w.out (show Below w5.heap.size w5 w7 from ⟨hb7.os, hb7.tape, hb7.output, hb7.size, hb7.block⟩))
      have HK27 := Aside0.mk hk27
      clear hrr hb7 hk27
      go_wp2_with (first | ((with_reducible refine gate_store (t := 44) (p := 2) rfl ?_); refine put44 z40 rfl rfl rfl rfl rfl HK27.out rfl ?_; intro w8 hk8 hf8 hb8 hs8; have HK8 := Aside0.mk hk8; have HB8 := Aside0.mk (hb8 w.heap.size w (by rw [HB2.out]; exact Nat.le_refl _) HB7.out); clear hk8 hf8 hb8 hs8))
      refine bodyPost_ret (results_ct rfl _ _ b2 44 (cells8 z40).toArray (0, 0) _ rfl HK8.out Try.underlying44 rfl (by kernel_rfl)) rfl ?_
      exact ⟨by rw [HG.out]; rfl, HB8.out⟩
  · have e1 : (dv != 0) = true := by simpa using h0
    have e2 : (dv == 0) = false := by simpa using h0
    have HG : Aside0 (getV xs = (z40, 21)) := ⟨by unfold getV; rw [if_neg (fun h => h0 (by rw [HDV.out]; exact h.1))]⟩
    clear h0
    go_wp2_with fail
    refine hdo.mono ?_
    rintro e w6 ⟨rfl, m, rfl⟩
    have HK26 : Aside0 ((w5.drewN m).heap[b2]? = _) := ⟨HK25.out⟩
    have HB6 : Aside0 (Below w.heap.size w (w5.drewN m)) := ⟨pw_below_drewN HB5w.out _⟩
    clear hdo
    go_wp2_with (first | ((with_reducible refine gate_store (t := 44) (p := 2) rfl ?_); refine put44 z40 rfl rfl rfl rfl rfl HK26.out rfl ?_; intro w8 hk8 hf8 hb8 hs8; have HK8 := Aside0.mk hk8; have HB8 := Aside0.mk (hb8 w.heap.size w (by rw [HB2.out]; exact Nat.le_refl _) HB6.out); clear hk8 hf8 hb8 hs8))
    refine bodyPost_ret (results_ct rfl _ _ b2 44 (cells8 z40).toArray (0, 0) _ rfl HK8.out Try.underlying44 rfl (by kernel_rfl)) rfl ?_
    exact ⟨by rw [HG.out]; rfl, HB8.out⟩
end Go.Proofs.Ytdohacnjngkkiaa.Xf
namespace Go.Proofs.Ytdohacnjngkkiaa.Xg
set_option linter.unusedVariables false
set_option linter.unusedSimpArgs false
open Go.RowKit Go.Proofs.YtdohacnjngkkiaaW.PrintWords Go.Proofs.YtdohacnjngkkiaaW.PrintLast Go.Proofs.YtdohacnjngkkiaaW.PrintMore
open Go.Proofs.Ytdohacnjngkkiaa.Xd Go.Proofs.Ytdohacnjngkkiaa.Xe Go.Proofs.Ytdohacnjngkkiaa.Xl Go.Proofs.Ytdohacnjngkkiaa.Xr Go.Proofs.Ytdohacnjngkkiaa.Xf Go.Proofs.Ytdohacnjngkkiaa.Fr Go.Proofs.Ytdohacnjngkkiaa.Sm Go.Proofs.Ytdohacnjngkkiaa.Pm Go.Proofs.Ytdohacnjngkkiaa.Pf Go.Proofs.Ytdohacnjngkkiaa.Bx Go.Proofs.Ytdohacnjngkkiaa.B
theorem info5' : (Try.prog.info? 5).map (fun i => (i.zero, i.size, i.bytes)) = some (some (.int .u8 0), 1, 1) := by kernel_rfl
/-- a decoder of the program's at block b; its blocks are below N -/
def PDec (w : World) (N b : Nat) (xs : List Int) (er : Int) : Prop :=
  ∃ A c, w.heap[b]? = some (.cells #[.slice A xs.length c, .int .i64 er, .bool true] 97 (0, 0)) ∧ xs.length ≤ c ∧ (Kd.int .u8).C w A xs.length xs ∧ (∀ ad, A = some ad → 0 < xs.length → ad.block ≠ b) ∧ Byts xs ∧ xs.length ≤ 4611686018427387904 ∧ b < N ∧ (∀ ad, A = some ad → 0 < xs.length → ad.block < N)
theorem PDec.dec {w : World} {N b : Nat} {xs : List Int} {er : Int} (h : PDec w N b xs er) : Dec w b xs er := by
  obtain ⟨A, c, h1, h2, h3, h4, _⟩ := h
  exact ⟨A, c, h1, h2, h3, h4⟩
theorem pdec_lt {w : World} {N b : Nat} {xs : List Int} {er : Int} (h : PDec w N b xs er) : b < N := by
  obtain ⟨A, c, h1, h2, h3, h4, h5, h6, h7, _⟩ := h
  exact h7
theorem PDec.below {w w' : World} {N b : Nat} {ys : List Int} {er : Int} (h : PDec w N b ys er) (hb : Below N w w') : PDec w' N b ys er := by
  obtain ⟨A, c, hblk, hc, hC, hne, hbyt, hl, hbN, hAN⟩ := h
  refine ⟨A, c, (hb.block b hbN).trans hblk, hc, ?_, hne, hbyt, hl, hbN, hAN⟩
  refine Kd.C_of_reads (d := (0 : Int)) ?_
  obtain ⟨h1, h2, h3⟩ := Kd.reads_of_C (d := (0 : Int)) hC
  refine ⟨h1, h2, fun hp => ?_⟩
  obtain ⟨ad, e, hcell⟩ := h3 hp
  refine ⟨ad, e, fun j hj => ?_⟩
  have hlt : (ad.add j).block < N := by
    have hb : (ad.add j).block = ad.block := by unfold Addr.add; split <;> rfl
    rw [hb]
    exact hAN ad e hp
  exact (hb.cell hlt).trans (hcell j hj)
theorem far_P {A A' : Option Addr} {c s n : Nat} {Q : Nat → Prop} (hA : A' = if c = s then A else A.map fun x => x.add (s * 1)) (hne : ∀ ad, A = some ad → 0 < n → Q ad.block) :
    ∀ ad, A' = some ad → 0 < n - s → Q ad.block := by
  intro ad e h
  rw [hA] at e
  split at e
  · exact hne ad e (by omega)
  · cases A with
    | none => simp at e
    | some a =>
      simp at e
      have := hne a rfl (by omega)
      rw [← e]
      unfold Addr.add
      split <;> exact this
set_option maxHeartbeats 1000000 in
theorem pnumber_any (N b : Nat) (w : World) (xs : List Int) (er : Int) (h : PDec w N b xs er) :
    Calls Try.prog 49 #[.pointer (some ⟨b, 0, none⟩)] w fun e w' => e = .returned (.int .i64 (stepD xs er).1) ∧ PDec w' N b (stepD xs er).2.1 (stepD xs er).2.2 ∧ Fr (fun k => k = b) w w' := by
  have HH := Aside0.mk h
  obtain ⟨A, c, hblk, hc, hC, hne, hb, hlx, hbN, hAN⟩ := h
  have HX := Aside0.mk (And.intro hb (And.intro hlx (And.intro hbN hAN)))
  by_cases he : er = 0
  · have HD := Aside0.mk (show stepD xs er = ((dn 8 xs 0 0).1, xs.drop (dn 8 xs 0 0).2.1.toNat, (dn 8 xs 0 0).2.2) from by unfold stepD; rw [if_pos he])
    subst he
    have hdb := dn_bd 8 xs 0 0
    obtain ⟨⟨n, si, e0⟩, hd⟩ : ∃ d, d = dn 8 xs 0 0 := ⟨_, rfl⟩
    rw [← hd] at HD hdb
    obtain ⟨s, hs0⟩ : ∃ s : Nat, si = (s : Int) := ⟨si.toNat, by have := hdb.1; simp only at this; omega⟩
    subst hs0
    have hs : s ≤ xs.length := by have := hdb.2; simp only at this; omega
    have HF := Aside0.mk ((number_is' xs hb).trans (congrArg some hd.symm))
    have c0 := blk_cell hblk 0
    have c1 := blk_cell hblk 1
    have c2 := blk_cell hblk 2
    have f0 := blk_frozen hblk 0
    have f1 := blk_frozen hblk 1
    simp at c0 c1 c2
    have HB := Aside0.mk hblk
    have hn := none_false b w c2
    have HN := Aside0.mk hn
    obtain ⟨i0, hi0, _, hsz, _⟩ := info_parts info5'
    have hcut := cut_from (P := Try.prog) 52 5 .i64 Try.underlying52 hi0 1 hsz A xs.length c (s : Int) (by omega) (by omega)
    rw [Int.toNat_natCast] at hcut
    obtain ⟨A', hA'⟩ : ∃ A', A' = (if c = s then A else A.map fun x => x.add (s * 1)) := ⟨_, rfl⟩
    rw [← hA'] at hcut
    have hC' := Kd.C_drop (m := s) hC hs hc
    have hA2 : (if c = s then A else A.map fun x => x.add (s * (Kd.int .u8).sz)) = A' := by rw [hA']; rfl
    rw [hA2] at hC'
    have HC' := Aside0.mk hC'
    have HA' := Aside0.mk hA'
    have HCT := Aside0.mk hcut
    have HNE := Aside0.mk hne
    clear hblk hcut hn hd hC' hA2 hA' hb hlx hbN hAN hne hdb
    go_enter Try.func49, Try.ntmps49
    go_wp2_with fail
    refine HN.out.mono ?_
    rintro e w' ⟨rfl, rfl⟩
    go_wp2_with fail
    refine (codec_number.calls 9 A c xs n s e0 _ hC hc HF.out).mono ?_
    rintro e w' ⟨rfl, ⟨nd, rfl⟩⟩
    have hcut := HCT.out
    go_wp2_with fail
    go_region
    go_wp2
    go_ret
    have fr : Fr (fun k => k = b) w (((w.drewN (nd + 1)).setCell ⟨b, 1, none⟩ (.int .i64 e0)).setCell ⟨b, 0, none⟩ (.slice A' (xs.length - s) (c - s))) :=
      Fr.setCell (S := fun k => k = b) (Fr.setCell (S := fun k => k = b) ((Fr.refl _ w).drewN _) (.inl rfl) _) (.inl rfl) _
    have hl : (xs.drop s).length = xs.length - s := List.length_drop
    have far := far_P (Q := fun k => k ≠ b) HA'.out HNE.out
    have farN := far_P (Q := fun k => k < N) HA'.out HX.out.2.2.2
    rw [HD.out]
    refine ⟨rfl, ?_, fr⟩
    show PDec _ N b (xs.drop ((s : Int).toNat)) e0
    rw [Int.toNat_natCast]
    refine ⟨A', c - s, ?_, by omega, fr.C HC'.out (fun ad e h => far ad e (by omega)), fun ad e h => far ad e (by omega), fun x hx => HX.out.1 x (List.mem_of_mem_drop hx), by have := HX.out.2.1; omega, HX.out.2.2.1, fun ad e h => farN ad e (by omega)⟩
    rw [hl]
    exact blk_put (blk_put (blk_drewN HB.out _) 1 _ rfl) 0 _ rfl
  · have HD := Aside0.mk (show stepD xs er = (0, xs, er) from by unfold stepD; rw [if_neg he])
    have c1 := blk_cell hblk 1
    have c2 := blk_cell hblk 2
    simp at c1 c2
    have HN := Aside0.mk (none_false b w c2)
    have hen : (er != 0) = true := by simpa using he
    have hen2 : (er == 0) = false := by simpa using he
    clear he hblk hC hne hb hlx hbN hAN
    go_enter Try.func49, Try.ntmps49
    go_wp2_with fail
    refine HN.out.mono ?_
    rintro e w' ⟨rfl, rfl⟩
    go_wp2
    go_ret
    exact ⟨by rw [HD.out]; rfl, by rw [HD.out]; exact HH.out, Fr.refl _ _⟩
theorem pdone_any (N b : Nat) (w : World) (xs : List Int) (er : Int) (h : PDec w N b xs er) : Calls Try.prog 50 #[.pointer (some ⟨b, 0, none⟩)] w fun e w' => e = .returned (.int .i64 (doneV xs er)) ∧ w = w' := by
  have HN := Aside0.mk (err_ok b w xs er h.dec)
  obtain ⟨A, c, hblk, hc, hC, hne, hb, hlx, hbN, hAN⟩ := h
  have c0 := blk_cell hblk 0
  simp at c0
  obtain ⟨n, hn⟩ : ∃ n, n = xs.length := ⟨_, rfl⟩
  rw [← hn] at c0
  by_cases he : er = 0
  · by_cases hx : 0 < xs.length
    · have HD : Aside0 (doneV xs er = 21) := ⟨by unfold doneV; rw [if_pos he, if_pos hx]⟩
      have e1 : (er != 0) = false := by simpa using he
      have e2 : (er == 0) = true := by simpa using he
      have h1 : decide (0 < n) = true := decide_eq_true (by omega)
      have h2 : decide ((0 : Int) < (n : Int)) = true := decide_eq_true (by omega)
      have h3 : 0 < n := by omega
      clear hblk hC hne hb hlx hbN hAN hn hx he hc
      go_enter Try.func50, Try.ntmps50
      go_wp2_with fail
      refine HN.out.mono ?_
      rintro e w' ⟨rfl, rfl⟩
      go_wp2
      go_ret
      exact ⟨by rw [HD.out]; rfl, rfl⟩
    · have HD : Aside0 (doneV xs er = 0) := ⟨by unfold doneV; rw [if_pos he, if_neg hx]⟩
      have e1 : (er != 0) = false := by simpa using he
      have e2 : (er == 0) = true := by simpa using he
      have h1 : decide (0 < n) = false := decide_eq_false (by omega)
      have h2 : decide ((0 : Int) < (n : Int)) = false := decide_eq_false (by omega)
      have h3 : ¬ 0 < n := by omega
      clear hblk hC hne hb hlx hbN hAN hn hx he hc
      go_enter Try.func50, Try.ntmps50
      go_wp2_with fail
      refine HN.out.mono ?_
      rintro e w' ⟨rfl, rfl⟩
      go_wp2
      go_ret
      exact ⟨by rw [HD.out]; rfl, rfl⟩
  · have HD : Aside0 (doneV xs er = er) := ⟨by unfold doneV; rw [if_neg he]⟩
    have e1 : (er != 0) = true := by simpa using he
    have e2 : (er == 0) = false := by simpa using he
    clear hblk hC hne hb hlx hbN hAN hn he hc
    go_enter Try.func50, Try.ntmps50
    go_wp2_with fail
    refine HN.out.mono ?_
    rintro e w' ⟨rfl, rfl⟩
    go_wp2
    go_ret
    exact ⟨by rw [HD.out]; rfl, rfl⟩
theorem pnew_any (A : Option Addr) (c : Nat) (xs : List Int) (w : World) (hC : (Kd.int .u8).C w A xs.length xs) (hc : xs.length ≤ c) (hl : xs.length ≤ 140737488351232) (hb : Byts xs) :
    Calls Try.prog 48 #[.slice A xs.length c] w fun e w' => ∃ b, e = .returned (.pointer (some ⟨b, 0, none⟩)) ∧ PDec w' w'.heap.size b xs 0 ∧ w.heap.size ≤ b ∧ Below w.heap.size w w' := by
  refine (new_any A c xs w hC hc hl).mono ?_
  rintro e w' ⟨b, rfl, ⟨A1, c1, h1, h2, h3, h4⟩, hge, hbl⟩
  exact ⟨b, rfl, ⟨A1, c1, h1, h2, h3, h4, hb, by omega, blk_lt h1, fun ad e hp => C_lt h3 ad e hp⟩, hge, hbl⟩
theorem pnum_k (N b : Nat) (w : World) (xs : List Int) (k : Nat) (h : PDec w N b (st xs k).1 (st xs k).2) :
    Calls Try.prog 49 #[.pointer (some ⟨b, 0, none⟩)] w fun e w' => e = .returned (.int .i64 (vl xs k)) ∧ PDec w' N b (st xs (k + 1)).1 (st xs (k + 1)).2 ∧ Fr (fun j => j = b) w w' := pnumber_any N b w _ _ h
set_option maxHeartbeats 8000000 in
set_option maxRecDepth 100000 in
theorem pget_any (A : Option Addr) (c : Nat) (xs : List Int) (w : World) (hC : (Kd.int .u8).C w A xs.length xs) (hc : xs.length ≤ c) (hl : xs.length ≤ 140737488351232) (hb : Byts xs) :
    Calls Try.prog 25 #[.slice A xs.length c] w fun e w' => e = .returned (.tuple #[ag (getV xs).1, .int .i64 (getV xs).2]) ∧ Below w.heap.size w w' := by
  obtain ⟨W0, hW0⟩ : ∃ W0, W0 = w.alloc (.cells #[.int .i64 0, .int .i64 0, .int .i64 0, .int .i64 0, .int .i64 0, .int .i64 0, .int .i64 0, .int .i64 0] 40) := ⟨_, rfl⟩
  have hb0 : Below w.heap.size w W0 := by rw [hW0]; exact below_alloc (Below.refl _ _) _
  have hk2 : W0.heap[w.heap.size]? = some (.cells #[.int .i64 0, .int .i64 0, .int .i64 0, .int .i64 0, .int .i64 0, .int .i64 0, .int .i64 0, .int .i64 0] 40 (0, 0)) := by rw [hW0]; exact blk_new _ _
  obtain ⟨b2, hb2⟩ : ∃ b2, b2 = w.heap.size := ⟨_, rfl⟩
  rw [← hb2] at hk2
  have HB2 := Aside0.mk hb2
  have HK20 := Aside0.mk hk2
  have HB0 := Aside0.mk hb0
  have hn := pnew_any A c xs W0 (Kd.C_below hC hb0) hc hl hb
  obtain ⟨n, hxn⟩ : ∃ n, n = xs.length := ⟨_, rfl⟩
  rw [← hxn] at hn ⊢
  clear hC hc hb0 hk2 hxn hl hb
  go_enter Try.func25, Try.ntmps25
  go_upto_region 1 with fail
  rw [← hW0, ← hb2]
  clear hW0 hb2
  go_wp2_with fail
  refine hn.mono ?_
  rintro e V ⟨b, rfl, hd, hge, hb1⟩
  have HK2V := Aside0.mk (blk_below HK20.out hb1)
  have HBV := Aside0.mk (below_step HB0.out hb1)
  have HGE := Aside0.mk hge
  have HDV := Aside0.mk hd
  have HLT := Aside0.mk (pdec_lt hd)
  clear hn hd hge hb1
  go_upto_region 3 with fail
  obtain ⟨N, hN⟩ : ∃ N, N = V.heap.size := ⟨_, rfl⟩
  obtain ⟨W0', hW⟩ : ∃ W, W = V.alloc (.cells #[.int .i64 0, .int .i64 0, .int .i64 0, .int .i64 0, .int .i64 0, .int .i64 0, .int .i64 0, .int .i64 0] 40) := ⟨_, rfl⟩
  rw [← hW, ← hN]
  have HK3W0 : Aside0 (W0'.heap[N]? = some (.cells #[.int .i64 0, .int .i64 0, .int .i64 0, .int .i64 0, .int .i64 0, .int .i64 0, .int .i64 0, .int .i64 0] 40 (0, 0))) := ⟨by rw [hW, hN]; exact blk_new _ _⟩
  have hbl : Below V.heap.size V W0' := by rw [hW]; exact below_alloc (Below.refl _ _) _
  have HK2W0 := Aside0.mk (blk_below HK2V.out hbl)
  have HBW0 := Aside0.mk (below_step HBV.out hbl)
  have HD0 : Aside0 (PDec W0' N b (st xs 0).1 (st xs 0).2) := ⟨by rw [hN]; exact PDec.below HDV.out hbl⟩
  have HBB : Aside0 (w.heap.size ≤ b ∧ b < N ∧ w.heap.size < N ∧ b2 < N) := ⟨by have h1 := HGE.out; have h2 := HB0.out.size; have h3 := HLT.out; have h4 := blk_lt HK2V.out; have h5 := blk_lt HK20.out; have h6 := HB2.out; omega⟩
  have HGE2 : Aside0 (b2 < b) := ⟨by have h1 := HGE.out; have h2 := blk_lt HK20.out; omega⟩
  clear hW hN hbl HDV HK2V HBV HGE HLT
  go_wp2_with fail
  refine wp_loop_rounds 9 ?_
  rw [rounds_succ]
  have hidx : ∀ W, (Instr.index 82 (.agg #[.pointer (some ⟨N, 0, none⟩), .pointer (some ⟨N, 1, none⟩), .pointer (some ⟨N, 2, none⟩), .pointer (some ⟨N, 3, none⟩), .pointer (some ⟨N, 4, none⟩), .pointer (some ⟨N, 5, none⟩), .pointer (some ⟨N, 6, none⟩), .pointer (some ⟨N, 7, none⟩)]) (.int .i64 0)).run Try.prog W = .ok (.pointer (some ⟨N, 0, none⟩)) W := fun _ => by kernel_rfl
  have hn := pnum_k N b W0' xs 0 HD0.out
  go_wp2_with fail
  refine hn.mono ?_
  rintro e V1 ⟨rfl, hd, hf⟩
  have HE1 := Aside0.mk (show PDec V1 N b (st xs 1).1 (st xs 1).2 from hd)
  have HG1 : Aside0 (Below w.heap.size w V1) := ⟨HBW0.out.trans (hf.below (HBW0.out.size) (fun j hj => by have := HBB.out; omega))⟩
  have HK2V1 := Aside0.mk ((hf.block b2 (blk_lt HK2W0.out) (by have h1 := HBB.out; have h2 := HB2.out; have h3 := HGE2.out; omega)).trans HK2W0.out)
  have HK3V1 := Aside0.mk ((hf.block N (blk_lt HK3W0.out) (by have := HBB.out; omega)).trans HK3W0.out)
  clear hn hd hf hidx
  have cc := blk_cell HK3V1.out 0
  have cf := blk_frozen HK3V1.out 0
  simp at cc
  go_upto_region 7 with fail
  clear cc cf
  obtain ⟨W1, hW1⟩ : ∃ W1, W1 = V1.setCell ⟨N, 0, none⟩ (.int .i64 (vl xs 0)) := ⟨_, rfl⟩
  rw [← hW1]
  have HK3W1 : Aside0 (W1.heap[N]? = some (.cells #[.int .i64 (vl xs 0), .int .i64 0, .int .i64 0, .int .i64 0, .int .i64 0, .int .i64 0, .int .i64 0, .int .i64 0] 40 (0, 0))) := ⟨by
    have hp := blk_put HK3V1.out 0 (.int .i64 (vl xs 0)) rfl
    rw [hW1]
    simpa using hp⟩
  have hfar : ∀ j, j ≠ N → W1.heap[j]? = V1.heap[j]? := fun j hj => by rw [hW1]; exact Below.heap_setCell _ _ _ _ hj
  have hbl : Below N V1 W1 := ⟨by rw [hW1]; rfl, by rw [hW1]; rfl, by rw [hW1]; rfl, by rw [hW1]; simp, fun j hj => hfar j (by omega)⟩
  have HK2W1 := Aside0.mk ((hfar b2 (by have := HBB.out; omega)).trans HK2V1.out)
  have HD1 := Aside0.mk (PDec.below HE1.out hbl)
  have HBW1 := Aside0.mk (HG1.out.trans (below_low hbl (by have := HBB.out; omega)))
  clear hW1 hfar hbl
  go_wp2_with fail
  rw [rounds_succ]
  have hidx : ∀ W, (Instr.index 82 (.agg #[.pointer (some ⟨N, 0, none⟩), .pointer (some ⟨N, 1, none⟩), .pointer (some ⟨N, 2, none⟩), .pointer (some ⟨N, 3, none⟩), .pointer (some ⟨N, 4, none⟩), .pointer (some ⟨N, 5, none⟩), .pointer (some ⟨N, 6, none⟩), .pointer (some ⟨N, 7, none⟩)]) (.int .i64 1)).run Try.prog W = .ok (.pointer (some ⟨N, 1, none⟩)) W := fun _ => by kernel_rfl
  have hn := pnum_k N b W1 xs 1 HD1.out
  go_wp2_with fail
  refine hn.mono ?_
  rintro e V2 ⟨rfl, hd, hf⟩
  have HE2 := Aside0.mk (show PDec V2 N b (st xs 2).1 (st xs 2).2 from hd)
  have HG2 : Aside0 (Below w.heap.size w V2) := ⟨HBW1.out.trans (hf.below (HBW1.out.size) (fun j hj => by have := HBB.out; omega))⟩
  have HK2V2 := Aside0.mk ((hf.block b2 (blk_lt HK2W1.out) (by have h1 := HBB.out; have h2 := HB2.out; have h3 := HGE2.out; omega)).trans HK2W1.out)
  have HK3V2 := Aside0.mk ((hf.block N (blk_lt HK3W1.out) (by have := HBB.out; omega)).trans HK3W1.out)
  clear hn hd hf hidx
  have cc := blk_cell HK3V2.out 1
  have cf := blk_frozen HK3V2.out 1
  simp at cc
  go_upto_region 7 with fail
  clear cc cf
  obtain ⟨W2, hW2⟩ : ∃ W2, W2 = V2.setCell ⟨N, 1, none⟩ (.int .i64 (vl xs 1)) := ⟨_, rfl⟩
  rw [← hW2]
  have HK3W2 : Aside0 (W2.heap[N]? = some (.cells #[.int .i64 (vl xs 0), .int .i64 (vl xs 1), .int .i64 0, .int .i64 0, .int .i64 0, .int .i64 0, .int .i64 0, .int .i64 0] 40 (0, 0))) := ⟨by
    have hp := blk_put HK3V2.out 1 (.int .i64 (vl xs 1)) rfl
    rw [hW2]
    simpa using hp⟩
  have hfar : ∀ j, j ≠ N → W2.heap[j]? = V2.heap[j]? := fun j hj => by rw [hW2]; exact Below.heap_setCell _ _ _ _ hj
  have hbl : Below N V2 W2 := ⟨by rw [hW2]; rfl, by rw [hW2]; rfl, by rw [hW2]; rfl, by rw [hW2]; simp, fun j hj => hfar j (by omega)⟩
  have HK2W2 := Aside0.mk ((hfar b2 (by have := HBB.out; omega)).trans HK2V2.out)
  have HD2 := Aside0.mk (PDec.below HE2.out hbl)
  have HBW2 := Aside0.mk (HG2.out.trans (below_low hbl (by have := HBB.out; omega)))
  clear hW2 hfar hbl
  go_wp2_with fail
  rw [rounds_succ]
  have hidx : ∀ W, (Instr.index 82 (.agg #[.pointer (some ⟨N, 0, none⟩), .pointer (some ⟨N, 1, none⟩), .pointer (some ⟨N, 2, none⟩), .pointer (some ⟨N, 3, none⟩), .pointer (some ⟨N, 4, none⟩), .pointer (some ⟨N, 5, none⟩), .pointer (some ⟨N, 6, none⟩), .pointer (some ⟨N, 7, none⟩)]) (.int .i64 2)).run Try.prog W = .ok (.pointer (some ⟨N, 2, none⟩)) W := fun _ => by kernel_rfl
  have hn := pnum_k N b W2 xs 2 HD2.out
  go_wp2_with fail
  refine hn.mono ?_
  rintro e V3 ⟨rfl, hd, hf⟩
  have HE3 := Aside0.mk (show PDec V3 N b (st xs 3).1 (st xs 3).2 from hd)
  have HG3 : Aside0 (Below w.heap.size w V3) := ⟨HBW2.out.trans (hf.below (HBW2.out.size) (fun j hj => by have := HBB.out; omega))⟩
  have HK2V3 := Aside0.mk ((hf.block b2 (blk_lt HK2W2.out) (by have h1 := HBB.out; have h2 := HB2.out; have h3 := HGE2.out; omega)).trans HK2W2.out)
  have HK3V3 := Aside0.mk ((hf.block N (blk_lt HK3W2.out) (by have := HBB.out; omega)).trans HK3W2.out)
  clear hn hd hf hidx
  have cc := blk_cell HK3V3.out 2
  have cf := blk_frozen HK3V3.out 2
  simp at cc
  go_upto_region 7 with fail
  clear cc cf
  obtain ⟨W3, hW3⟩ : ∃ W3, W3 = V3.setCell ⟨N, 2, none⟩ (.int .i64 (vl xs 2)) := ⟨_, rfl⟩
  rw [← hW3]
  have HK3W3 : Aside0 (W3.heap[N]? = some (.cells #[.int .i64 (vl xs 0), .int .i64 (vl xs 1), .int .i64 (vl xs 2), .int .i64 0, .int .i64 0, .int .i64 0, .int .i64 0, .int .i64 0] 40 (0, 0))) := ⟨by
    have hp := blk_put HK3V3.out 2 (.int .i64 (vl xs 2)) rfl
    rw [hW3]
    simpa using hp⟩
  have hfar : ∀ j, j ≠ N → W3.heap[j]? = V3.heap[j]? := fun j hj => by rw [hW3]; exact Below.heap_setCell _ _ _ _ hj
  have hbl : Below N V3 W3 := ⟨by rw [hW3]; rfl, by rw [hW3]; rfl, by rw [hW3]; rfl, by rw [hW3]; simp, fun j hj => hfar j (by omega)⟩
  have HK2W3 := Aside0.mk ((hfar b2 (by have := HBB.out; omega)).trans HK2V3.out)
  have HD3 := Aside0.mk (PDec.below HE3.out hbl)
  have HBW3 := Aside0.mk (HG3.out.trans (below_low hbl (by have := HBB.out; omega)))
  clear hW3 hfar hbl
  go_wp2_with fail
  rw [rounds_succ]
  have hidx : ∀ W, (Instr.index 82 (.agg #[.pointer (some ⟨N, 0, none⟩), .pointer (some ⟨N, 1, none⟩), .pointer (some ⟨N, 2, none⟩), .pointer (some ⟨N, 3, none⟩), .pointer (some ⟨N, 4, none⟩), .pointer (some ⟨N, 5, none⟩), .pointer (some ⟨N, 6, none⟩), .pointer (some ⟨N, 7, none⟩)]) (.int .i64 3)).run Try.prog W = .ok (.pointer (some ⟨N, 3, none⟩)) W := fun _ => by kernel_rfl
  have hn := pnum_k N b W3 xs 3 HD3.out
  go_wp2_with fail
  refine hn.mono ?_
  rintro e V4 ⟨rfl, hd, hf⟩
  have HE4 := Aside0.mk (show PDec V4 N b (st xs 4).1 (st xs 4).2 from hd)
  have HG4 : Aside0 (Below w.heap.size w V4) := ⟨HBW3.out.trans (hf.below (HBW3.out.size) (fun j hj => by have := HBB.out; omega))⟩
  have HK2V4 := Aside0.mk ((hf.block b2 (blk_lt HK2W3.out) (by have h1 := HBB.out; have h2 := HB2.out; have h3 := HGE2.out; omega)).trans HK2W3.out)
  have HK3V4 := Aside0.mk ((hf.block N (blk_lt HK3W3.out) (by have := HBB.out; omega)).trans HK3W3.out)
  clear hn hd hf hidx
  have cc := blk_cell HK3V4.out 3
  have cf := blk_frozen HK3V4.out 3
  simp at cc
  go_upto_region 7 with fail
  clear cc cf
  obtain ⟨W4, hW4⟩ : ∃ W4, W4 = V4.setCell ⟨N, 3, none⟩ (.int .i64 (vl xs 3)) := ⟨_, rfl⟩
  rw [← hW4]
  have HK3W4 : Aside0 (W4.heap[N]? = some (.cells #[.int .i64 (vl xs 0), .int .i64 (vl xs 1), .int .i64 (vl xs 2), .int .i64 (vl xs 3), .int .i64 0, .int .i64 0, .int .i64 0, .int .i64 0] 40 (0, 0))) := ⟨by
    have hp := blk_put HK3V4.out 3 (.int .i64 (vl xs 3)) rfl
    rw [hW4]
    simpa using hp⟩
  have hfar : ∀ j, j ≠ N → W4.heap[j]? = V4.heap[j]? := fun j hj => by rw [hW4]; exact Below.heap_setCell _ _ _ _ hj
  have hbl : Below N V4 W4 := ⟨by rw [hW4]; rfl, by rw [hW4]; rfl, by rw [hW4]; rfl, by rw [hW4]; simp, fun j hj => hfar j (by omega)⟩
  have HK2W4 := Aside0.mk ((hfar b2 (by have := HBB.out; omega)).trans HK2V4.out)
  have HD4 := Aside0.mk (PDec.below HE4.out hbl)
  have HBW4 := Aside0.mk (HG4.out.trans (below_low hbl (by have := HBB.out; omega)))
  clear hW4 hfar hbl
  go_wp2_with fail
  rw [rounds_succ]
  have hidx : ∀ W, (Instr.index 82 (.agg #[.pointer (some ⟨N, 0, none⟩), .pointer (some ⟨N, 1, none⟩), .pointer (some ⟨N, 2, none⟩), .pointer (some ⟨N, 3, none⟩), .pointer (some ⟨N, 4, none⟩), .pointer (some ⟨N, 5, none⟩), .pointer (some ⟨N, 6, none⟩), .pointer (some ⟨N, 7, none⟩)]) (.int .i64 4)).run Try.prog W = .ok (.pointer (some ⟨N, 4, none⟩)) W := fun _ => by kernel_rfl
  have hn := pnum_k N b W4 xs 4 HD4.out
  go_wp2_with fail
  refine hn.mono ?_
  rintro e V5 ⟨rfl, hd, hf⟩
  have HE5 := Aside0.mk (show PDec V5 N b (st xs 5).1 (st xs 5).2 from hd)
  have HG5 : Aside0 (Below w.heap.size w V5) := ⟨HBW4.out.trans (hf.below (HBW4.out.size) (fun j hj => by have := HBB.out; omega))⟩
  have HK2V5 := Aside0.mk ((hf.block b2 (blk_lt HK2W4.out) (by have h1 := HBB.out; have h2 := HB2.out; have h3 := HGE2.out; omega)).trans HK2W4.out)
  have HK3V5 := Aside0.mk ((hf.block N (blk_lt HK3W4.out) (by have := HBB.out; omega)).trans HK3W4.out)
  clear hn hd hf hidx
  have cc := blk_cell HK3V5.out 4
  have cf := blk_frozen HK3V5.out 4
  simp at cc
  go_upto_region 7 with fail
  clear cc cf
  obtain ⟨W5, hW5⟩ : ∃ W5, W5 = V5.setCell ⟨N, 4, none⟩ (.int .i64 (vl xs 4)) := ⟨_, rfl⟩
  rw [← hW5]
  have HK3W5 : Aside0 (W5.heap[N]? = some (.cells #[.int .i64 (vl xs 0), .int .i64 (vl xs 1), .int .i64 (vl xs 2), .int .i64 (vl xs 3), .int .i64 (vl xs 4), .int .i64 0, .int .i64 0, .int .i64 0] 40 (0, 0))) := ⟨by
    have hp := blk_put HK3V5.out 4 (.int .i64 (vl xs 4)) rfl
    rw [hW5]
    simpa using hp⟩
  have hfar : ∀ j, j ≠ N → W5.heap[j]? = V5.heap[j]? := fun j hj => by rw [hW5]; exact Below.heap_setCell _ _ _ _ hj
  have hbl : Below N V5 W5 := ⟨by rw [hW5]; rfl, by rw [hW5]; rfl, by rw [hW5]; rfl, by rw [hW5]; simp, fun j hj => hfar j (by omega)⟩
  have HK2W5 := Aside0.mk ((hfar b2 (by have := HBB.out; omega)).trans HK2V5.out)
  have HD5 := Aside0.mk (PDec.below HE5.out hbl)
  have HBW5 := Aside0.mk (HG5.out.trans (below_low hbl (by have := HBB.out; omega)))
  clear hW5 hfar hbl
  go_wp2_with fail
  rw [rounds_succ]
  have hidx : ∀ W, (Instr.index 82 (.agg #[.pointer (some ⟨N, 0, none⟩), .pointer (some ⟨N, 1, none⟩), .pointer (some ⟨N, 2, none⟩), .pointer (some ⟨N, 3, none⟩), .pointer (some ⟨N, 4, none⟩), .pointer (some ⟨N, 5, none⟩), .pointer (some ⟨N, 6, none⟩), .pointer (some ⟨N, 7, none⟩)]) (.int .i64 5)).run Try.prog W = .ok (.pointer (some ⟨N, 5, none⟩)) W := fun _ => by kernel_rfl
  have hn := pnum_k N b W5 xs 5 HD5.out
  go_wp2_with fail
  refine hn.mono ?_
  rintro e V6 ⟨rfl, hd, hf⟩
  have HE6 := Aside0.mk (show PDec V6 N b (st xs 6).1 (st xs 6).2 from hd)
  have HG6 : Aside0 (Below w.heap.size w V6) := ⟨HBW5.out.trans (hf.below (HBW5.out.size) (fun j hj => by have := HBB.out; omega))⟩
  have HK2V6 := Aside0.mk ((hf.block b2 (blk_lt HK2W5.out) (by have h1 := HBB.out; have h2 := HB2.out; have h3 := HGE2.out; omega)).trans HK2W5.out)
  have HK3V6 := Aside0.mk ((hf.block N (blk_lt HK3W5.out) (by have := HBB.out; omega)).trans HK3W5.out)
  clear hn hd hf hidx
  have cc := blk_cell HK3V6.out 5
  have cf := blk_frozen HK3V6.out 5
  simp at cc
  go_upto_region 7 with fail
  clear cc cf
  obtain ⟨W6, hW6⟩ : ∃ W6, W6 = V6.setCell ⟨N, 5, none⟩ (.int .i64 (vl xs 5)) := ⟨_, rfl⟩
  rw [← hW6]
  have HK3W6 : Aside0 (W6.heap[N]? = some (.cells #[.int .i64 (vl xs 0), .int .i64 (vl xs 1), .int .i64 (vl xs 2), .int .i64 (vl xs 3), .int .i64 (vl xs 4), .int .i64 (vl xs 5), .int .i64 0, .int .i64 0] 40 (0, 0))) := ⟨by
    have hp := blk_put HK3V6.out 5 (.int .i64 (vl xs 5)) rfl
    rw [hW6]
    simpa using hp⟩
  have hfar : ∀ j, j ≠ N → W6.heap[j]? = V6.heap[j]? := fun j hj => by rw [hW6]; exact Below.heap_setCell _ _ _ _ hj
  have hbl : Below N V6 W6 := ⟨by rw [hW6]; rfl, by rw [hW6]; rfl, by rw [hW6]; rfl, by rw [hW6]; simp, fun j hj => hfar j (by omega)⟩
  have HK2W6 := Aside0.mk ((hfar b2 (by have := HBB.out; omega)).trans HK2V6.out)
  have HD6 := Aside0.mk (PDec.below HE6.out hbl)
  have HBW6 := Aside0.mk (HG6.out.trans (below_low hbl (by have := HBB.out; omega)))
  clear hW6 hfar hbl
  go_wp2_with fail
  rw [rounds_succ]
  have hidx : ∀ W, (Instr.index 82 (.agg #[.pointer (some ⟨N, 0, none⟩), .pointer (some ⟨N, 1, none⟩), .pointer (some ⟨N, 2, none⟩), .pointer (some ⟨N, 3, none⟩), .pointer (some ⟨N, 4, none⟩), .pointer (some ⟨N, 5, none⟩), .pointer (some ⟨N, 6, none⟩), .pointer (some ⟨N, 7, none⟩)]) (.int .i64 6)).run Try.prog W = .ok (.pointer (some ⟨N, 6, none⟩)) W := fun _ => by kernel_rfl
  have hn := pnum_k N b W6 xs 6 HD6.out
  go_wp2_with fail
  refine hn.mono ?_
  rintro e V7 ⟨rfl, hd, hf⟩
  have HE7 := Aside0.mk (show PDec V7 N b (st xs 7).1 (st xs 7).2 from hd)
  have HG7 : Aside0 (Below w.heap.size w V7) := ⟨HBW6.out.trans (hf.below (HBW6.out.size) (fun j hj => by have := HBB.out; omega))⟩
  have HK2V7 := Aside0.mk ((hf.block b2 (blk_lt HK2W6.out) (by have h1 := HBB.out; have h2 := HB2.out; have h3 := HGE2.out; omega)).trans HK2W6.out)
  have HK3V7 := Aside0.mk ((hf.block N (blk_lt HK3W6.out) (by have := HBB.out; omega)).trans HK3W6.out)
  clear hn hd hf hidx
  have cc := blk_cell HK3V7.out 6
  have cf := blk_frozen HK3V7.out 6
  simp at cc
  go_upto_region 7 with fail
  clear cc cf
  obtain ⟨W7, hW7⟩ : ∃ W7, W7 = V7.setCell ⟨N, 6, none⟩ (.int .i64 (vl xs 6)) := ⟨_, rfl⟩
  rw [← hW7]
  have HK3W7 : Aside0 (W7.heap[N]? = some (.cells #[.int .i64 (vl xs 0), .int .i64 (vl xs 1), .int .i64 (vl xs 2), .int .i64 (vl xs 3), .int .i64 (vl xs 4), .int .i64 (vl xs 5), .int .i64 (vl xs 6), .int .i64 0] 40 (0, 0))) := ⟨by
    have hp := blk_put HK3V7.out 6 (.int .i64 (vl xs 6)) rfl
    rw [hW7]
    simpa using hp⟩
  have hfar : ∀ j, j ≠ N → W7.heap[j]? = V7.heap[j]? := fun j hj => by rw [hW7]; exact Below.heap_setCell _ _ _ _ hj
  have hbl : Below N V7 W7 := ⟨by rw [hW7]; rfl, by rw [hW7]; rfl, by rw [hW7]; rfl, by rw [hW7]; simp, fun j hj => hfar j (by omega)⟩
  have HK2W7 := Aside0.mk ((hfar b2 (by have := HBB.out; omega)).trans HK2V7.out)
  have HD7 := Aside0.mk (PDec.below HE7.out hbl)
  have HBW7 := Aside0.mk (HG7.out.trans (below_low hbl (by have := HBB.out; omega)))
  clear hW7 hfar hbl
  go_wp2_with fail
  rw [rounds_succ]
  have hidx : ∀ W, (Instr.index 82 (.agg #[.pointer (some ⟨N, 0, none⟩), .pointer (some ⟨N, 1, none⟩), .pointer (some ⟨N, 2, none⟩), .pointer (some ⟨N, 3, none⟩), .pointer (some ⟨N, 4, none⟩), .pointer (some ⟨N, 5, none⟩), .pointer (some ⟨N, 6, none⟩), .pointer (some ⟨N, 7, none⟩)]) (.int .i64 7)).run Try.prog W = .ok (.pointer (some ⟨N, 7, none⟩)) W := fun _ => by kernel_rfl
  have hn := pnum_k N b W7 xs 7 HD7.out
  go_wp2_with fail
  refine hn.mono ?_
  rintro e V8 ⟨rfl, hd, hf⟩
  have HE8 := Aside0.mk (show PDec V8 N b (st xs 8).1 (st xs 8).2 from hd)
  have HG8 : Aside0 (Below w.heap.size w V8) := ⟨HBW7.out.trans (hf.below (HBW7.out.size) (fun j hj => by have := HBB.out; omega))⟩
  have HK2V8 := Aside0.mk ((hf.block b2 (blk_lt HK2W7.out) (by have h1 := HBB.out; have h2 := HB2.out; have h3 := HGE2.out; omega)).trans HK2W7.out)
  have HK3V8 := Aside0.mk ((hf.block N (blk_lt HK3W7.out) (by have := HBB.out; omega)).trans HK3W7.out)
  clear hn hd hf hidx
  have cc := blk_cell HK3V8.out 7
  have cf := blk_frozen HK3V8.out 7
  simp at cc
  go_upto_region 7 with fail
  clear cc cf
  obtain ⟨W8, hW8⟩ : ∃ W8, W8 = V8.setCell ⟨N, 7, none⟩ (.int .i64 (vl xs 7)) := ⟨_, rfl⟩
  rw [← hW8]
  have HK3W8 : Aside0 (W8.heap[N]? = some (.cells #[.int .i64 (vl xs 0), .int .i64 (vl xs 1), .int .i64 (vl xs 2), .int .i64 (vl xs 3), .int .i64 (vl xs 4), .int .i64 (vl xs 5), .int .i64 (vl xs 6), .int .i64 (vl xs 7)] 40 (0, 0))) := ⟨by
    have hp := blk_put HK3V8.out 7 (.int .i64 (vl xs 7)) rfl
    rw [hW8]
    simpa using hp⟩
  have hfar : ∀ j, j ≠ N → W8.heap[j]? = V8.heap[j]? := fun j hj => by rw [hW8]; exact Below.heap_setCell _ _ _ _ hj
  have hbl : Below N V8 W8 := ⟨by rw [hW8]; rfl, by rw [hW8]; rfl, by rw [hW8]; rfl, by rw [hW8]; simp, fun j hj => hfar j (by omega)⟩
  have HK2W8 := Aside0.mk ((hfar b2 (by have := HBB.out; omega)).trans HK2V8.out)
  have HD8 := Aside0.mk (PDec.below HE8.out hbl)
  have HBW8 := Aside0.mk (HG8.out.trans (below_low hbl (by have := HBB.out; omega)))
  clear hW8 hfar hbl
  go_wp2_with fail
  rw [rounds_succ]
  have hk3 := HK3W8.out
  have d0 := blk_cell hk3 0
  have d1 := blk_cell hk3 1
  have d2 := blk_cell hk3 2
  have d3 := blk_cell hk3 3
  have d4 := blk_cell hk3 4
  have d5 := blk_cell hk3 5
  have d6 := blk_cell hk3 6
  have d7 := blk_cell hk3 7
  simp at d0 d1 d2 d3 d4 d5 d6 d7
  have z2 := blk_frozen hk3 2
  have z4 := blk_frozen hk3 4
  go_upto_region 10 with fail
  obtain ⟨W9, hW9⟩ : ∃ W9, W9 = (W8.setCell ⟨N, 2, none⟩ (.int .i64 (wrap64 (vl xs 2 + vl xs 1)))).setCell ⟨N, 4, none⟩ (.int .i64 (wrap64 (vl xs 4 + vl xs 3))) := ⟨_, rfl⟩
  rw [← hW9]
  obtain ⟨q, hq⟩ : ∃ q, q = metaV xs := ⟨_, rfl⟩
  have HQ := Aside0.mk hq
  have HK5 : Aside0 (W9.heap[N]? = some (.cells (cells8 q).toArray 40 (0, 0))) := ⟨by
    have hp := blk_put (blk_put hk3 2 (.int .i64 (wrap64 (vl xs 2 + vl xs 1))) rfl) 4 (.int .i64 (wrap64 (vl xs 4 + vl xs 3))) rfl
    rw [hW9, hq]
    unfold metaV
    rw [Int.add_comm (vl xs 1), Int.add_comm (vl xs 3)]
    simpa [cells8] using hp⟩
  have hfar : ∀ j, j ≠ N → W9.heap[j]? = W8.heap[j]? := fun j hj => by rw [hW9]; exact (Below.heap_setCell _ _ _ _ hj).trans (Below.heap_setCell _ _ _ _ hj)
  have hbl : Below N W8 W9 := ⟨by rw [hW9]; rfl, by rw [hW9]; rfl, by rw [hW9]; rfl, by rw [hW9]; simp, fun j hj => hfar j (by omega)⟩
  have HK25 := Aside0.mk ((hfar b2 (by have := HBB.out; omega)).trans HK2W8.out)
  have HD9 := Aside0.mk (PDec.below HD8.out hbl)
  have HB5w := Aside0.mk (HBW8.out.trans (below_low hbl (by have := HBB.out; omega)))
  clear hW9 hfar hbl hk3 d0 d1 d2 d3 d4 d5 d6 d7 z2 z4 hq
  have hdo := pdone_any _ b W9 _ _ HD9.out
  obtain ⟨dv, hdv⟩ : ∃ dv, dv = doneV (st xs 8).1 (st xs 8).2 := ⟨_, rfl⟩
  rw [← hdv] at hdo
  have HDV := Aside0.mk hdv
  have hk5 := HK5.out
  have d0 := blk_cell hk5 0
  have d1 := blk_cell hk5 1
  have d2 := blk_cell hk5 2
  have d3 := blk_cell hk5 3
  have d4 := blk_cell hk5 4
  have d5 := blk_cell hk5 5
  have d6 := blk_cell hk5 6
  have d7 := blk_cell hk5 7
  simp [cells8] at d0 d1 d2 d3 d4 d5 d6 d7
  have hrr := right_calls q W9
  unfold ag at hrr
  clear hk5 hdv
  by_cases h0 : dv = 0
  · have e1 : (dv != 0) = false := by simpa using h0
    have e2 : (dv == 0) = true := by simpa using h0
    have HH0 := Aside0.mk h0
    clear h0
    by_cases hR : rightB q = true
    · have HG : Aside0 (getV xs = (q, 0)) := ⟨by unfold getV; rw [← HQ.out, ← HDV.out, if_pos ⟨HH0.out, hR⟩]⟩
      rw [hR] at hrr
      clear hR
      go_wp2_with fail
      refine hdo.mono ?_
      rintro e w6 ⟨rfl, rfl⟩
      clear hdo
      go_wp2_with fail
      refine hrr.mono ?_
      rintro e w7 ⟨rfl, hb7⟩
      have hk57 := blk_below HK5.out hb7
      have HB7 := Aside0.mk (below_step HB5w.out hb7)
      have HK27 := Aside0.mk (blk_below HK25.out hb7)
      replace d0 := blk_cell hk57 0
      replace d1 := blk_cell hk57 1
      replace d2 := blk_cell hk57 2
      replace d3 := blk_cell hk57 3
      replace d4 := blk_cell hk57 4
      replace d5 := blk_cell hk57 5
      replace d6 := blk_cell hk57 6
      replace d7 := blk_cell hk57 7
      simp [cells8] at d0 d1 d2 d3 d4 d5 d6 d7
      clear hrr hb7 hk57
      go_wp2_with (first | ((with_reducible refine gate_store (t := 40) (p := 2) rfl ?_); refine put8 q rfl rfl rfl rfl rfl HK27.out rfl ?_; intro w8 hk8 hf8 hb8 hs8; have HK8 := Aside0.mk hk8; have HB8 := Aside0.mk (hb8 w.heap.size w (by rw [HB2.out]; exact Nat.le_refl _) HB7.out); clear hk8 hf8 hb8 hs8))
      refine bodyPost_ret (results_ct rfl _ _ b2 40 (cells8 q).toArray (0, 0) _ rfl HK8.out Try.underlying40 rfl (by kernel_rfl)) rfl ?_
      exact ⟨by rw [HG.out]; rfl, HB8.out⟩
    · have HG : Aside0 (getV xs = (Go.Proofs.Ytdohacnjngkkiaa.A.z40, 21)) := ⟨by unfold getV; rw [if_neg (fun h => hR (by rw [HQ.out]; exact h.2))]⟩
      have hRf : rightB q = false := by simpa using hR
      rw [hRf] at hrr
      clear hR hRf
      go_wp2_with fail
      refine hdo.mono ?_
      rintro e w6 ⟨rfl, rfl⟩
      clear hdo
      go_wp2_with fail
      refine hrr.mono ?_
      rintro e w7 ⟨rfl, hb7⟩
      have HB7 := Aside0.mk (below_step HB5w.out hb7)
      have HK27 := Aside0.mk (blk_below HK25.out hb7)
      clear hrr hb7
      go_wp2_with (first | ((with_reducible refine gate_store (t := 40) (p := 2) rfl ?_); refine put8 Go.Proofs.Ytdohacnjngkkiaa.A.z40 rfl rfl rfl rfl rfl HK27.out rfl ?_; intro w8 hk8 hf8 hb8 hs8; have HK8 := Aside0.mk hk8; have HB8 := Aside0.mk (hb8 w.heap.size w (by rw [HB2.out]; exact Nat.le_refl _) HB7.out); clear hk8 hf8 hb8 hs8))
      refine bodyPost_ret (results_ct rfl _ _ b2 40 (cells8 Go.Proofs.Ytdohacnjngkkiaa.A.z40).toArray (0, 0) _ rfl HK8.out Try.underlying40 rfl (by kernel_rfl)) rfl ?_
      exact ⟨by rw [HG.out]; rfl, HB8.out⟩
  · have e1 : (dv != 0) = true := by simpa using h0
    have e2 : (dv == 0) = false := by simpa using h0
    have HG : Aside0 (getV xs = (Go.Proofs.Ytdohacnjngkkiaa.A.z40, 21)) := ⟨by unfold getV; rw [if_neg (fun h => h0 (by rw [HDV.out]; exact h.1))]⟩
    clear h0 hrr
    go_wp2_with fail
    refine hdo.mono ?_
    rintro e w6 ⟨rfl, rfl⟩
    clear hdo
    go_wp2_with (first | ((with_reducible refine gate_store (t := 40) (p := 2) rfl ?_); refine put8 Go.Proofs.Ytdohacnjngkkiaa.A.z40 rfl rfl rfl rfl rfl HK25.out rfl ?_; intro w8 hk8 hf8 hb8 hs8; have HK8 := Aside0.mk hk8; have HB8 := Aside0.mk (hb8 w.heap.size w (by rw [HB2.out]; exact Nat.le_refl _) HB5w.out); clear hk8 hf8 hb8 hs8))
    refine bodyPost_ret (results_ct rfl _ _ b2 40 (cells8 Go.Proofs.Ytdohacnjngkkiaa.A.z40).toArray (0, 0) _ rfl HK8.out Try.underlying40 rfl (by kernel_rfl)) rfl ?_
    exact ⟨by rw [HG.out]; rfl, HB8.out⟩
end Go.Proofs.Ytdohacnjngkkiaa.Xg
namespace Go.Proofs.Ytdohacnjngkkiaa.Xp
set_option linter.unusedVariables false
set_option linter.unusedSimpArgs false
open Go.RowKit Go.Proofs.YtdohacnjngkkiaaW.PrintWords Go.Proofs.YtdohacnjngkkiaaW.PrintLast Go.Proofs.YtdohacnjngkkiaaW.PrintMore
open Go.Proofs.Ytdohacnjngkkiaa.Xc Go.Proofs.Ytdohacnjngkkiaa.Xd Go.Proofs.Ytdohacnjngkkiaa.Xe Go.Proofs.Ytdohacnjngkkiaa.Xl Go.Proofs.Ytdohacnjngkkiaa.Xr Go.Proofs.Ytdohacnjngkkiaa.Xf Go.Proofs.Ytdohacnjngkkiaa.Fr Go.Proofs.Ytdohacnjngkkiaa.Sm Go.Proofs.Ytdohacnjngkkiaa.Pm Go.Proofs.Ytdohacnjngkkiaa.Pf Go.Proofs.Ytdohacnjngkkiaa.B
open Go.Proofs.Ytdohacnjngkkiaa.A (S40 z40)
/-- a block's bytes -/
def putB (q : S40) : List Int := (((((((([] ++ enc 7 q.f0) ++ enc 7 q.f1) ++ enc 7 (wrap64 (q.f2 - q.f1))) ++ enc 7 q.f3) ++ enc 7 (wrap64 (q.f4 - q.f3))) ++ enc 7 q.f5) ++ enc 7 q.f6) ++ enc 7 q.f7)
theorem num_ok {n : Int} (h0 : 0 ≤ n) (h1 : n < 72057594037927936) : codec_Number.f 8 n = some (enc 7 n, 0) := by
  rw [number_is]; unfold numB; rw [if_pos ⟨h0, h1⟩]
theorem putB_len (q : S40) : (putB q).length ≤ 64 := by
  unfold putB
  have h0 := enc_len 7 q.f0; have h1 := enc_len 7 q.f1; have h2 := enc_len 7 (wrap64 (q.f2 - q.f1)); have h3 := enc_len 7 q.f3
  have h4 := enc_len 7 (wrap64 (q.f4 - q.f3)); have h5 := enc_len 7 q.f5; have h6 := enc_len 7 q.f6; have h7 := enc_len 7 q.f7
  simp only [List.length_append, List.length_nil]
  omega
theorem sub_w {a b : Int} (h0 : 0 ≤ b) (h1 : b ≤ a) (h2 : a < 1099511627776) : wrap64 (a - b) = a - b := by unfold wrap64; omega
set_option maxHeartbeats 8000000 in
set_option maxRecDepth 100000 in
theorem put_calls (q : S40) (w : World) (hR : rightB q = true) :
    Calls Try.prog 30 #[ag q] w fun e w' => ∃ v, e = .returned (.tuple #[v, .int .i64 0]) ∧ (Kd.int .u8).R 5 w' w.heap.size (fun _ => True) v (putB q) ∧ Below w.heap.size w w' := by
  have hwf := right_wf hR
  have HB := Aside0.mk (Below.refl w.heap.size w)
  have HPB := Aside0.mk (show putB q = putB q from rfl)
  obtain ⟨q0, q1, q2, q3, q4, q5, q6, q7⟩ := q
  have HR := Aside0.mk hR
  have HWF := Aside0.mk hwf
  simp only at hwf
  have s2 := sub_w (a := q2) (b := q1) (by omega) (by omega) (by omega)
  have s4 := sub_w (a := q4) (b := q3) (by omega) (by omega) (by omega)
  obtain ⟨n2, hn2⟩ : ∃ n, n = wrap64 (q2 - q1) := ⟨_, rfl⟩
  obtain ⟨n4, hn4⟩ : ∃ n, n = wrap64 (q4 - q3) := ⟨_, rfl⟩
  rw [← hn2] at s2
  rw [← hn4] at s4
  have HN0 := Aside0.mk (num_ok (n := q0) (by omega) (by omega))
  have HL0 := Aside0.mk (enc_len 7 q0)
  have HN1 := Aside0.mk (num_ok (n := q1) (by omega) (by omega))
  have HL1 := Aside0.mk (enc_len 7 q1)
  have HN2 := Aside0.mk (num_ok (n := n2) (by omega) (by omega))
  have HL2 := Aside0.mk (enc_len 7 n2)
  have HN3 := Aside0.mk (num_ok (n := q3) (by omega) (by omega))
  have HL3 := Aside0.mk (enc_len 7 q3)
  have HN4 := Aside0.mk (num_ok (n := n4) (by omega) (by omega))
  have HL4 := Aside0.mk (enc_len 7 n4)
  have HN5 := Aside0.mk (num_ok (n := q5) (by omega) (by omega))
  have HL5 := Aside0.mk (enc_len 7 q5)
  have HN6 := Aside0.mk (num_ok (n := q6) (by omega) (by omega))
  have HL6 := Aside0.mk (enc_len 7 q6)
  have HN7 := Aside0.mk (num_ok (n := q7) (by omega) (by omega))
  have HL7 := Aside0.mk (enc_len 7 q7)
  have HQ2 := Aside0.mk hn2
  have HQ4 := Aside0.mk hn4
  clear hR hwf s2 s4 hn2 hn4
  unfold ag
  go_enter Try.func30, Try.ntmps30
  go_upto_region 1 with (first | ((with_reducible refine gate_dst (N := 1) rfl ?_); refine box_event ?hg (N := 1) ?hd (cs := #[.int .i64 q0, .int .i64 q1, .int .i64 q2, .int .i64 q3, .int .i64 q4, .int .i64 q5, .int .i64 q6, .int .i64 q7]) (t := 40) ?hr ?_; (case hd => rfl); (case hg => rfl); (case hr => first | (go_simp; done) | (go_simp; rfl)); intro gb hg w1 hbox hb; have HK1 := Aside0.mk hbox; have HB1 := Aside0.mk (below_step HB.out (show Below w.heap.size w w1 from hb)); clear hb hbox hg))
  have hrr := right_calls ⟨q0, q1, q2, q3, q4, q5, q6, q7⟩ w1
  unfold ag at hrr
  rw [HR.out] at hrr
  simp only at hrr
  have hk := HK1.out
  have d0 := blk_cell hk 0
  have d1 := blk_cell hk 1
  have d2 := blk_cell hk 2
  have d3 := blk_cell hk 3
  have d4 := blk_cell hk 4
  have d5 := blk_cell hk 5
  have d6 := blk_cell hk 6
  have d7 := blk_cell hk 7
  simp at d0 d1 d2 d3 d4 d5 d6 d7
  clear hk
  go_wp2_with fail
  refine hrr.mono ?_
  rintro e W0 ⟨rfl, hb⟩
  have hk := blk_below HK1.out hb
  have HB2 := Aside0.mk (below_step HB1.out hb)
  replace d0 := blk_cell hk 0
  replace d1 := blk_cell hk 1
  replace d2 := blk_cell hk 2
  replace d3 := blk_cell hk 3
  replace d4 := blk_cell hk 4
  replace d5 := blk_cell hk 5
  replace d6 := blk_cell hk 6
  replace d7 := blk_cell hk 7
  simp at d0 d1 d2 d3 d4 d5 d6 d7
  clear hk hb hrr
  go_upto_region 5 with fail
  (try simp only [i64_w])
  rw [← HQ2.out, ← HQ4.out]
  clear d0 d1 d2 d3 d4 d5 d6 d7
  have HO0 : Aside0 ((Kd.int .u8).R 5 W0 w.heap.size (fun _ => True) (.slice none 0 0) ([] : List Int)) := ⟨Kd.R_nil _ _ _ _ _⟩
  have HB0 := HB2
  clear HB2
  obtain ⟨l0, hl0⟩ : ∃ l, l = ([] : List Int) := ⟨_, rfl⟩
  have HE0 : Aside0 (l0.length ≤ 0) := ⟨by rw [hl0]; simp⟩
  rw [← hl0] at HO0
  have HX0 := Aside0.mk hl0
  clear hl0
  go_wp2_with fail
  refine wp_loop_rounds 9 ?_
  rw [rounds_succ]
  have hidx : ∀ W, (Instr.index 88 (.agg #[.int .i64 q0, .int .i64 q1, .int .i64 n2, .int .i64 q3, .int .i64 n4, .int .i64 q5, .int .i64 q6, .int .i64 q7]) (.int .i64 0)).run Try.prog W = .ok (.int .i64 q0) W := fun _ => by kernel_rfl
  have hnum := codec_Number.calls 8 q0 (enc 7 q0) 0 W0 HN0.out
  go_wp2_with fail
  refine hnum.mono ?_
  rintro e V0 ⟨vv, rfl, hr, hb⟩
  have HOe := Aside0.mk (Kd.R_elder' HO0.out (Kd.R_base hr) hb)
  have hT := Kd.R_lower (Kd.R_new' hr (Kd.R_lt HO0.out)) (below_size HB0.out)
  have HBe := Aside0.mk (below_step HB0.out hb)
  obtain ⟨At, ct, rfl⟩ := Kd.R_slice hT
  have HT := Aside0.mk hT
  obtain ⟨m0, hm⟩ : ∃ m, m = (enc 7 q0).length := ⟨_, rfl⟩
  have HLT : Aside0 (l0.length + m0 ≤ 100) := ⟨by have h1 := HE0.out; have h2 := HL0.out; omega⟩
  have HM := Aside0.mk hm
  rw [← hm] at HT HOe ⊢
  clear hnum hr hb hT hidx hm
  go_upto_region 9 with (first | ((with_reducible refine gate_builtin (b := .append) (xs := #[.tmp 43, .tmp 44]) rfl ?_); at_builtin; refine Kd.R_append_rows (Kd.int .u8) (w0 := w) w.heap.size rfl (.tmp 43) (.tmp 44) 52 5 (.int .u8 0) 1 rfl Try.underlying52 info5 rfl (by decide) (by omega) (.slice none 0 0) l0 (enc 7 q0) At m0 ct (fun k_ => some k_ ≠ (.slice At m0 ct : Value).ownBlock) (fun _ => False) rfl rfl (Kd.R_mono HOe.out (fun _ hk => hk.2)) ?aR (fun _ _ h => h) (fun _ h => h.elim) (fun k_ hk => Kd.fresh' (Kd.R_lt HT.out) k_ hk) HBe.out (below_size HBe.out) (by have := HLT.out; omega) ?_; (case aR => have h := (Kd.R_reads' HT.out).2.2; rw [← HM.out] at h; exact h); intro u1 W1 ho hb hg hat; have HO1 := Aside0.mk (Kd.R_mono (ok' := fun _ => True) ho (fun _ _ => trivial)); have HB1 := Aside0.mk hb; clear ho hb hg hat))
  obtain ⟨l1, hl⟩ : ∃ l, l = l0 ++ enc 7 q0 := ⟨_, rfl⟩
  have HE1 : Aside0 (l1.length ≤ 8) := ⟨by rw [hl, List.length_append]; have h1 := HE0.out; have h2 := HL0.out; omega⟩
  rw [← hl] at HO1
  have HX1 := Aside0.mk hl
  clear HO0 HB0 HOe HBe HT HLT HM hl
  go_wp2_with fail
  rw [rounds_succ]
  have hidx : ∀ W, (Instr.index 88 (.agg #[.int .i64 q0, .int .i64 q1, .int .i64 n2, .int .i64 q3, .int .i64 n4, .int .i64 q5, .int .i64 q6, .int .i64 q7]) (.int .i64 1)).run Try.prog W = .ok (.int .i64 q1) W := fun _ => by kernel_rfl
  have hnum := codec_Number.calls 8 q1 (enc 7 q1) 0 W1 HN1.out
  go_wp2_with fail
  refine hnum.mono ?_
  rintro e V1 ⟨vv, rfl, hr, hb⟩
  have HOe := Aside0.mk (Kd.R_elder' HO1.out (Kd.R_base hr) hb)
  have hT := Kd.R_lower (Kd.R_new' hr (Kd.R_lt HO1.out)) (below_size HB1.out)
  have HBe := Aside0.mk (below_step HB1.out hb)
  obtain ⟨At, ct, rfl⟩ := Kd.R_slice hT
  have HT := Aside0.mk hT
  obtain ⟨m1, hm⟩ : ∃ m, m = (enc 7 q1).length := ⟨_, rfl⟩
  have HLT : Aside0 (l1.length + m1 ≤ 100) := ⟨by have h1 := HE1.out; have h2 := HL1.out; omega⟩
  have HM := Aside0.mk hm
  rw [← hm] at HT HOe ⊢
  clear hnum hr hb hT hidx hm
  go_upto_region 9 with (first | ((with_reducible refine gate_builtin (b := .append) (xs := #[.tmp 43, .tmp 44]) rfl ?_); at_builtin; refine Kd.R_append_rows (Kd.int .u8) (w0 := w) w.heap.size rfl (.tmp 43) (.tmp 44) 52 5 (.int .u8 0) 1 rfl Try.underlying52 info5 rfl (by decide) (by omega) u1 l1 (enc 7 q1) At m1 ct (fun k_ => some k_ ≠ (.slice At m1 ct : Value).ownBlock) (fun _ => False) rfl rfl (Kd.R_mono HOe.out (fun _ hk => hk.2)) ?aR (fun _ _ h => h) (fun _ h => h.elim) (fun k_ hk => Kd.fresh' (Kd.R_lt HT.out) k_ hk) HBe.out (below_size HBe.out) (by have := HLT.out; omega) ?_; (case aR => have h := (Kd.R_reads' HT.out).2.2; rw [← HM.out] at h; exact h); intro u2 W2 ho hb hg hat; have HO2 := Aside0.mk (Kd.R_mono (ok' := fun _ => True) ho (fun _ _ => trivial)); have HB2 := Aside0.mk hb; clear ho hb hg hat))
  obtain ⟨l2, hl⟩ : ∃ l, l = l1 ++ enc 7 q1 := ⟨_, rfl⟩
  have HE2 : Aside0 (l2.length ≤ 16) := ⟨by rw [hl, List.length_append]; have h1 := HE1.out; have h2 := HL1.out; omega⟩
  rw [← hl] at HO2
  have HX2 := Aside0.mk hl
  clear HO1 HB1 HOe HBe HT HLT HM hl
  go_wp2_with fail
  rw [rounds_succ]
  have hidx : ∀ W, (Instr.index 88 (.agg #[.int .i64 q0, .int .i64 q1, .int .i64 n2, .int .i64 q3, .int .i64 n4, .int .i64 q5, .int .i64 q6, .int .i64 q7]) (.int .i64 2)).run Try.prog W = .ok (.int .i64 n2) W := fun _ => by kernel_rfl
  have hnum := codec_Number.calls 8 n2 (enc 7 n2) 0 W2 HN2.out
  go_wp2_with fail
  refine hnum.mono ?_
  rintro e V2 ⟨vv, rfl, hr, hb⟩
  have HOe := Aside0.mk (Kd.R_elder' HO2.out (Kd.R_base hr) hb)
  have hT := Kd.R_lower (Kd.R_new' hr (Kd.R_lt HO2.out)) (below_size HB2.out)
  have HBe := Aside0.mk (below_step HB2.out hb)
  obtain ⟨At, ct, rfl⟩ := Kd.R_slice hT
  have HT := Aside0.mk hT
  obtain ⟨m2, hm⟩ : ∃ m, m = (enc 7 n2).length := ⟨_, rfl⟩
  have HLT : Aside0 (l2.length + m2 ≤ 100) := ⟨by have h1 := HE2.out; have h2 := HL2.out; omega⟩
  have HM := Aside0.mk hm
  rw [← hm] at HT HOe ⊢
  clear hnum hr hb hT hidx hm
  go_upto_region 9 with (first | ((with_reducible refine gate_builtin (b := .append) (xs := #[.tmp 43, .tmp 44]) rfl ?_); at_builtin; refine Kd.R_append_rows (Kd.int .u8) (w0 := w) w.heap.size rfl (.tmp 43) (.tmp 44) 52 5 (.int .u8 0) 1 rfl Try.underlying52 info5 rfl (by decide) (by omega) u2 l2 (enc 7 n2) At m2 ct (fun k_ => some k_ ≠ (.slice At m2 ct : Value).ownBlock) (fun _ => False) rfl rfl (Kd.R_mono HOe.out (fun _ hk => hk.2)) ?aR (fun _ _ h => h) (fun _ h => h.elim) (fun k_ hk => Kd.fresh' (Kd.R_lt HT.out) k_ hk) HBe.out (below_size HBe.out) (by have := HLT.out; omega) ?_; (case aR => have h := (Kd.R_reads' HT.out).2.2; rw [← HM.out] at h; exact h); intro u3 W3 ho hb hg hat; have HO3 := Aside0.mk (Kd.R_mono (ok' := fun _ => True) ho (fun _ _ => trivial)); have HB3 := Aside0.mk hb; clear ho hb hg hat))
  obtain ⟨l3, hl⟩ : ∃ l, l = l2 ++ enc 7 n2 := ⟨_, rfl⟩
  have HE3 : Aside0 (l3.length ≤ 24) := ⟨by rw [hl, List.length_append]; have h1 := HE2.out; have h2 := HL2.out; omega⟩
  rw [← hl] at HO3
  have HX3 := Aside0.mk hl
  clear HO2 HB2 HOe HBe HT HLT HM hl
  go_wp2_with fail
  rw [rounds_succ]
  have hidx : ∀ W, (Instr.index 88 (.agg #[.int .i64 q0, .int .i64 q1, .int .i64 n2, .int .i64 q3, .int .i64 n4, .int .i64 q5, .int .i64 q6, .int .i64 q7]) (.int .i64 3)).run Try.prog W = .ok (.int .i64 q3) W := fun _ => by kernel_rfl
  have hnum := codec_Number.calls 8 q3 (enc 7 q3) 0 W3 HN3.out
  go_wp2_with fail
  refine hnum.mono ?_
  rintro e V3 ⟨vv, rfl, hr, hb⟩
  have HOe := Aside0.mk (Kd.R_elder' HO3.out (Kd.R_base hr) hb)
  have hT := Kd.R_lower (Kd.R_new' hr (Kd.R_lt HO3.out)) (below_size HB3.out)
  have HBe := Aside0.mk (below_step HB3.out hb)
  obtain ⟨At, ct, rfl⟩ := Kd.R_slice hT
  have HT := Aside0.mk hT
  obtain ⟨m3, hm⟩ : ∃ m, m = (enc 7 q3).length := ⟨_, rfl⟩
  have HLT : Aside0 (l3.length + m3 ≤ 100) := ⟨by have h1 := HE3.out; have h2 := HL3.out; omega⟩
  have HM := Aside0.mk hm
  rw [← hm] at HT HOe ⊢
  clear hnum hr hb hT hidx hm
  go_upto_region 9 with (first | ((with_reducible refine gate_builtin (b := .append) (xs := #[.tmp 43, .tmp 44]) rfl ?_); at_builtin; refine Kd.R_append_rows (Kd.int .u8) (w0 := w) w.heap.size rfl (.tmp 43) (.tmp 44) 52 5 (.int .u8 0) 1 rfl Try.underlying52 info5 rfl (by decide) (by omega) u3 l3 (enc 7 q3) At m3 ct (fun k_ => some k_ ≠ (.slice At m3 ct : Value).ownBlock) (fun _ => False) rfl rfl (Kd.R_mono HOe.out (fun _ hk => hk.2)) ?aR (fun _ _ h => h) (fun _ h => h.elim) (fun k_ hk => Kd.fresh' (Kd.R_lt HT.out) k_ hk) HBe.out (below_size HBe.out) (by have := HLT.out; omega) ?_; (case aR => have h := (Kd.R_reads' HT.out).2.2; rw [← HM.out] at h; exact h); intro u4 W4 ho hb hg hat; have HO4 := Aside0.mk (Kd.R_mono (ok' := fun _ => True) ho (fun _ _ => trivial)); have HB4 := Aside0.mk hb; clear ho hb hg hat))
  obtain ⟨l4, hl⟩ : ∃ l, l = l3 ++ enc 7 q3 := ⟨_, rfl⟩
  have HE4 : Aside0 (l4.length ≤ 32) := ⟨by rw [hl, List.length_append]; have h1 := HE3.out; have h2 := HL3.out; omega⟩
  rw [← hl] at HO4
  have HX4 := Aside0.mk hl
  clear HO3 HB3 HOe HBe HT HLT HM hl
  go_wp2_with fail
  rw [rounds_succ]
  have hidx : ∀ W, (Instr.index 88 (.agg #[.int .i64 q0, .int .i64 q1, .int .i64 n2, .int .i64 q3, .int .i64 n4, .int .i64 q5, .int .i64 q6, .int .i64 q7]) (.int .i64 4)).run Try.prog W = .ok (.int .i64 n4) W := fun _ => by kernel_rfl
  have hnum := codec_Number.calls 8 n4 (enc 7 n4) 0 W4 HN4.out
  go_wp2_with fail
  refine hnum.mono ?_
  rintro e V4 ⟨vv, rfl, hr, hb⟩
  have HOe := Aside0.mk (Kd.R_elder' HO4.out (Kd.R_base hr) hb)
  have hT := Kd.R_lower (Kd.R_new' hr (Kd.R_lt HO4.out)) (below_size HB4.out)
  have HBe := Aside0.mk (below_step HB4.out hb)
  obtain ⟨At, ct, rfl⟩ := Kd.R_slice hT
  have HT := Aside0.mk hT
  obtain ⟨m4, hm⟩ : ∃ m, m = (enc 7 n4).length := ⟨_, rfl⟩
  have HLT : Aside0 (l4.length + m4 ≤ 100) := ⟨by have h1 := HE4.out; have h2 := HL4.out; omega⟩
  have HM := Aside0.mk hm
  rw [← hm] at HT HOe ⊢
  clear hnum hr hb hT hidx hm
  go_upto_region 9 with (first | ((with_reducible refine gate_builtin (b := .append) (xs := #[.tmp 43, .tmp 44]) rfl ?_); at_builtin; refine Kd.R_append_rows (Kd.int .u8) (w0 := w) w.heap.size rfl (.tmp 43) (.tmp 44) 52 5 (.int .u8 0) 1 rfl Try.underlying52 info5 rfl (by decide) (by omega) u4 l4 (enc 7 n4) At m4 ct (fun k_ => some k_ ≠ (.slice At m4 ct : Value).ownBlock) (fun _ => False) rfl rfl (Kd.R_mono HOe.out (fun _ hk => hk.2)) ?aR (fun _ _ h => h) (fun _ h => h.elim) (fun k_ hk => Kd.fresh' (Kd.R_lt HT.out) k_ hk) HBe.out (below_size HBe.out) (by have := HLT.out; omega) ?_; (case aR => have h := (Kd.R_reads' HT.out).2.2; rw [← HM.out] at h; exact h); intro u5 W5 ho hb hg hat; have HO5 := Aside0.mk (Kd.R_mono (ok' := fun _ => True) ho (fun _ _ => trivial)); have HB5 := Aside0.mk hb; clear ho hb hg hat))
  obtain ⟨l5, hl⟩ : ∃ l, l = l4 ++ enc 7 n4 := ⟨_, rfl⟩
  have HE5 : Aside0 (l5.length ≤ 40) := ⟨by rw [hl, List.length_append]; have h1 := HE4.out; have h2 := HL4.out; omega⟩
  rw [← hl] at HO5
  have HX5 := Aside0.mk hl
  clear HO4 HB4 HOe HBe HT HLT HM hl
  go_wp2_with fail
  rw [rounds_succ]
  have hidx : ∀ W, (Instr.index 88 (.agg #[.int .i64 q0, .int .i64 q1, .int .i64 n2, .int .i64 q3, .int .i64 n4, .int .i64 q5, .int .i64 q6, .int .i64 q7]) (.int .i64 5)).run Try.prog W = .ok (.int .i64 q5) W := fun _ => by kernel_rfl
  have hnum := codec_Number.calls 8 q5 (enc 7 q5) 0 W5 HN5.out
  go_wp2_with fail
  refine hnum.mono ?_
  rintro e V5 ⟨vv, rfl, hr, hb⟩
  have HOe := Aside0.mk (Kd.R_elder' HO5.out (Kd.R_base hr) hb)
  have hT := Kd.R_lower (Kd.R_new' hr (Kd.R_lt HO5.out)) (below_size HB5.out)
  have HBe := Aside0.mk (below_step HB5.out hb)
  obtain ⟨At, ct, rfl⟩ := Kd.R_slice hT
  have HT := Aside0.mk hT
  obtain ⟨m5, hm⟩ : ∃ m, m = (enc 7 q5).length := ⟨_, rfl⟩
  have HLT : Aside0 (l5.length + m5 ≤ 100) := ⟨by have h1 := HE5.out; have h2 := HL5.out; omega⟩
  have HM := Aside0.mk hm
  rw [← hm] at HT HOe ⊢
  clear hnum hr hb hT hidx hm
  go_upto_region 9 with (first | ((with_reducible refine gate_builtin (b := .append) (xs := #[.tmp 43, .tmp 44]) rfl ?_); at_builtin; refine Kd.R_append_rows (Kd.int .u8) (w0 := w) w.heap.size rfl (.tmp 43) (.tmp 44) 52 5 (.int .u8 0) 1 rfl Try.underlying52 info5 rfl (by decide) (by omega) u5 l5 (enc 7 q5) At m5 ct (fun k_ => some k_ ≠ (.slice At m5 ct : Value).ownBlock) (fun _ => False) rfl rfl (Kd.R_mono HOe.out (fun _ hk => hk.2)) ?aR (fun _ _ h => h) (fun _ h => h.elim) (fun k_ hk => Kd.fresh' (Kd.R_lt HT.out) k_ hk) HBe.out (below_size HBe.out) (by have := HLT.out; omega) ?_; (case aR => have h := (Kd.R_reads' HT.out).2.2; rw [← HM.out] at h; exact h); intro u6 W6 ho hb hg hat; have HO6 := Aside0.mk (Kd.R_mono (ok' := fun _ => True) ho (fun _ _ => trivial)); have HB6 := Aside0.mk hb; clear ho hb hg hat))
  obtain ⟨l6, hl⟩ : ∃ l, l = l5 ++ enc 7 q5 := ⟨_, rfl⟩
  have HE6 : Aside0 (l6.length ≤ 48) := ⟨by rw [hl, List.length_append]; have h1 := HE5.out; have h2 := HL5.out; omega⟩
  rw [← hl] at HO6
  have HX6 := Aside0.mk hl
  clear HO5 HB5 HOe HBe HT HLT HM hl
  go_wp2_with fail
  rw [rounds_succ]
  have hidx : ∀ W, (Instr.index 88 (.agg #[.int .i64 q0, .int .i64 q1, .int .i64 n2, .int .i64 q3, .int .i64 n4, .int .i64 q5, .int .i64 q6, .int .i64 q7]) (.int .i64 6)).run Try.prog W = .ok (.int .i64 q6) W := fun _ => by kernel_rfl
  have hnum := codec_Number.calls 8 q6 (enc 7 q6) 0 W6 HN6.out
  go_wp2_with fail
  refine hnum.mono ?_
  rintro e V6 ⟨vv, rfl, hr, hb⟩
  have HOe := Aside0.mk (Kd.R_elder' HO6.out (Kd.R_base hr) hb)
  have hT := Kd.R_lower (Kd.R_new' hr (Kd.R_lt HO6.out)) (below_size HB6.out)
  have HBe := Aside0.mk (below_step HB6.out hb)
  obtain ⟨At, ct, rfl⟩ := Kd.R_slice hT
  have HT := Aside0.mk hT
  obtain ⟨m6, hm⟩ : ∃ m, m = (enc 7 q6).length := ⟨_, rfl⟩
  have HLT : Aside0 (l6.length + m6 ≤ 100) := ⟨by have h1 := HE6.out; have h2 := HL6.out; omega⟩
  have HM := Aside0.mk hm
  rw [← hm] at HT HOe ⊢
  clear hnum hr hb hT hidx hm
  go_upto_region 9 with (first | ((with_reducible refine gate_builtin (b := .append) (xs := #[.tmp 43, .tmp 44]) rfl ?_); at_builtin; refine Kd.R_append_rows (Kd.int .u8) (w0 := w) w.heap.size rfl (.tmp 43) (.tmp 44) 52 5 (.int .u8 0) 1 rfl Try.underlying52 info5 rfl (by decide) (by omega) u6 l6 (enc 7 q6) At m6 ct (fun k_ => some k_ ≠ (.slice At m6 ct : Value).ownBlock) (fun _ => False) rfl rfl (Kd.R_mono HOe.out (fun _ hk => hk.2)) ?aR (fun _ _ h => h) (fun _ h => h.elim) (fun k_ hk => Kd.fresh' (Kd.R_lt HT.out) k_ hk) HBe.out (below_size HBe.out) (by have := HLT.out; omega) ?_; (case aR => have h := (Kd.R_reads' HT.out).2.2; rw [← HM.out] at h; exact h); intro u7 W7 ho hb hg hat; have HO7 := Aside0.mk (Kd.R_mono (ok' := fun _ => True) ho (fun _ _ => trivial)); have HB7 := Aside0.mk hb; clear ho hb hg hat))
  obtain ⟨l7, hl⟩ : ∃ l, l = l6 ++ enc 7 q6 := ⟨_, rfl⟩
  have HE7 : Aside0 (l7.length ≤ 56) := ⟨by rw [hl, List.length_append]; have h1 := HE6.out; have h2 := HL6.out; omega⟩
  rw [← hl] at HO7
  have HX7 := Aside0.mk hl
  clear HO6 HB6 HOe HBe HT HLT HM hl
  go_wp2_with fail
  rw [rounds_succ]
  have hidx : ∀ W, (Instr.index 88 (.agg #[.int .i64 q0, .int .i64 q1, .int .i64 n2, .int .i64 q3, .int .i64 n4, .int .i64 q5, .int .i64 q6, .int .i64 q7]) (.int .i64 7)).run Try.prog W = .ok (.int .i64 q7) W := fun _ => by kernel_rfl
  have hnum := codec_Number.calls 8 q7 (enc 7 q7) 0 W7 HN7.out
  go_wp2_with fail
  refine hnum.mono ?_
  rintro e V7 ⟨vv, rfl, hr, hb⟩
  have HOe := Aside0.mk (Kd.R_elder' HO7.out (Kd.R_base hr) hb)
  have hT := Kd.R_lower (Kd.R_new' hr (Kd.R_lt HO7.out)) (below_size HB7.out)
  have HBe := Aside0.mk (below_step HB7.out hb)
  obtain ⟨At, ct, rfl⟩ := Kd.R_slice hT
  have HT := Aside0.mk hT
  obtain ⟨m7, hm⟩ : ∃ m, m = (enc 7 q7).length := ⟨_, rfl⟩
  have HLT : Aside0 (l7.length + m7 ≤ 100) := ⟨by have h1 := HE7.out; have h2 := HL7.out; omega⟩
  have HM := Aside0.mk hm
  rw [← hm] at HT HOe ⊢
  clear hnum hr hb hT hidx hm
  go_upto_region 9 with (first | ((with_reducible refine gate_builtin (b := .append) (xs := #[.tmp 43, .tmp 44]) rfl ?_); at_builtin; refine Kd.R_append_rows (Kd.int .u8) (w0 := w) w.heap.size rfl (.tmp 43) (.tmp 44) 52 5 (.int .u8 0) 1 rfl Try.underlying52 info5 rfl (by decide) (by omega) u7 l7 (enc 7 q7) At m7 ct (fun k_ => some k_ ≠ (.slice At m7 ct : Value).ownBlock) (fun _ => False) rfl rfl (Kd.R_mono HOe.out (fun _ hk => hk.2)) ?aR (fun _ _ h => h) (fun _ h => h.elim) (fun k_ hk => Kd.fresh' (Kd.R_lt HT.out) k_ hk) HBe.out (below_size HBe.out) (by have := HLT.out; omega) ?_; (case aR => have h := (Kd.R_reads' HT.out).2.2; rw [← HM.out] at h; exact h); intro u8 W8 ho hb hg hat; have HO8 := Aside0.mk (Kd.R_mono (ok' := fun _ => True) ho (fun _ _ => trivial)); have HB8 := Aside0.mk hb; clear ho hb hg hat))
  obtain ⟨l8, hl⟩ : ∃ l, l = l7 ++ enc 7 q7 := ⟨_, rfl⟩
  have HE8 : Aside0 (l8.length ≤ 64) := ⟨by rw [hl, List.length_append]; have h1 := HE7.out; have h2 := HL7.out; omega⟩
  rw [← hl] at HO8
  have HX8 := Aside0.mk hl
  clear HO7 HB7 HOe HBe HT HLT HM hl
  go_wp2_with fail
  rw [rounds_succ]
  go_wp2_with fail
  go_ret2
  refine ⟨u8, rfl, ?_, HB8.out⟩
  have he : putB ⟨q0, q1, q2, q3, q4, q5, q6, q7⟩ = l8 := by
    rw [HX8.out, HX7.out, HX6.out, HX5.out, HX4.out, HX3.out, HX2.out, HX1.out, HX0.out, HQ2.out, HQ4.out]
    rfl
  rw [he]
  exact HO8.out
set_option maxHeartbeats 2000000 in
theorem put_not (q : S40) (w : World) (hR : rightB q = false) :
    Calls Try.prog 30 #[ag q] w fun e w' => e = .returned (.tuple #[.slice none 0 0, .int .i64 1]) ∧ Below w.heap.size w w' := by
  have HB := Aside0.mk (Below.refl w.heap.size w)
  obtain ⟨q0, q1, q2, q3, q4, q5, q6, q7⟩ := q
  have HR := Aside0.mk hR
  clear hR
  unfold ag
  go_enter Try.func30, Try.ntmps30
  go_upto_region 1 with (first | ((with_reducible refine gate_dst (N := 1) rfl ?_); refine box_event ?hg (N := 1) ?hd (cs := #[.int .i64 q0, .int .i64 q1, .int .i64 q2, .int .i64 q3, .int .i64 q4, .int .i64 q5, .int .i64 q6, .int .i64 q7]) (t := 40) ?hr ?_; (case hd => rfl); (case hg => rfl); (case hr => first | (go_simp; done) | (go_simp; rfl)); intro gb hg w1 hbox hb; have HK1 := Aside0.mk hbox; have HB1 := Aside0.mk (below_step HB.out (show Below w.heap.size w w1 from hb)); clear hb hbox hg))
  have hrr := right_calls ⟨q0, q1, q2, q3, q4, q5, q6, q7⟩ w1
  unfold ag at hrr
  rw [HR.out] at hrr
  simp only at hrr
  have hk := HK1.out
  have d0 := blk_cell hk 0
  have d1 := blk_cell hk 1
  have d2 := blk_cell hk 2
  have d3 := blk_cell hk 3
  have d4 := blk_cell hk 4
  have d5 := blk_cell hk 5
  have d6 := blk_cell hk 6
  have d7 := blk_cell hk 7
  simp at d0 d1 d2 d3 d4 d5 d6 d7
  clear hk
  go_wp2_with fail
  refine hrr.mono ?_
  rintro e W0 ⟨rfl, hb⟩
  have HB2 := Aside0.mk (below_step HB1.out hb)
  clear hb hrr
  go_wp2_with fail
  go_ret2
  exact ⟨rfl, HB2.out⟩
end Go.Proofs.Ytdohacnjngkkiaa.Xp
namespace Go.Proofs.Ytdohacnjngkkiaa.Xq
set_option linter.unusedVariables false
set_option linter.unusedSimpArgs false
open Go.RowKit Go.Proofs.YtdohacnjngkkiaaW.PrintWords Go.Proofs.YtdohacnjngkkiaaW.PrintLast Go.Proofs.YtdohacnjngkkiaaW.PrintMore
open Go.Proofs.Ytdohacnjngkkiaa.Xc Go.Proofs.Ytdohacnjngkkiaa.Xd Go.Proofs.Ytdohacnjngkkiaa.Xe Go.Proofs.Ytdohacnjngkkiaa.Xr Go.Proofs.Ytdohacnjngkkiaa.Xf Go.Proofs.Ytdohacnjngkkiaa.Pm Go.Proofs.Ytdohacnjngkkiaa.Rl Go.Proofs.Ytdohacnjngkkiaa.Xp Go.Proofs.Ytdohacnjngkkiaa.B
open Go.Proofs.Ytdohacnjngkkiaa.A (S40 S44 z40)
theorem b_right (a b c d e f g h : Int) : icehouseref09_Right.f a b c d e f g h = some (rightB ⟨a, b, c, d, e, f, g, h⟩) :=
  (show icehouseref09_Right.f a b c d e f g h = Go.Proofs.Ytdohacnjngkkiaa.A.icehouseref09_Right.f a b c d e f g h from rfl).trans (rright_is ⟨a, b, c, d, e, f, g, h⟩)
theorem bstep (k : Nat) (acc ys : List Int) (i : Nat) (n : Int) (hi : i < ys.length) (hk : 7 < k) (hn : rd ys (i : Int) = n) (h0 : 0 ≤ n) (h1 : n < 72057594037927936) (ha : acc.length ≤ 100) (hi2 : i < 100) :
    icehouseref09_Bytes.l0 (k + 1) acc ys (i : Int) = icehouseref09_Bytes.l0 k (acc ++ enc 7 n) ys ((i + 1 : Nat) : Int) := by
  have hb : icehouseref01_Bytes.f k n = some (enc 7 n) := by
    unfold icehouseref01_Bytes.f
    rw [ref_bytes 7 k n [] h0 (by omega) (by omega) hk (by simp)]
    rfl
  have hl := enc_len 7 n
  have hw : wrap64 ((i : Int) + 1) = ((i + 1 : Nat) : Int) := by unfold wrap64; omega
  simp only [icehouseref09_Bytes.l0]
  rw [if_pos (by omega), if_pos (by omega), hn, hb, Option.bind_some, if_pos (by omega), hw]
theorem bytes_is (q : S40) (hR : rightB q = true) : icehouseref09_Bytes.f 30 q.f0 q.f1 q.f2 q.f3 q.f4 q.f5 q.f6 q.f7 = some (putB q) := by
  have hwf := right_wf hR
  obtain ⟨q0, q1, q2, q3, q4, q5, q6, q7⟩ := q
  simp only at hwf
  have s2 := sub_w (a := q2) (b := q1) (by omega) (by omega) (by omega)
  have s4 := sub_w (a := q4) (b := q3) (by omega) (by omega) (by omega)
  unfold icehouseref09_Bytes.f putB
  simp only
  obtain ⟨n2, hn2⟩ : ∃ n, n = wrap64 (q2 - q1) := ⟨_, rfl⟩
  obtain ⟨n4, hn4⟩ : ∃ n, n = wrap64 (q4 - q3) := ⟨_, rfl⟩
  rw [← hn2] at s2 ⊢
  rw [← hn4] at s4 ⊢
  have e0 := enc_len 7 q0; have e1 := enc_len 7 q1; have e2 := enc_len 7 n2; have e3 := enc_len 7 q3
  have e4 := enc_len 7 n4; have e5 := enc_len 7 q5; have e6 := enc_len 7 q6; have e7 := enc_len 7 q7
  refine (bstep 29 _ _ 0 q0 (by simp) (by omega) rfl (by omega) (by omega) (by simp) (by omega)).trans ?_
  refine (bstep 28 _ _ 1 q1 (by simp) (by omega) rfl (by omega) (by omega) (by simp only [List.length_append, List.length_nil]; omega) (by omega)).trans ?_
  refine (bstep 27 _ _ 2 n2 (by simp) (by omega) rfl (by omega) (by omega) (by simp only [List.length_append, List.length_nil]; omega) (by omega)).trans ?_
  refine (bstep 26 _ _ 3 q3 (by simp) (by omega) rfl (by omega) (by omega) (by simp only [List.length_append, List.length_nil]; omega) (by omega)).trans ?_
  refine (bstep 25 _ _ 4 n4 (by simp) (by omega) rfl (by omega) (by omega) (by simp only [List.length_append, List.length_nil]; omega) (by omega)).trans ?_
  refine (bstep 24 _ _ 5 q5 (by simp) (by omega) rfl (by omega) (by omega) (by simp only [List.length_append, List.length_nil]; omega) (by omega)).trans ?_
  refine (bstep 23 _ _ 6 q6 (by simp) (by omega) rfl (by omega) (by omega) (by simp only [List.length_append, List.length_nil]; omega) (by omega)).trans ?_
  refine (bstep 22 _ _ 7 q7 (by simp) (by omega) rfl (by omega) (by omega) (by simp only [List.length_append, List.length_nil]; omega) (by omega)).trans ?_
  rfl
/-- what either Put answers -/
def putV (q : S40) : List Int × Int := if rightB q = true then (putB q, 0) else ([], 1)
theorem rput_is (q : S40) : icehouseref09_Put.f 30 q.f0 q.f1 q.f2 q.f3 q.f4 q.f5 q.f6 q.f7 = some ((putV q).1, (putV q).2) := by
  unfold icehouseref09_Put.f putV
  rw [b_right, Option.bind_some]
  by_cases h : rightB q = true
  · have h' : rightB ⟨q.f0, q.f1, q.f2, q.f3, q.f4, q.f5, q.f6, q.f7⟩ = true := h
    rw [if_pos h', if_pos h, bytes_is q h]
    rfl
  · have h' : ¬ rightB ⟨q.f0, q.f1, q.f2, q.f3, q.f4, q.f5, q.f6, q.f7⟩ = true := h
    rw [if_neg h', if_neg h]
theorem rput_calls (q : S40) (w : World) : Calls Try.prog 31 #[.agg #[.int .i64 q.f0, .int .i64 q.f1, .int .i64 q.f2, .int .i64 q.f3, .int .i64 q.f4, .int .i64 q.f5, .int .i64 q.f6, .int .i64 q.f7]] w
    fun e w' => ∃ v, e = .returned (.tuple #[v, .int .i64 (putV q).2]) ∧ (Kd.int .u8).R 5 w' w.heap.size (fun _ => True) v (putV q).1 ∧ Below w.heap.size w w' :=
  icehouseref09_Put.calls 30 q.f0 q.f1 q.f2 q.f3 q.f4 q.f5 q.f6 q.f7 (putV q).1 (putV q).2 w (rput_is q)
theorem pput_calls (q : S40) (w : World) : Calls Try.prog 30 #[ag q] w
    fun e w' => ∃ v, e = .returned (.tuple #[v, .int .i64 (putV q).2]) ∧ (Kd.int .u8).R 5 w' w.heap.size (fun _ => True) v (putV q).1 ∧ Below w.heap.size w w' := by
  by_cases h : rightB q = true
  · unfold putV; rw [if_pos h]; exact put_calls q w h
  · unfold putV; rw [if_neg h]
    refine (put_not q w (by simpa using h)).mono ?_
    rintro e w' ⟨rfl, hb⟩
    exact ⟨_, rfl, Kd.R_nil _ _ _ _ _, hb⟩
theorem putV_len (q : S40) : (putV q).1.length ≤ 64 := by
  unfold putV; split
  · exact putB_len q
  · simp
theorem byts_app {a b : List Int} (ha : Byts a) (hb : Byts b) : Byts (a ++ b) := fun c hc => by
  rcases List.mem_append.1 hc with h | h
  · exact ha c h
  · exact hb c h
theorem putV_byts (q : S40) : Byts (putV q).1 := by
  unfold putV; split
  · rename_i hR
    have hwf := right_wf hR
    obtain ⟨q0, q1, q2, q3, q4, q5, q6, q7⟩ := q
    simp only at hwf
    have s2 := sub_w (a := q2) (b := q1) (by omega) (by omega) (by omega)
    have s4 := sub_w (a := q4) (b := q3) (by omega) (by omega) (by omega)
    unfold putB
    simp only
    have hE : ∀ n : Int, 0 ≤ n → n < 1099511627776 → Byts (enc 7 n) := fun n h0 h1 => enc_byts 7 n h0 (by omega)
    exact byts_app (byts_app (byts_app (byts_app (byts_app (byts_app (byts_app (byts_app (fun c hc => by simp at hc) (hE _ (by omega) (by omega))) (hE _ (by omega) (by omega))) (hE _ (by omega) (by omega))) (hE _ (by omega) (by omega))) (hE _ (by omega) (by omega))) (hE _ (by omega) (by omega))) (hE _ (by omega) (by omega))) (hE _ (by omega) (by omega))
  · exact fun c hc => by simp at hc
theorem step_enc (m : Int) (rest : List Int) (h0 : 0 ≤ m) (h1 : m < 72057594037927936) : stepD (enc 7 m ++ rest) 0 = (m, rest, 0) := by
  unfold stepD
  rw [if_pos rfl, read_enc m rest h0 h1]
  simp
theorem st_enc (xs : List Int) (k : Nat) (m : Int) (rest : List Int) (h : st xs k = (enc 7 m ++ rest, 0)) (h0 : 0 ≤ m) (h1 : m < 72057594037927936) : vl xs k = m ∧ st xs (k + 1) = (rest, 0) := by
  have e := step_enc m rest h0 h1
  constructor
  · unfold vl; rw [h]; exact congrArg (·.1) e
  · show (stepD (st xs k).1 (st xs k).2).2 = _
    rw [h]; exact congrArg (·.2) e
/-- what is put is got -/
theorem get_put (q : S40) (hR : rightB q = true) : getV (putB q) = (q, 0) := by
  have hR' := hR
  have hwf := right_wf hR
  obtain ⟨q0, q1, q2, q3, q4, q5, q6, q7⟩ := q
  simp only at hwf
  have s2 := sub_w (a := q2) (b := q1) (by omega) (by omega) (by omega)
  have s4 := sub_w (a := q4) (b := q3) (by omega) (by omega) (by omega)
  obtain ⟨xs, hx⟩ : ∃ xs, xs = putB ⟨q0, q1, q2, q3, q4, q5, q6, q7⟩ := ⟨_, rfl⟩
  rw [← hx]
  unfold putB at hx
  simp only [List.append_assoc, List.nil_append] at hx
  rw [s2, s4, ← List.append_nil (enc 7 q7)] at hx
  obtain ⟨v0, t0⟩ := st_enc xs 0 q0 _ (show st xs 0 = _ from by show (xs, (0 : Int)) = _; rw [hx]) (by omega) (by omega)
  obtain ⟨v1, t1⟩ := st_enc xs 1 q1 _ t0 (by omega) (by omega)
  obtain ⟨v2, t2⟩ := st_enc xs 2 (q2 - q1) _ t1 (by omega) (by omega)
  obtain ⟨v3, t3⟩ := st_enc xs 3 q3 _ t2 (by omega) (by omega)
  obtain ⟨v4, t4⟩ := st_enc xs 4 (q4 - q3) _ t3 (by omega) (by omega)
  obtain ⟨v5, t5⟩ := st_enc xs 5 q5 _ t4 (by omega) (by omega)
  obtain ⟨v6, t6⟩ := st_enc xs 6 q6 _ t5 (by omega) (by omega)
  obtain ⟨v7, t7⟩ := st_enc xs 7 q7 _ t6 (by omega) (by omega)
  have hm : metaV xs = ⟨q0, q1, q2, q3, q4, q5, q6, q7⟩ := by
    unfold metaV
    rw [v0, v1, v2, v3, v4, v5, v6, v7]
    have a2 : wrap64 (q1 + (q2 - q1)) = q2 := by unfold wrap64; omega
    have a4 : wrap64 (q3 + (q4 - q3)) = q4 := by unfold wrap64; omega
    rw [a2, a4]
  unfold getV
  rw [hm, t7, if_pos ⟨by simp [doneV], hR'⟩]
end Go.Proofs.Ytdohacnjngkkiaa.Xq
