/- The law PlannerMetas, walked. -/
import Derived.Test.YtdohacnjngkkiaaXz
namespace Go.Proofs.Ytdohacnjngkkiaa.Mn
set_option linter.unusedVariables false
set_option linter.unusedSimpArgs false
open Go.RowKit Go.Proofs.YtdohacnjngkkiaaW.PrintWords Go.Proofs.YtdohacnjngkkiaaW.PrintLast Go.Proofs.YtdohacnjngkkiaaW.PrintMore
open Go.Proofs.Ytdohacnjngkkiaa.Xh Go.Proofs.Ytdohacnjngkkiaa.Xd Go.Proofs.Ytdohacnjngkkiaa.Xf Go.Proofs.Ytdohacnjngkkiaa.Xg Go.Proofs.Ytdohacnjngkkiaa.Xp Go.Proofs.Ytdohacnjngkkiaa.Xq Go.Proofs.Ytdohacnjngkkiaa.Xt Go.Proofs.Ytdohacnjngkkiaa.Bx Go.Proofs.Ytdohacnjngkkiaa.Lk Go.Proofs.Ytdohacnjngkkiaa.Kn Go.Proofs.Ytdohacnjngkkiaa.Rl Go.Proofs.Ytdohacnjngkkiaa.Sm Go.Proofs.Ytdohacnjngkkiaa.Fr Go.Proofs.Ytdohacnjngkkiaa.Pm Go.Proofs.Ytdohacnjngkkiaa.Pf
open Go.Proofs.Ytdohacnjngkkiaa.A (S40 S44 z40 k44 k40 eqA40)
attribute [local go_sem high] eqA40
/-- the cells of block i of a row -/
def LQ (ad : Addr) (i : Nat) (y : S40) (W : World) : Prop := W.cell? (ad.add (i * 8)) = some (.int .i64 y.f0) ∧ W.cell? ⟨(ad.add (i * 8)).block, (ad.add (i * 8)).off + 1, none⟩ = some (.int .i64 y.f1) ∧ W.cell? ⟨(ad.add (i * 8)).block, (ad.add (i * 8)).off + 2, none⟩ = some (.int .i64 y.f2) ∧ W.cell? ⟨(ad.add (i * 8)).block, (ad.add (i * 8)).off + 3, none⟩ = some (.int .i64 y.f3) ∧ W.cell? ⟨(ad.add (i * 8)).block, (ad.add (i * 8)).off + 4, none⟩ = some (.int .i64 y.f4) ∧ W.cell? ⟨(ad.add (i * 8)).block, (ad.add (i * 8)).off + 5, none⟩ = some (.int .i64 y.f5) ∧ W.cell? ⟨(ad.add (i * 8)).block, (ad.add (i * 8)).off + 6, none⟩ = some (.int .i64 y.f6) ∧ W.cell? ⟨(ad.add (i * 8)).block, (ad.add (i * 8)).off + 7, none⟩ = some (.int .i64 y.f7)
theorem LQ_below {ad : Addr} {i : Nat} {y : S40} {w W : World} (h : LQ ad i y w) (hb : Below w.heap.size w W) : LQ ad i y W := by
  obtain ⟨c0, c1, c2, c3, c4, c5, c6, c7⟩ := h
  exact ⟨(hb.cell (World.block_lt_of_cell? w _ c0)).trans c0, (hb.cell (World.block_lt_of_cell? w _ c1)).trans c1, (hb.cell (World.block_lt_of_cell? w _ c2)).trans c2, (hb.cell (World.block_lt_of_cell? w _ c3)).trans c3, (hb.cell (World.block_lt_of_cell? w _ c4)).trans c4, (hb.cell (World.block_lt_of_cell? w _ c5)).trans c5, (hb.cell (World.block_lt_of_cell? w _ c6)).trans c6, (hb.cell (World.block_lt_of_cell? w _ c7)).trans c7⟩
theorem lq44 {w : World} {A : Option Addr} {n : Nat} {l : List S44} (h : k44.C w A n l) (i : Nat) (hi : i < l.length) : ∃ ad, A = some ad ∧ LQ ad i (cv l[i]) w := el44 h i hi
theorem lq40 {w : World} {A : Option Addr} {n : Nat} {l : List S44} (h : k40.C w A n (l.map cv)) (i : Nat) (hi : i < l.length) : ∃ ad, A = some ad ∧ LQ ad i (cv l[i]) w := by
  have h1 := el_at h i (by rw [List.length_map]; exact hi)
  have e : (l.map cv)[i]'(by rw [List.length_map]; exact hi) = cv l[i] := List.getElem_map ..
  rw [e] at h1
  exact h1
def CV (A : Option Addr) (m c : Nat) (s : ByteArray) (W : World) : Prop := (Go.convert 52 9 (.slice A m c)).run Try.prog W = .ok (.string s) W
theorem CV_of {A : Option Addr} {m c : Nat} {l : List Int} {W : World} (h : (Kd.int .u8).C W A m l) : CV A m c (strOfNums l) W := Kd.C_string (P := Try.prog) (c := c) Try.underlying52 Try.underlying5 Try.underlying9 h
theorem pright_calls (q : S40) (w : World) : Calls Try.prog 32 #[.agg #[.int .i64 q.f0, .int .i64 q.f1, .int .i64 q.f2, .int .i64 q.f3, .int .i64 q.f4, .int .i64 q.f5, .int .i64 q.f6, .int .i64 q.f7]] w fun e w' => e = .returned (.bool (rightB q)) ∧ Below w.heap.size w w' := right_calls q w
theorem num_calls (n : Int) (w : World) : Calls Try.prog 28 #[.int .i64 n] w fun e w' => e = .returned (.int .i64 n) ∧ Below w.heap.size w w' :=
  (Go.Proofs.Ytdohacnjngkkiaa.B.icehouselaw09_num.calls n n w rfl).mono (by rintro e w' ⟨rfl, ⟨m, rfl⟩⟩; exact ⟨rfl, pw_below_drewN (Below.refl _ _) _⟩)
theorem stays_calls (A : Option Addr) (c : Nat) (A1 : Option Addr) (c1 : Nat) (l : List Int) (w : World) (base : Nat) (hL : LentV w base A c l) (hC : (Kd.int .u8).C w A1 l.length l) (hl : l.length ≤ 140737488351232) :
    Calls Try.prog 29 #[.slice A l.length c, .slice A1 l.length c1] w fun e w' => e = .returned (.bool true) ∧ Below w.heap.size w w' :=
  (stays_is A c A1 c1 l w base hL hC hl).mono (by rintro e w' ⟨rfl, m, rfl⟩; exact ⟨rfl, pw_below_drewN (Below.refl _ _) _⟩)
theorem lent_below {w w' : World} {base : Nat} {A : Option Addr} {c : Nat} {l : List Int} (h : LentV w base A c l) (hb : Below w.heap.size w w') : LentV w' base A c l := ⟨h.1, Kd.R_below h.2 hb⟩
theorem lent_C {w : World} {base : Nat} {A : Option Addr} {c : Nat} {l : List Int} (h : LentV w base A c l) : (Kd.int .u8).C w A l.length l := by
  obtain ⟨hc, hR⟩ := h
  have hn0 : (l ++ [77, 78]).length = l.length + 2 := by simp
  obtain ⟨_, _, hCx⟩ := Kd.R_reads' hR
  rw [hn0] at hCx
  have hT := Kd.C_take (m := l.length) (xs := l ++ [77, 78]) (by rw [hn0]; exact hCx) (by simp)
  have ht : (l ++ [77, 78]).take l.length = l := by simp
  rw [ht] at hT
  exact hT
def B8 (b : Nat) (q : S40) (W : World) : Prop := W.cell? ⟨b, 0, none⟩ = some (.int .i64 q.f0) ∧ W.cell? ⟨b, 1, none⟩ = some (.int .i64 q.f1) ∧ W.cell? ⟨b, 2, none⟩ = some (.int .i64 q.f2) ∧ W.cell? ⟨b, 3, none⟩ = some (.int .i64 q.f3) ∧ W.cell? ⟨b, 4, none⟩ = some (.int .i64 q.f4) ∧ W.cell? ⟨b, 5, none⟩ = some (.int .i64 q.f5) ∧ W.cell? ⟨b, 6, none⟩ = some (.int .i64 q.f6) ∧ W.cell? ⟨b, 7, none⟩ = some (.int .i64 q.f7)
theorem B8_of {W : World} {b : Nat} {q : S40} {t : TypeId} (h : W.heap[b]? = some (.cells (cells8 q).toArray t (0, 0))) : B8 b q W := by
  unfold B8
  refine ⟨?_, ?_, ?_, ?_, ?_, ?_, ?_, ?_⟩
  all_goals (rw [World.cell?]; simp [h, cells8])
theorem putV_err (q : S40) (h : (putV q).2 = 0) : rightB q = true ∧ (putV q).1 = putB q := by
  unfold putV at h ⊢
  by_cases hR : rightB q = true
  · rw [if_pos hR]; exact ⟨hR, rfl⟩
  · rw [if_neg hR] at h; exact absurd h (by decide)
set_option maxHeartbeats 16000000 in
set_option maxRecDepth 100000 in
theorem metas_true (A : Option Addr) (c : Nat) (l : List S44) (D : Option Addr) (cd : Nat) (bl : List Int) (w : World) (hC : k44.C w A l.length l) (hc : l.length ≤ c) (hl : l.length ≤ 1048576)
    (hD : (Kd.int .u8).C w D bl.length bl) (hcd : bl.length ≤ cd) (hbl : bl.length ≤ 1048576) (hby : Byts bl) :
    Calls Try.prog 8 #[.slice A l.length c, .slice D bl.length cd] w fun e w' => e = .returned (.bool true) ∧ Below w.heap.size w w' := by
  have hle := lent_is D cd bl w hD (by omega)
  have HC := Aside0.mk hC
  have HCC := Aside0.mk hc
  have HL := Aside0.mk hl
  have HD := Aside0.mk hD
  have HCD := Aside0.mk hcd
  have HBL := Aside0.mk hbl
  have HBY := Aside0.mk hby
  have HXL : Aside0 ((l.map cv).length = l.length) := ⟨List.length_map ..⟩
  obtain ⟨n, hn⟩ : ∃ n, n = l.length := ⟨_, rfl⟩
  obtain ⟨m, hm⟩ : ∃ m, m = bl.length := ⟨_, rfl⟩
  have HN := Aside0.mk hn
  have HM := Aside0.mk hm
  rw [← hm] at hle
  rw [← hn, ← hm]
  clear hC hc hl hD hcd hbl hby hn hm
  go_enter Try.func8, Try.ntmps8
  go_wp2_with fail
  refine hle.mono ?_
  rintro e w1 ⟨D1, c1, rfl, hlent, hb1⟩
  have HLE1 := Aside0.mk hlent
  have HB1 := Aside0.mk hb1
  have hli := list_calls A c l w1 (Kd.C_below HC.out hb1) HCC.out HL.out
  rw [← HN.out] at hli
  clear hle hlent hb1
  go_wp2_with fail
  refine hli.mono ?_
  rintro e w2 ⟨v, rfl, hr2, hb2⟩
  obtain ⟨X, cx, rfl, hcx⟩ := OwnRow.slice_ hr2.2
  have HX := Aside0.mk (Kd.R_reads' hr2).2.2
  have HCX := Aside0.mk hcx
  have HB2 := Aside0.mk (below_step HB1.out hb2)
  have HLE2 := Aside0.mk (lent_below HLE1.out hb2)
  rw [HXL.out, ← HN.out]
  clear hli hr2 hb2 hcx
  obtain ⟨q, hq⟩ : ∃ q, q = (getV bl).1 := ⟨_, rfl⟩
  obtain ⟨ge, hge⟩ : ∃ ge, ge = (getV bl).2 := ⟨_, rfl⟩
  have hg := pget_any D1 c1 bl w2 (lent_C HLE2.out) (by have := HLE2.out.1; omega) (by have := HBL.out; omega) HBY.out
  rw [← hq, ← hge, ← HM.out] at hg
  unfold ag at hg
  have hrg := fun W (h : Below w.heap.size w W) => rget_any D cd bl W (Kd.C_below HD.out h) HCD.out (by have := HBL.out; omega) HBY.out
  rw [← hq, ← hge, ← HM.out] at hrg
  unfold ag at hrg
  have HRG := Aside0.mk hrg
  clear hrg hq hge
  go_wp2_with fail
  refine hg.mono ?_
  rintro e w3 ⟨rfl, hb3⟩
  have HB23 := Aside0.mk hb3
  clear hg hb3
  go_upto_region 4 with (first | ((with_reducible refine gate_store (t := 40) (p := 7) rfl ?_); refine put8 q rfl rfl rfl rfl rfl (blk_new _ _) rfl ?_; intro w4 hk4 hf4 hb4 hs4; have HK7 := Aside0.mk hk4; have HB34 := Aside0.mk (hb4 _ _ (Nat.le_refl _) (below_alloc (Below.refl w3.heap.size w3) _)); clear hk4 hf4 hb4 hs4))
  obtain ⟨b7, hb7⟩ : ∃ b7, b7 = w3.heap.size := ⟨_, rfl⟩
  rw [← hb7] at HK7 ⊢
  clear hb7
  have HB24 := Aside0.mk (below_step HB23.out HB34.out)
  have HB4 := Aside0.mk (below_step HB2.out HB24.out)
  have hrg := HRG.out w4 HB4.out
  go_wp2_with fail
  refine hrg.mono ?_
  rintro e w5 ⟨rfl, hb5⟩
  have HB25 := Aside0.mk (below_step HB24.out hb5)
  have HK75 := Aside0.mk (blk_below HK7.out hb5)
  clear hrg hb5
  go_upto_region 5 with (first | ((with_reducible refine gate_store (t := 44) (p := 9) rfl ?_); refine put44 q rfl rfl rfl rfl rfl (blk_new _ _) rfl ?_; intro w6 hk6 hf6 hb6 hs6; have HK9 := Aside0.mk hk6; have HB56 := Aside0.mk (hb6 _ _ (Nat.le_refl _) (below_alloc (Below.refl w5.heap.size w5) _)); clear hk6 hf6 hb6 hs6))
  obtain ⟨b9, hb9⟩ : ∃ b9, b9 = w5.heap.size := ⟨_, rfl⟩
  rw [← hb9] at HK9 ⊢
  clear hb9
  have HB26 := Aside0.mk (below_step HB25.out HB56.out)
  have HB6 := Aside0.mk (below_step HB2.out HB26.out)
  have HK76 := Aside0.mk (blk_below HK75.out HB56.out)
  have HLT : Aside0 (b7 < w6.heap.size ∧ b9 < w6.heap.size) := ⟨blk_lt HK76.out, blk_lt HK9.out⟩
  have HKEEP : Aside0 (∀ W, Below w6.heap.size w6 W → (B8 b7 q W ∧ B8 b9 q W)) := ⟨fun W hb => by
    obtain ⟨h0, h1⟩ := HLT.out
    exact ⟨B8_of ((hb.block b7 h0).trans HK76.out), B8_of ((hb.block b9 h1).trans HK9.out)⟩⟩
  have HB60 : Aside0 (Below w6.heap.size w6 w6.drew) := ⟨below_drew (Below.refl _ _)⟩
  have HX6 := Aside0.mk (Kd.C_below HX.out HB26.out)
  have HC6 := Aside0.mk (Kd.C_below HC.out HB6.out)
  have HLE6 := Aside0.mk (lent_below HLE2.out HB26.out)
  have HD6 := Aside0.mk (Kd.C_below HD.out HB6.out)
  obtain ⟨ff, hff⟩ : ∃ ff, ff = fineB (l.map cv) := ⟨_, rfl⟩
  have HFF := Aside0.mk hff
  clear hff
  refine start_ (S := fun W => B8 b7 q W ∧ B8 b9 q W) (ds := []) #[false, false, false, false, false, false, false, false, false, false, false, false, false, false, false, false, false, false, false, false, false, false, false] (by kernel_rfl) rfl rfl (HKEEP.out _ HB60.out) (fun hHeld => ?_)
  refine pure_ (i := 0) (N := some 32) #[true, false, false, false, false, false, false, false, false, false, false, false, false, false, false, false, false, false, false, false, false, false, false] rfl rfl (by kernel_rfl) (fun _ _ _ h => h) (.inl ⟨by rfl, by (intro w; go_simp <;> with_reducible rfl)⟩) rfl ?_
  (try simp only [Act.put, List.setIfInBounds_toArray, List.set_cons_zero, List.set_cons_succ])
  refine pure_ (i := 2) (N := some 34) #[true, false, true, false, false, false, false, false, false, false, false, false, false, false, false, false, false, false, false, false, false, false, false] rfl rfl (by kernel_rfl) (fun _ _ _ h => h) (.inl ⟨by rfl, by (intro w; go_simp <;> with_reducible rfl)⟩) rfl ?_
  (try simp only [Act.put, List.setIfInBounds_toArray, List.set_cons_zero, List.set_cons_succ])
  refine one_ (i := 1) (N := some 33) #[true, true, true, false, false, false, false, false, false, false, false, false, false, false, false, false, false, false, false, false, false, false, false] rfl rfl (by kernel_rfl) (by simp) (fun K hK => ?_)
  have hq1 := fine_calls X cx (l.map cv) _ (Kd.C_below HX6.out HB60.out) (by rw [HXL.out]; exact HL.out)
  rw [HXL.out, ← HN.out, ← HFF.out] at hq1
  refine goes_ Try.func17 (by kernel_rfl) rfl #[.slice X n cx] (by rfl) rfl rfl (by simp only [List.map_toArray, List.map_cons, List.map_nil]; rfl) ?_
  with_reducible refine (hq1).mono ?_
  rintro e wn1 ⟨rfl, hb⟩
  refine ⟨_, rfl, ?_⟩
  have HB1' := Aside0.mk (below_step HB60.out hb)
  clear hb hq1
  refine hK.out _ _ (HKEEP.out _ HB1'.out) (fun hHeld => ?_)
  clear hK K
  refine norm_ (a' := ?_) ?_ ?_
  rotate_left
  · show Act.put _ (some 33) _ = _
    simp only [Act.put, List.setIfInBounds_toArray, List.set_cons_zero, List.set_cons_succ]
    rfl
  refine one_ (i := 3) (N := some 35) #[true, true, true, true, false, false, false, false, false, false, false, false, false, false, false, false, false, false, false, false, false, false, false] rfl rfl (by kernel_rfl) (by simp) (fun K hK => ?_)
  have hq3 := rfine_calls A c l _ (Kd.C_below HC6.out HB1'.out) HCC.out HL.out
  rw [← HN.out, ← HFF.out] at hq3
  refine goes_ Try.func27 (by kernel_rfl) rfl #[.slice A n c] (by rfl) rfl rfl (by simp only [List.map_toArray, List.map_cons, List.map_nil]; rfl) ?_
  with_reducible refine (hq3).mono ?_
  rintro e wn3 ⟨rfl, hb⟩
  refine ⟨_, rfl, ?_⟩
  have HB3' := Aside0.mk (below_step HB1'.out hb)
  clear hb hq3
  refine hK.out _ _ (HKEEP.out _ HB3'.out) (fun hHeld => ?_)
  clear hK K
  refine norm_ (a' := ?_) ?_ ?_
  rotate_left
  · show Act.put _ (some 35) _ = _
    simp only [Act.put, List.setIfInBounds_toArray, List.set_cons_zero, List.set_cons_succ]
    rfl
  refine pure_ (i := 4) (N := some 36) #[true, true, true, true, true, false, false, false, false, false, false, false, false, false, false, false, false, false, false, false, false, false, false] rfl rfl (by kernel_rfl) (fun _ _ _ h => h) (.inl ⟨by rfl, by (intro w; go_simp <;> with_reducible rfl)⟩) rfl ?_
  (try simp only [Act.put, List.setIfInBounds_toArray, List.set_cons_zero, List.set_cons_succ])
  refine pure_ (i := 5) (N := some 37) #[true, true, true, true, true, true, false, false, false, false, false, false, false, false, false, false, false, false, false, false, false, false, false] rfl rfl (by kernel_rfl) (fun _ _ _ h => h) (.inl ⟨by rfl, by (intro w; go_simp <;> with_reducible rfl)⟩) rfl ?_
  (try simp only [Act.put, List.setIfInBounds_toArray, List.set_cons_zero, List.set_cons_succ])
  refine take_ (i := 6) (N := some 38) #[true, true, true, true, true, true, true, false, false, false, false, false, false, false, false, false, false, false, false, false, false, false, false] rfl rfl (by kernel_rfl) (fun _ _ _ h => h) (.inl ⟨by rfl, by (intro w hSw; (try dsimp only at hSw); (try unfold B8 at hSw); (try unfold LQ at hSw); (try unfold CV at hSw); go_simp <;> with_reducible rfl)⟩) hHeld rfl ?_
  (try simp only [Act.put, List.setIfInBounds_toArray, List.set_cons_zero, List.set_cons_succ])
  refine take_ (i := 7) (N := some 39) #[true, true, true, true, true, true, true, true, false, false, false, false, false, false, false, false, false, false, false, false, false, false, false] rfl rfl (by kernel_rfl) (fun _ _ _ h => h) (.inl ⟨by rfl, by (intro w hSw; (try dsimp only at hSw); (try unfold B8 at hSw); (try unfold LQ at hSw); (try unfold CV at hSw); go_simp <;> with_reducible rfl)⟩) hHeld rfl ?_
  (try simp only [Act.put, List.setIfInBounds_toArray, List.set_cons_zero, List.set_cons_succ])
  refine one_ (i := 8) (N := some 40) #[true, true, true, true, true, true, true, true, true, false, false, false, false, false, false, false, false, false, false, false, false, false, false] rfl rfl (by kernel_rfl) (by simp) (fun K hK => ?_)
  refine goes_ Try.func23 (by kernel_rfl) rfl #[.agg #[.int .i64 q.f0, .int .i64 q.f1, .int .i64 q.f2, .int .i64 q.f3, .int .i64 q.f4, .int .i64 q.f5, .int .i64 q.f6, .int .i64 q.f7]] (by rfl) rfl rfl (by simp only [List.map_toArray, List.map_cons, List.map_nil]; rfl) ?_
  with_reducible refine (own_calls q _).mono ?_
  rintro e wn8 ⟨rfl, hb⟩
  refine ⟨_, rfl, ?_⟩
  have HB8' := Aside0.mk (below_step HB3'.out hb)
  clear hb
  refine hK.out _ _ (HKEEP.out _ HB8'.out) (fun hHeld => ?_)
  clear hK K
  refine norm_ (a' := ?_) ?_ ?_
  rotate_left
  · show Act.put _ (some 40) _ = _
    simp only [Act.put, List.setIfInBounds_toArray, List.set_cons_zero, List.set_cons_succ]
    rfl
  refine pure_ (i := 9) (N := some 41) #[true, true, true, true, true, true, true, true, true, true, false, false, false, false, false, false, false, false, false, false, false, false, false] rfl rfl (by kernel_rfl) (fun _ _ _ h => h) (.inl ⟨by rfl, by (intro w; go_simp <;> with_reducible rfl)⟩) rfl ?_
  (try simp only [Act.put, List.setIfInBounds_toArray, List.set_cons_zero, List.set_cons_succ])
  refine pure_ (i := 10) (N := some 42) #[true, true, true, true, true, true, true, true, true, true, true, false, false, false, false, false, false, false, false, false, false, false, false] rfl rfl (by kernel_rfl) (fun _ _ _ h => h) (.inl ⟨by rfl, by (intro w; go_simp <;> with_reducible rfl)⟩) rfl ?_
  (try simp only [Act.put, List.setIfInBounds_toArray, List.set_cons_zero, List.set_cons_succ])
  refine pure_ (i := 11) (N := some 43) #[true, true, true, true, true, true, true, true, true, true, true, true, false, false, false, false, false, false, false, false, false, false, false] rfl rfl (by kernel_rfl) (fun _ _ _ h => h) (.inl ⟨by rfl, by (intro w; go_simp <;> with_reducible rfl)⟩) rfl ?_
  (try simp only [Act.put, List.setIfInBounds_toArray, List.set_cons_zero, List.set_cons_succ])
  refine pure_ (i := 12) (N := some 44) #[true, true, true, true, true, true, true, true, true, true, true, true, true, false, false, false, false, false, false, false, false, false, false] rfl rfl (by kernel_rfl) (fun _ _ _ h => h) (.inl ⟨by rfl, by (intro w; go_simp <;> with_reducible rfl)⟩) rfl ?_
  (try simp only [Act.put, List.setIfInBounds_toArray, List.set_cons_zero, List.set_cons_succ])
  refine pure_ (i := 14) (N := some 46) #[true, true, true, true, true, true, true, true, true, true, true, true, true, false, true, false, false, false, false, false, false, false, false] rfl rfl (by kernel_rfl) (fun _ _ _ h => h) (.inl ⟨by rfl, by (intro w; go_simp <;> with_reducible rfl)⟩) rfl ?_
  (try simp only [Act.put, List.setIfInBounds_toArray, List.set_cons_zero, List.set_cons_succ])
  refine one_ (i := 13) (N := some 45) #[true, true, true, true, true, true, true, true, true, true, true, true, true, true, true, false, false, false, false, false, false, false, false] rfl rfl (by kernel_rfl) (by simp) (fun K hK => ?_)
  refine goes_ Try.func28 (by kernel_rfl) rfl #[.int .i64 ge] (by rfl) rfl rfl (by simp only [List.map_toArray, List.map_cons, List.map_nil]; rfl) ?_
  with_reducible refine (num_calls ge _).mono ?_
  rintro e wn13 ⟨rfl, hb⟩
  refine ⟨_, rfl, ?_⟩
  have HB13' := Aside0.mk (below_step HB8'.out hb)
  clear hb
  refine hK.out _ _ (HKEEP.out _ HB13'.out) (fun hHeld => ?_)
  clear hK K
  refine norm_ (a' := ?_) ?_ ?_
  rotate_left
  · show Act.put _ (some 45) _ = _
    simp only [Act.put, List.setIfInBounds_toArray, List.set_cons_zero, List.set_cons_succ]
    rfl
  refine pure_ (i := 15) (N := some 47) #[true, true, true, true, true, true, true, true, true, true, true, true, true, true, true, true, false, false, false, false, false, false, false] rfl rfl (by kernel_rfl) (fun _ _ _ h => h) (.inl ⟨by rfl, by (intro w; go_simp <;> with_reducible rfl)⟩) rfl ?_
  (try simp only [Act.put, List.setIfInBounds_toArray, List.set_cons_zero, List.set_cons_succ])
  refine pure_ (i := 16) (N := some 48) #[true, true, true, true, true, true, true, true, true, true, true, true, true, true, true, true, true, false, false, false, false, false, false] rfl rfl (by kernel_rfl) (fun _ _ _ h => h) (.inl ⟨by rfl, by (intro w; go_simp <;> with_reducible rfl)⟩) rfl ?_
  (try simp only [Act.put, List.setIfInBounds_toArray, List.set_cons_zero, List.set_cons_succ])
  refine pure_ (i := 17) (N := some 49) #[true, true, true, true, true, true, true, true, true, true, true, true, true, true, true, true, true, true, false, false, false, false, false] rfl rfl (by kernel_rfl) (fun _ _ _ h => h) (.inl ⟨by rfl, by (intro w; go_simp <;> with_reducible rfl)⟩) rfl ?_
  (try simp only [Act.put, List.setIfInBounds_toArray, List.set_cons_zero, List.set_cons_succ])
  refine pure_ (i := 18) (N := some 50) #[true, true, true, true, true, true, true, true, true, true, true, true, true, true, true, true, true, true, true, false, false, false, false] rfl rfl (by kernel_rfl) (fun _ _ _ h => h) (.inl ⟨by rfl, by (intro w; go_simp <;> with_reducible rfl)⟩) rfl ?_
  (try simp only [Act.put, List.setIfInBounds_toArray, List.set_cons_zero, List.set_cons_succ])
  refine pure_ (i := 19) (N := some 51) #[true, true, true, true, true, true, true, true, true, true, true, true, true, true, true, true, true, true, true, true, false, false, false] rfl rfl (by kernel_rfl) (fun _ _ _ h => h) (.inl ⟨by rfl, by (intro w; go_simp <;> with_reducible rfl)⟩) rfl ?_
  (try simp only [Act.put, List.setIfInBounds_toArray, List.set_cons_zero, List.set_cons_succ])
  refine one_ (i := 20) (N := some 52) #[true, true, true, true, true, true, true, true, true, true, true, true, true, true, true, true, true, true, true, true, true, false, false] rfl rfl (by kernel_rfl) (by simp) (fun K hK => ?_)
  have hq20 := stays_calls D1 c1 D cd bl _ _ (lent_below HLE6.out HB13'.out) (Kd.C_below HD6.out HB13'.out) (by have := HBL.out; omega)
  rw [← HM.out] at hq20
  refine goes_ Try.func29 (by kernel_rfl) rfl #[.slice D1 m c1, .slice D m cd] (by rfl) rfl rfl (by simp only [List.map_toArray, List.map_cons, List.map_nil]; rfl) ?_
  with_reducible refine (hq20).mono ?_
  rintro e wn20 ⟨rfl, hb⟩
  refine ⟨_, rfl, ?_⟩
  have HB20' := Aside0.mk (below_step HB13'.out hb)
  clear hb hq20
  refine hK.out _ _ (HKEEP.out _ HB20'.out) (fun hHeld => ?_)
  clear hK K
  refine norm_ (a' := ?_) ?_ ?_
  rotate_left
  · show Act.put _ (some 52) _ = _
    simp only [Act.put, List.setIfInBounds_toArray, List.set_cons_zero, List.set_cons_succ]
    rfl
  refine pure_ (i := 21) (N := some 53) #[true, true, true, true, true, true, true, true, true, true, true, true, true, true, true, true, true, true, true, true, true, true, false] rfl rfl (by kernel_rfl) (fun _ _ _ h => h) (.inl ⟨by rfl, by (intro w; go_simp <;> with_reducible rfl)⟩) rfl ?_
  (try simp only [Act.put, List.setIfInBounds_toArray, List.set_cons_zero, List.set_cons_succ])
  refine pure_ (i := 22) (N := some 54) #[true, true, true, true, true, true, true, true, true, true, true, true, true, true, true, true, true, true, true, true, true, true, true] rfl rfl (by kernel_rfl) (fun _ _ _ h => h) (.inl ⟨by rfl, by (intro w; go_simp <;> with_reducible rfl)⟩) rfl ?_
  (try simp only [Act.put, List.setIfInBounds_toArray, List.set_cons_zero, List.set_cons_succ])
  refine done_ (by kernel_rfl) ?_
  obtain ⟨wE, hwE⟩ : ∃ wE, wE = wn20 := ⟨_, rfl⟩
  rw [← hwE]
  have HE : Aside0 (Below w6.heap.size w6 wE) := ⟨by rw [hwE]; exact HB20'.out⟩
  have HBE := Aside0.mk (HB6.out.trans (Xf.below_low HE.out HB6.out.size))
  have HXE := Aside0.mk (Kd.C_below HX6.out HE.out)
  have HCE := Aside0.mk (Kd.C_below HC6.out HE.out)
  clear hwE
  go_wp2_with fail
  go_loopg [11] n (fun g s11 wx => ∃ j : Nat, s11 = .int .i64 (j : Int) ∧ Aside0 (j + g = n) ∧ Aside0 (Below wE.heap.size wE wx))
  case atStart => exact ⟨0, rfl, ⟨Nat.zero_add _⟩, ⟨Below.refl _ _⟩⟩
  case round =>
  obtain ⟨j, rfl, HG, HBR⟩ := hrel
  by_cases hj : (j : Int) < n
  · have hjl : j < l.length := by have := HN.out; omega
    have hjn : j < n := by have := HN.out; omega
    obtain ⟨adx, hA1, hlx⟩ := lq40 (Kd.C_below HXE.out HBR.out) j hjl
    obtain ⟨adl, hA2, hll⟩ := lq44 (Kd.C_below HCE.out HBR.out) j hjl
    subst hA1
    subst hA2
    obtain ⟨x, hx⟩ : ∃ x, x = cv l[j] := ⟨_, rfl⟩
    rw [← hx] at hlx hll
    have HLX := Aside0.mk hlx
    have HLL := Aside0.mk hll
    clear hx hjl
    obtain ⟨pb, hpb⟩ : ∃ pb, pb = (putV x).1 := ⟨_, rfl⟩
    obtain ⟨pe, hpe⟩ : ∃ pe, pe = (putV x).2 := ⟨_, rfl⟩
    have HPL : Aside0 (pb.length ≤ 64 ∧ Byts pb) := ⟨by rw [hpb]; exact ⟨putV_len x, putV_byts x⟩⟩
    have HPE : Aside0 (pe = 0 → rightB x = true ∧ pb = putB x) := ⟨fun h => by rw [hpe] at h; rw [hpb]; exact putV_err x h⟩
    have hpp := pput_calls x wr
    unfold ag at hpp
    rw [← hpb, ← hpe] at hpp
    have hrp := fun W => rput_calls x W
    rw [← hpb, ← hpe] at hrp
    have HRP := Aside0.mk hrp
    clear hrp hpb hpe hll
    obtain ⟨c0, c1, c2, c3, c4, c5, c6, c7⟩ := hlx
    go_wp2_with fail
    refine hpp.mono ?_
    rintro e wa ⟨v12, rfl, hr12, hba⟩
    have HLXa := Aside0.mk (LQ_below HLX.out hba)
    have HLLa := Aside0.mk (LQ_below HLL.out hba)
    obtain ⟨A12, k12, rfl⟩ := Kd.R_slice hr12
    have HR12 := Aside0.mk (Kd.R_reads' hr12).2
    have HBA := Aside0.mk (below_step HBR.out hba)
    have hrp := HRP.out wa
    obtain ⟨np, hnp⟩ : ∃ np, np = pb.length := ⟨_, rfl⟩
    rw [← hnp] at HR12 HPL ⊢
    have HNP := Aside0.mk hnp
    have hlla := HLLa.out
    clear hpp hr12 hba c0 c1 c2 c3 c4 c5 c6 c7
    obtain ⟨c0, c1, c2, c3, c4, c5, c6, c7⟩ := hlla
    go_wp2_with fail
    refine hrp.mono ?_
    rintro e wb ⟨v14, rfl, hr14, hbb⟩
    have HLXb := Aside0.mk (LQ_below HLXa.out hbb)
    have HLLb := Aside0.mk (LQ_below HLLa.out hbb)
    obtain ⟨A14, k14, rfl⟩ := Kd.R_slice hr14
    have HR14 := Aside0.mk (Kd.R_reads' hr14).2
    have HR12b := Aside0.mk (And.intro HR12.out.1 (Kd.C_below HR12.out.2 hbb))
    rw [← HNP.out] at HR14 ⊢
    have HBB := Aside0.mk (below_step HBA.out hbb)
    obtain ⟨sp, hsp⟩ : ∃ sp, sp = strOfNums pb := ⟨_, rfl⟩
    clear hrp hr14 hbb c0 c1 c2 c3 c4 c5 c6 c7 hnp
    have HKEEP2 : Aside0 (∀ W, Below wb.heap.size wb W → (LQ adx j x W ∧ LQ adl j x W ∧ CV A12 np k12 sp W ∧ CV A14 np k14 sp W)) := ⟨fun W hb => ⟨LQ_below HLXb.out hb, LQ_below HLLb.out hb, by rw [hsp]; exact CV_of (Kd.C_below HR12b.out.2 hb), by rw [hsp]; exact CV_of (Kd.C_below HR14.out.2 hb)⟩⟩
    clear hsp
    go_upto_region 12 with fail
    have HBb0 : Aside0 (Below wb.heap.size wb wb.drew) := ⟨below_drew (Below.refl _ _)⟩
    refine start_ (S := fun W => LQ adx j x W ∧ LQ adl j x W ∧ CV A12 np k12 sp W ∧ CV A14 np k14 sp W) (ds := []) #[false, false, false, false, false, false, false, false, false, false, false, false, false, false, false, false, false, false, false, false, false, false, false, false] (by kernel_rfl) rfl rfl (HKEEP2.out _ HBb0.out) (fun hHeld => ?_)
    refine pure_ (i := 0) (N := some 77) #[true, false, false, false, false, false, false, false, false, false, false, false, false, false, false, false, false, false, false, false, false, false, false, false] rfl rfl (by kernel_rfl) (fun _ _ _ h => h) (.inl ⟨by rfl, by (intro w; go_simp <;> with_reducible rfl)⟩) rfl ?_
    (try simp only [Act.put, List.setIfInBounds_toArray, List.set_cons_zero, List.set_cons_succ])
    refine pure_ (i := 1) (N := some 78) #[true, true, false, false, false, false, false, false, false, false, false, false, false, false, false, false, false, false, false, false, false, false, false, false] rfl rfl (by kernel_rfl) (fun _ _ _ h => h) (.inl ⟨by rfl, by (intro w; go_simp <;> with_reducible rfl)⟩) rfl ?_
    (try simp only [Act.put, List.setIfInBounds_toArray, List.set_cons_zero, List.set_cons_succ])
    refine pure_ (i := 2) (N := some 79) #[true, true, true, false, false, false, false, false, false, false, false, false, false, false, false, false, false, false, false, false, false, false, false, false] rfl rfl (by kernel_rfl) (fun _ _ _ h => h) (.inl ⟨by rfl, by (intro w; go_simp <;> with_reducible rfl)⟩) rfl ?_
    (try simp only [Act.put, List.setIfInBounds_toArray, List.set_cons_zero, List.set_cons_succ])
    refine pure_ (i := 5) (N := some 82) #[true, true, true, false, false, true, false, false, false, false, false, false, false, false, false, false, false, false, false, false, false, false, false, false] rfl rfl (by kernel_rfl) (fun _ _ _ h => h) (.inl ⟨by rfl, by (intro w; go_simp <;> with_reducible rfl)⟩) rfl ?_
    (try simp only [Act.put, List.setIfInBounds_toArray, List.set_cons_zero, List.set_cons_succ])
    refine pure_ (i := 6) (N := some 83) #[true, true, true, false, false, true, true, false, false, false, false, false, false, false, false, false, false, false, false, false, false, false, false, false] rfl rfl (by kernel_rfl) (fun _ _ _ h => h) (.inl ⟨by rfl, by (intro w; go_simp <;> with_reducible rfl)⟩) rfl ?_
    (try simp only [Act.put, List.setIfInBounds_toArray, List.set_cons_zero, List.set_cons_succ])
    refine pure_ (i := 7) (N := some 84) #[true, true, true, false, false, true, true, true, false, false, false, false, false, false, false, false, false, false, false, false, false, false, false, false] rfl rfl (by kernel_rfl) (fun _ _ _ h => h) (.inl ⟨by rfl, by (intro w; go_simp <;> with_reducible rfl)⟩) rfl ?_
    (try simp only [Act.put, List.setIfInBounds_toArray, List.set_cons_zero, List.set_cons_succ])
    refine take_ (i := 3) (N := some 80) #[true, true, true, true, false, true, true, true, false, false, false, false, false, false, false, false, false, false, false, false, false, false, false, false] rfl rfl (by kernel_rfl) (fun _ _ _ h => h) (.inl ⟨by rfl, by (intro w hSw; (try dsimp only at hSw); (try unfold B8 at hSw); (try unfold LQ at hSw); (try unfold CV at hSw); go_simp <;> with_reducible rfl)⟩) hHeld rfl ?_
    (try simp only [Act.put, List.setIfInBounds_toArray, List.set_cons_zero, List.set_cons_succ])
    refine take_ (i := 8) (N := some 85) #[true, true, true, true, false, true, true, true, true, false, false, false, false, false, false, false, false, false, false, false, false, false, false, false] rfl rfl (by kernel_rfl) (fun _ _ _ h => h) (.inl ⟨by rfl, by (intro w hSw; (try dsimp only at hSw); (try unfold B8 at hSw); (try unfold LQ at hSw); (try unfold CV at hSw); go_simp <;> with_reducible rfl)⟩) hHeld rfl ?_
    (try simp only [Act.put, List.setIfInBounds_toArray, List.set_cons_zero, List.set_cons_succ])
    refine one_ (i := 4) (N := some 81) #[true, true, true, true, true, true, true, true, true, false, false, false, false, false, false, false, false, false, false, false, false, false, false, false] rfl rfl (by kernel_rfl) (by simp) (fun K hK => ?_)
    refine goes_ Try.func32 (by kernel_rfl) rfl #[.agg #[.int .i64 x.f0, .int .i64 x.f1, .int .i64 x.f2, .int .i64 x.f3, .int .i64 x.f4, .int .i64 x.f5, .int .i64 x.f6, .int .i64 x.f7]] (by rfl) rfl rfl (by simp only [List.map_toArray, List.map_cons, List.map_nil]; rfl) ?_
    with_reducible refine (pright_calls x _).mono ?_
    rintro e wm4 ⟨rfl, hb⟩
    refine ⟨_, rfl, ?_⟩
    have HB4m := Aside0.mk (below_step HBb0.out hb)
    clear hb
    refine hK.out _ _ (HKEEP2.out _ HB4m.out) (fun hHeld => ?_)
    clear hK K
    refine norm_ (a' := ?_) ?_ ?_
    rotate_left
    · show Act.put _ (some 81) _ = _
      simp only [Act.put, List.setIfInBounds_toArray, List.set_cons_zero, List.set_cons_succ]
      rfl
    refine one_ (i := 9) (N := some 86) #[true, true, true, true, true, true, true, true, true, true, false, false, false, false, false, false, false, false, false, false, false, false, false, false] rfl rfl (by kernel_rfl) (by simp) (fun K hK => ?_)
    refine goes_ Try.func33 (by kernel_rfl) rfl #[.agg #[.int .i64 x.f0, .int .i64 x.f1, .int .i64 x.f2, .int .i64 x.f3, .int .i64 x.f4, .int .i64 x.f5, .int .i64 x.f6, .int .i64 x.f7]] (by rfl) rfl rfl (by simp only [List.map_toArray, List.map_cons, List.map_nil]; rfl) ?_
    with_reducible refine (rright_calls x _).mono ?_
    rintro e wm9 ⟨rfl, hb⟩
    refine ⟨_, rfl, ?_⟩
    have HB9m := Aside0.mk (below_step HB4m.out hb)
    clear hb
    refine hK.out _ _ (HKEEP2.out _ HB9m.out) (fun hHeld => ?_)
    clear hK K
    refine norm_ (a' := ?_) ?_ ?_
    rotate_left
    · show Act.put _ (some 86) _ = _
      simp only [Act.put, List.setIfInBounds_toArray, List.set_cons_zero, List.set_cons_succ]
      rfl
    refine pure_ (i := 10) (N := some 87) #[true, true, true, true, true, true, true, true, true, true, true, false, false, false, false, false, false, false, false, false, false, false, false, false] rfl rfl (by kernel_rfl) (fun _ _ _ h => h) (.inl ⟨by rfl, by (intro w; go_simp <;> with_reducible rfl)⟩) rfl ?_
    (try simp only [Act.put, List.setIfInBounds_toArray, List.set_cons_zero, List.set_cons_succ])
    refine pure_ (i := 11) (N := some 88) #[true, true, true, true, true, true, true, true, true, true, true, true, false, false, false, false, false, false, false, false, false, false, false, false] rfl rfl (by kernel_rfl) (fun _ _ _ h => h) (.inl ⟨by rfl, by (intro w; go_simp <;> with_reducible rfl)⟩) rfl ?_
    (try simp only [Act.put, List.setIfInBounds_toArray, List.set_cons_zero, List.set_cons_succ])
    refine pure_ (i := 12) (N := some 89) #[true, true, true, true, true, true, true, true, true, true, true, true, true, false, false, false, false, false, false, false, false, false, false, false] rfl rfl (by kernel_rfl) (fun _ _ _ h => h) (.inl ⟨by rfl, by (intro w; go_simp <;> with_reducible rfl)⟩) rfl ?_
    (try simp only [Act.put, List.setIfInBounds_toArray, List.set_cons_zero, List.set_cons_succ])
    refine pure_ (i := 14) (N := some 91) #[true, true, true, true, true, true, true, true, true, true, true, true, true, false, true, false, false, false, false, false, false, false, false, false] rfl rfl (by kernel_rfl) (fun _ _ _ h => h) (.inl ⟨by rfl, by (intro w; go_simp <;> with_reducible rfl)⟩) rfl ?_
    (try simp only [Act.put, List.setIfInBounds_toArray, List.set_cons_zero, List.set_cons_succ])
    refine take_ (i := 13) (N := some 90) #[true, true, true, true, true, true, true, true, true, true, true, true, true, true, true, false, false, false, false, false, false, false, false, false] rfl rfl (by kernel_rfl) (fun _ _ _ h => h) (.inl ⟨by rfl, by (intro w hSw; (try dsimp only at hSw); (try unfold B8 at hSw); (try unfold LQ at hSw); (try unfold CV at hSw); go_simp <;> with_reducible rfl)⟩) hHeld rfl ?_
    (try simp only [Act.put, List.setIfInBounds_toArray, List.set_cons_zero, List.set_cons_succ])
    refine take_ (i := 15) (N := some 92) #[true, true, true, true, true, true, true, true, true, true, true, true, true, true, true, true, false, false, false, false, false, false, false, false] rfl rfl (by kernel_rfl) (fun _ _ _ h => h) (.inl ⟨by rfl, by (intro w hSw; (try dsimp only at hSw); (try unfold B8 at hSw); (try unfold LQ at hSw); (try unfold CV at hSw); go_simp <;> with_reducible rfl)⟩) hHeld rfl ?_
    (try simp only [Act.put, List.setIfInBounds_toArray, List.set_cons_zero, List.set_cons_succ])
    refine pure_ (i := 16) (N := some 93) #[true, true, true, true, true, true, true, true, true, true, true, true, true, true, true, true, true, false, false, false, false, false, false, false] rfl rfl (by kernel_rfl) (fun _ _ _ h => h) (.inl ⟨by rfl, by (intro w; go_simp <;> with_reducible rfl)⟩) rfl ?_
    (try simp only [Act.put, List.setIfInBounds_toArray, List.set_cons_zero, List.set_cons_succ])
    refine pure_ (i := 17) (N := some 94) #[true, true, true, true, true, true, true, true, true, true, true, true, true, true, true, true, true, true, false, false, false, false, false, false] rfl rfl (by kernel_rfl) (fun _ _ _ h => h) (.inl ⟨by rfl, by (intro w; go_simp <;> with_reducible rfl)⟩) rfl ?_
    (try simp only [Act.put, List.setIfInBounds_toArray, List.set_cons_zero, List.set_cons_succ])
    refine pure_ (i := 18) (N := some 95) #[true, true, true, true, true, true, true, true, true, true, true, true, true, true, true, true, true, true, true, false, false, false, false, false] rfl rfl (by kernel_rfl) (fun _ _ _ h => h) (.inl ⟨by rfl, by (intro w; go_simp <;> with_reducible rfl)⟩) rfl ?_
    (try simp only [Act.put, List.setIfInBounds_toArray, List.set_cons_zero, List.set_cons_succ])
    refine pure_ (i := 19) (N := some 96) #[true, true, true, true, true, true, true, true, true, true, true, true, true, true, true, true, true, true, true, true, false, false, false, false] rfl rfl (by kernel_rfl) (fun _ _ _ h => h) (.inl ⟨by rfl, by (intro w; go_simp <;> with_reducible rfl)⟩) rfl ?_
    (try simp only [Act.put, List.setIfInBounds_toArray, List.set_cons_zero, List.set_cons_succ])
    refine pure_ (i := 21) (N := some 98) #[true, true, true, true, true, true, true, true, true, true, true, true, true, true, true, true, true, true, true, true, false, true, false, false] rfl rfl (by kernel_rfl) (fun _ _ _ h => h) (.inl ⟨by rfl, by (intro w; go_simp <;> with_reducible rfl)⟩) rfl ?_
    (try simp only [Act.put, List.setIfInBounds_toArray, List.set_cons_zero, List.set_cons_succ])
    refine one_ (i := 20) (N := some 97) #[true, true, true, true, true, true, true, true, true, true, true, true, true, true, true, true, true, true, true, true, true, true, false, false] rfl rfl (by kernel_rfl) (by simp) (fun K hK => ?_)
    refine goes_ Try.func28 (by kernel_rfl) rfl #[.int .i64 pe] (by rfl) rfl rfl (by simp only [List.map_toArray, List.map_cons, List.map_nil]; rfl) ?_
    with_reducible refine (num_calls pe _).mono ?_
    rintro e wm20 ⟨rfl, hb⟩
    refine ⟨_, rfl, ?_⟩
    have HB20m := Aside0.mk (below_step HB9m.out hb)
    clear hb
    refine hK.out _ _ (HKEEP2.out _ HB20m.out) (fun hHeld => ?_)
    clear hK K
    refine norm_ (a' := ?_) ?_ ?_
    rotate_left
    · show Act.put _ (some 97) _ = _
      simp only [Act.put, List.setIfInBounds_toArray, List.set_cons_zero, List.set_cons_succ]
      rfl
    refine pure_ (i := 22) (N := some 99) #[true, true, true, true, true, true, true, true, true, true, true, true, true, true, true, true, true, true, true, true, true, true, true, false] rfl rfl (by kernel_rfl) (fun _ _ _ h => h) (.inl ⟨by rfl, by (intro w; go_simp <;> with_reducible rfl)⟩) rfl ?_
    (try simp only [Act.put, List.setIfInBounds_toArray, List.set_cons_zero, List.set_cons_succ])
    refine pure_ (i := 23) (N := some 100) #[true, true, true, true, true, true, true, true, true, true, true, true, true, true, true, true, true, true, true, true, true, true, true, true] rfl rfl (by kernel_rfl) (fun _ _ _ h => h) (.inl ⟨by rfl, by (intro w; go_simp <;> with_reducible rfl)⟩) rfl ?_
    (try simp only [Act.put, List.setIfInBounds_toArray, List.set_cons_zero, List.set_cons_succ])
    refine done_ (by kernel_rfl) ?_
    obtain ⟨wF, hwF⟩ : ∃ wF, wF = wm20 := ⟨_, rfl⟩
    rw [← hwF]
    have HF : Aside0 (Below wb.heap.size wb wF) := ⟨by rw [hwF]; exact HB20m.out⟩
    have HBF := Aside0.mk (below_step HBB.out HF.out)
    clear hwF
    by_cases h0 : pe = 0
    · obtain ⟨hRx, hpbx⟩ := HPE.out h0
      subst h0
      have hg := pget_any A12 k12 pb wF (by rw [← HNP.out]; exact Kd.C_below HR12b.out.2 HF.out) (by rw [← HNP.out]; exact HR12b.out.1) (by rw [← HNP.out]; have := HPL.out.1; omega) HPL.out.2
      have he := get_put x hRx
      rw [← hpbx] at he
      rw [he, ← HNP.out] at hg
      unfold ag at hg
      simp only at hg
      clear hRx hpbx he
      go_wp2_with fail
      refine hg.mono ?_
      rintro e wg ⟨rfl, hbg⟩
      have HBG := Aside0.mk (below_step HF.out hbg)
      clear hg hbg
      go_upto_region 16 with (first | ((with_reducible refine gate_store (t := 40) (p := 16) rfl ?_); refine put8 x rfl rfl rfl rfl rfl (blk_new _ _) rfl ?_; intro wh hkh hfh hbh hsh; have HK16 := Aside0.mk hkh; have HBGH := Aside0.mk (hbh _ _ (Nat.le_refl _) (below_alloc (Below.refl wg.heap.size wg) _)); clear hkh hfh hbh hsh))
      obtain ⟨b16, hb16⟩ : ∃ b16, b16 = wg.heap.size := ⟨_, rfl⟩
      rw [← hb16] at HK16 ⊢
      clear hb16
      have HBH := Aside0.mk (below_step HBG.out HBGH.out)
      have HLT3 : Aside0 (b16 < wh.heap.size) := ⟨blk_lt HK16.out⟩
      have HLXh := Aside0.mk (LQ_below HLXb.out HBH.out)
      have HKEEP3 : Aside0 (∀ W, Below wh.heap.size wh W → (LQ adx j x W ∧ B8 b16 x W)) := ⟨fun W hb => ⟨LQ_below HLXh.out hb, B8_of ((hb.block b16 HLT3.out).trans HK16.out)⟩⟩
      have HBh0 : Aside0 (Below wh.heap.size wh wh.drew) := ⟨below_drew (Below.refl _ _)⟩
      have HBJ := Aside0.mk (below_step HBB.out HBH.out)
      refine start_ (S := fun W => LQ adx j x W ∧ B8 b16 x W) (ds := []) #[false, false, false, false, false, false, false, false, false, false, false] (by kernel_rfl) rfl rfl (HKEEP3.out _ HBh0.out) (fun hHeld => ?_)
      refine pure_ (i := 0) (N := some 108) #[true, false, false, false, false, false, false, false, false, false, false] rfl rfl (by kernel_rfl) (fun _ _ _ h => h) (.inl ⟨by rfl, by (intro w; go_simp <;> with_reducible rfl)⟩) rfl ?_
      (try simp only [Act.put, List.setIfInBounds_toArray, List.set_cons_zero, List.set_cons_succ])
      refine one_ (i := 1) (N := some 109) #[true, true, false, false, false, false, false, false, false, false, false] rfl rfl (by kernel_rfl) (by simp) (fun K hK => ?_)
      refine goes_ Try.func28 (by kernel_rfl) rfl #[.int .i64 0] (by rfl) rfl rfl (by simp only [List.map_toArray, List.map_cons, List.map_nil]; rfl) ?_
      with_reducible refine (num_calls 0 _).mono ?_
      rintro e wk1 ⟨rfl, hb⟩
      refine ⟨_, rfl, ?_⟩
      have HB1k := Aside0.mk (below_step HBh0.out hb)
      clear hb
      refine hK.out _ _ (HKEEP3.out _ HB1k.out) (fun hHeld => ?_)
      clear hK K
      refine norm_ (a' := ?_) ?_ ?_
      rotate_left
      · show Act.put _ (some 109) _ = _
        simp only [Act.put, List.setIfInBounds_toArray, List.set_cons_zero, List.set_cons_succ]
        rfl
      refine pure_ (i := 2) (N := some 110) #[true, true, true, false, false, false, false, false, false, false, false] rfl rfl (by kernel_rfl) (fun _ _ _ h => h) (.inl ⟨by rfl, by (intro w; go_simp <;> with_reducible rfl)⟩) rfl ?_
      (try simp only [Act.put, List.setIfInBounds_toArray, List.set_cons_zero, List.set_cons_succ])
      refine pure_ (i := 3) (N := some 111) #[true, true, true, true, false, false, false, false, false, false, false] rfl rfl (by kernel_rfl) (fun _ _ _ h => h) (.inl ⟨by rfl, by (intro w; go_simp <;> with_reducible rfl)⟩) rfl ?_
      (try simp only [Act.put, List.setIfInBounds_toArray, List.set_cons_zero, List.set_cons_succ])
      refine pure_ (i := 5) (N := some 113) #[true, true, true, true, false, true, false, false, false, false, false] rfl rfl (by kernel_rfl) (fun _ _ _ h => h) (.inl ⟨by rfl, by (intro w; go_simp <;> with_reducible rfl)⟩) rfl ?_
      (try simp only [Act.put, List.setIfInBounds_toArray, List.set_cons_zero, List.set_cons_succ])
      refine pure_ (i := 6) (N := some 114) #[true, true, true, true, false, true, true, false, false, false, false] rfl rfl (by kernel_rfl) (fun _ _ _ h => h) (.inl ⟨by rfl, by (intro w; go_simp <;> with_reducible rfl)⟩) rfl ?_
      (try simp only [Act.put, List.setIfInBounds_toArray, List.set_cons_zero, List.set_cons_succ])
      refine pure_ (i := 7) (N := some 115) #[true, true, true, true, false, true, true, true, false, false, false] rfl rfl (by kernel_rfl) (fun _ _ _ h => h) (.inl ⟨by rfl, by (intro w; go_simp <;> with_reducible rfl)⟩) rfl ?_
      (try simp only [Act.put, List.setIfInBounds_toArray, List.set_cons_zero, List.set_cons_succ])
      refine take_ (i := 4) (N := some 112) #[true, true, true, true, true, true, true, true, false, false, false] rfl rfl (by kernel_rfl) (fun _ _ _ h => h) (.inl ⟨by rfl, by (intro w hSw; (try dsimp only at hSw); (try unfold B8 at hSw); (try unfold LQ at hSw); (try unfold CV at hSw); go_simp <;> with_reducible rfl)⟩) hHeld rfl ?_
      (try simp only [Act.put, List.setIfInBounds_toArray, List.set_cons_zero, List.set_cons_succ])
      refine take_ (i := 8) (N := some 116) #[true, true, true, true, true, true, true, true, true, false, false] rfl rfl (by kernel_rfl) (fun _ _ _ h => h) (.inl ⟨by rfl, by (intro w hSw; (try dsimp only at hSw); (try unfold B8 at hSw); (try unfold LQ at hSw); (try unfold CV at hSw); go_simp <;> with_reducible rfl)⟩) hHeld rfl ?_
      (try simp only [Act.put, List.setIfInBounds_toArray, List.set_cons_zero, List.set_cons_succ])
      refine pure_ (i := 9) (N := some 117) #[true, true, true, true, true, true, true, true, true, true, false] rfl rfl (by kernel_rfl) (fun _ _ _ h => h) (.inl ⟨by rfl, by (intro w; go_simp <;> with_reducible rfl)⟩) rfl ?_
      (try simp only [Act.put, List.setIfInBounds_toArray, List.set_cons_zero, List.set_cons_succ])
      refine pure_ (i := 10) (N := some 118) #[true, true, true, true, true, true, true, true, true, true, true] rfl rfl (by kernel_rfl) (fun _ _ _ h => h) (.inl ⟨by rfl, by (intro w; go_simp <;> with_reducible rfl)⟩) rfl ?_
      (try simp only [Act.put, List.setIfInBounds_toArray, List.set_cons_zero, List.set_cons_succ])
      refine done_ (by kernel_rfl) ?_
      go_wp2
      go_roundg (gk - 1)
      case measure => have h1 := HG.out; omega
      case rel => exact ⟨j + 1, by have h1 := HL.out; have h2 := HN.out; have h3 : wrap64 ((j : Int) + 1) = ((j + 1 : Nat) : Int) := (by unfold wrap64; omega); rw [h3], ⟨by have h1 := HG.out; omega⟩, ⟨below_step HBJ.out HB1k.out⟩⟩
    · have e1 : (pe == 0) = false := by simpa using h0
      have e2 : decide (pe = 0) = false := decide_eq_false h0
      clear h0
      go_wp2
      go_roundg (gk - 1)
      case measure => have h1 := HG.out; omega
      case rel => exact ⟨j + 1, by have h1 := HL.out; have h2 := HN.out; have h3 : wrap64 ((j : Int) + 1) = ((j + 1 : Nat) : Int) := (by unfold wrap64; omega); rw [h3], ⟨by have h1 := HG.out; omega⟩, HBF⟩
  · have hk := knows_true wr
    go_wp2_with fail
    refine hk.mono ?_
    rintro e wz ⟨rfl, hbz⟩
    have HBZ := Aside0.mk (below_step HBR.out hbz)
    clear hbz hk
    go_wp2
    go_ret
    exact ⟨rfl, HBE.out.trans (Xf.below_low HBZ.out HBE.out.size)⟩
theorem metas_row (A : Option Addr) (c : Nat) (l : List S44) (D : Option Addr) (cd : Nat) (bl : List Int) (w : World) (hC : k44.C w A l.length l) (hc : l.length ≤ c) (hl : l.length ≤ 1048576)
    (hD : (Kd.int .u8).C w D bl.length bl) (hcd : bl.length ≤ cd) (hbl : bl.length ≤ 1048576 ∧ ∀ n ∈ bl, 0 ≤ n ∧ n < 256) :
    Calls Try.prog 8 #[.slice A l.length c, .slice D bl.length cd] w fun e w' => e = .returned (.bool true) ∧ Below w.heap.size w w' := metas_true A c l D cd bl w hC hc hl hD hcd hbl.1 hbl.2
end Go.Proofs.Ytdohacnjngkkiaa.Mn
