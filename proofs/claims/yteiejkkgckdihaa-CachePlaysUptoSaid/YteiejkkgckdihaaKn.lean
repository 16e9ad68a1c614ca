/- What must come of a cache, as the laws ask it first: 'knows' answers true. -/
import Derived.Test.YteiejkkgckdihaaGe
import Derived.Test.YteiejkkgckdihaaPu
import Derived.Test.YteiejkkgckdihaaA1
import Derived.Lib.SlBytesConst
namespace Go.Proofs.Yteiejkkgckdihaa.Kn
set_option linter.unusedVariables false
open Go.RowKit Go.Proofs.YteiejkkgckdihaaW.PrintWords Go.Proofs.YteiejkkgckdihaaW.PrintLast Go.Proofs.YteiejkkgckdihaaW.PrintMore Go.Proofs.Yteiejkkgckdihaa.Fr Go.Proofs.Yteiejkkgckdihaa.Rg Go.Proofs.Yteiejkkgckdihaa.Rk Go.Proofs.Yteiejkkgckdihaa.Mp Go.Proofs.Yteiejkkgckdihaa.Ca Go.Proofs.Yteiejkkgckdihaa.Dr Go.Proofs.Yteiejkkgckdihaa.Cl Go.Proofs.Yteiejkkgckdihaa.Pe Go.Proofs.Yteiejkkgckdihaa.Pk Go.Proofs.Yteiejkkgckdihaa.Pu Go.Proofs.Yteiejkkgckdihaa.Ge Go.Proofs.Yteiejkkgckdihaa.A
theorem num_is (x : Int) (w : World) : Calls Try.prog 8 #[.int .i64 x] w fun e w' => e = .returned (.int .i64 x) ∧ w' = w := by
  go_enter Try.func8, Try.ntmps8
  go_wp2
  go_ret
  exact ⟨rfl, rfl⟩
theorem lit_C (w : World) (C : Array Value) (fz : Nat × Nat) (xs : List Int) (hC : C = (xs.map (Value.int .u8)).toArray) (hm : xs.length ≤ maxLen) : (Kd.int .u8).C (w.alloc (.cells C 5 fz)) (some ⟨w.heap.size, 0, none⟩) xs.length xs := by
  refine Kd.C_of_reads (d := (0 : Int)) ⟨rfl, hm, fun _ => ⟨_, rfl, fun i hi => ?_⟩⟩
  rw [show (⟨w.heap.size, 0, none⟩ : Addr).add i = ⟨w.heap.size, i, none⟩ from by unfold Addr.add; split <;> simp]
  rw [World.cell?_alloc_mark, hC]
  simp [hi]
theorem lit_CS (w : World) (C : Array Value) (fz : Nat × Nat) (xs : List ByteArray) (hC : C = (xs.map Value.string).toArray) (hm : xs.length ≤ maxLen) : Kd.string.C (w.alloc (.cells C 9 fz)) (some ⟨w.heap.size, 0, none⟩) xs.length xs := by
  refine Kd.C_of_reads (d := ByteArray.empty) ⟨rfl, hm, fun _ => ⟨_, rfl, fun i hi => ?_⟩⟩
  rw [show (⟨w.heap.size, 0, none⟩ : Addr).add i = ⟨w.heap.size, i, none⟩ from by unfold Addr.add; split <;> simp]
  rw [World.cell?_alloc_mark, hC]
  simp [hi]
theorem texts_yes : icehouselaw05_Texts.f 8 [⟨#[97]⟩, ⟨#[99]⟩] [⟨#[97]⟩, ⟨#[99]⟩] = some true := by decide +kernel
/-- Put, of what there is room for -/
theorem put_fit (c m r nn : Nat) (lim hi mi : Int) (L : List Ent) (s : ByteArray) (A : Option Addr) (n cc : Nat) (xs : List Int) (w : World) (h : CL w c m r nn lim hi mi L) (hnn : nn < maxLen) (hs : s.size + n ≤ 1048576) (hbig : ¬ lim < (s.size : Int) + n)
    (hn : n = xs.length) (hC : (Kd.int .u8).C w A n xs) (hc : n ≤ cc) : Calls Try.prog 10 #[PT c, .string s, .slice A n cc] w fun e w' => e = .returned (.int .i64 0) ∧ ∃ x : Ent, x.key = s ∧ x.val = xs ∧ w.heap.size ≤ x.b ∧ CL w' c m r (nn + 1) lim hi mi (evict lim (s.size + n) (but s L) ++ [x]) ∧ Fr (Own c m r L) w w' := by
  subst hn
  exact put_walk c m r nn lim hi mi L s A cc xs w h hnn (by omega) hbig hC hc (by omega)
theorem own_ge {c m r B : Nat} {L : List Ent} (h : ∀ k, Own c m r [] k → B ≤ k) (hL : ∀ x ∈ L, B ≤ x.b) : ∀ k, Own c m r L k → B ≤ k := by
  intro k hk
  rcases hk with hk | hk | hk | ⟨x, hx, hk⟩
  · exact h k (.inl hk)
  · exact h k (.inr (.inl hk))
  · exact h k (.inr (.inr (.inl hk)))
  · rw [hk]; exact hL x hx
theorem step_below {B c m r : Nat} {L : List Ent} {w w1 w2 : World} (hb : Below B w w1) (hB : B ≤ w.heap.size) (hf : Fr (Own c m r L) w1 w2) (ho : ∀ k, Own c m r L k → B ≤ k) : Below B w w2 :=
  hb.trans (hf.below (Nat.le_trans hB hb.size) ho)
theorem ev2 {x1 : Ent} (k1 : x1.key = ⟨#[97]⟩) (v1 : x1.val = [120, 120]) : evict 6 ((⟨#[98]⟩ : ByteArray).size + 2) (but ⟨#[98]⟩ [x1]) = [x1] := by
  have e : but ⟨#[98]⟩ [x1] = [x1] := by
    unfold but
    rw [List.filter_cons, k1]
    simp
  rw [e, evict_stop]
  simp [used, esz, k1, v1, ByteArray.size]
theorem ev3 {x1 x2 : Ent} (k1 : x1.key = ⟨#[97]⟩) (v1 : x1.val = [120, 120]) (k2 : x2.key = ⟨#[98]⟩) (v2 : x2.val = [121, 121]) : evict 6 ((⟨#[99]⟩ : ByteArray).size + 1) (but ⟨#[99]⟩ [x2, x1]) = [x1] := by
  have e : but ⟨#[99]⟩ [x2, x1] = [x2, x1] := by
    unfold but
    rw [List.filter_cons, List.filter_cons, k1, k2]
    simp
  rw [e, evict_go, evict_stop]
  · simp [used, esz, k1, v1, ByteArray.size]
  · simp [used, esz, k1, v1, k2, v2, ByteArray.size]
set_option maxHeartbeats 4000000 in
theorem knows_true (w : World) : Calls Try.prog 9 #[] w fun e w' => e = .returned (.bool true) ∧ Below w.heap.size w w' := by
  have hnew := new_is 6 w (by omega) (by omega)
  go_enter Try.func9, Try.ntmps9
  go_wp2_with fail
  refine hnew.mono ?_
  rintro e w1 ⟨c, m, r, rfl, h1, b1, o1⟩
  have H1 := Aside0.mk h1
  have B1 := Aside0.mk b1
  have O1 := Aside0.mk o1
  clear h1 b1 o1 hnew
  have hcv := fun (W : World) (C : Array Value) (n c : Nat) => Go.Lib.run_convert_bytes_const (P := Try.prog) W 29 5 C n c Try.underlying29 Try.underlying5
  have sa : (⟨#[97]⟩ : ByteArray).size = 1 := rfl
  have sb : (⟨#[98]⟩ : ByteArray).size = 1 := rfl
  have sc : (⟨#[99]⟩ : ByteArray).size = 1 := rfl
  have h1a : CL (w1.alloc (.cells #[.int .u8 120, .int .u8 120] 5 (2, 3))) c m r 0 6 0 0 [] := H1.out.below (below_alloc (Below.refl _ _) _)
  have p1 := put_fit c m r 0 6 0 0 [] ⟨#[97]⟩ (some ⟨w1.heap.size, 0, none⟩) 2 2 [120, 120] _ h1a (by simp only [maxLen]; omega) (by rw [sa]; omega) (by rw [sa]; omega) rfl (lit_C w1 _ (2, 3) [120, 120] rfl (by simp [maxLen])) (by omega)
  clear h1a
  go_wp2_with fail
  refine p1.mono ?_
  rintro e w2 ⟨rfl, x1, k1, v1, g1, h2, f2⟩
  have G1 : w.heap.size ≤ x1.b := Nat.le_trans (Nat.le_trans B1.out.size (by rw [World.size_alloc]; omega)) g1
  have B2 := Aside0.mk (step_below (below_alloc B1.out _) (Nat.le_refl _) f2 O1.out)
  replace h2 : CL w2 c m r 1 6 0 0 [x1] := h2
  have O2 : ∀ k, Own c m r [x1] k → w.heap.size ≤ k := own_ge O1.out (by simp; exact G1)
  have h2a : CL (w2.alloc (.cells #[.int .u8 121, .int .u8 121] 5 (2, 3))) c m r 1 6 0 0 [x1] := h2.below (below_alloc (Below.refl _ _) _)
  have p2 := put_fit c m r 1 6 0 0 [x1] ⟨#[98]⟩ (some ⟨w2.heap.size, 0, none⟩) 2 2 [121, 121] _ h2a (by simp only [maxLen]; omega) (by rw [sb]; omega) (by rw [sb]; omega) rfl (lit_C w2 _ (2, 3) [121, 121] rfl (by simp [maxLen])) (by omega)
  rw [ev2 k1 v1] at p2
  have O2' := Aside0.mk O2
  have K1 := Aside0.mk k1
  have V1 := Aside0.mk v1
  clear h2a h2 O2 f2 g1 p1 k1 v1
  go_wp2_with fail
  refine p2.mono ?_
  rintro e w3 ⟨rfl, x2, k2, v2, g2, h3, f3⟩
  have G2 : w.heap.size ≤ x2.b := Nat.le_trans (Nat.le_trans B2.out.size (by rw [World.size_alloc]; omega)) g2
  have B3 := Aside0.mk (step_below (below_alloc B2.out _) (Nat.le_refl _) f3 O2'.out)
  replace h3 : CL w3 c m r 2 6 0 0 ([] ++ x1 :: [x2]) := h3
  have O3 := Aside0.mk (own_ge (L := [] ++ x1 :: [x2]) O1.out (by simp; exact ⟨G1, G2⟩))
  have K2 := Aside0.mk k2
  have V2 := Aside0.mk v2
  have p3 := get_hit c m r 2 6 0 0 [] [x2] x1 w3 h3 (by omega)
  rw [K1.out] at p3
  clear h3 f3 g2 p2 k2 v2
  go_wp2_with fail
  refine p3.mono ?_
  rintro e w4 ⟨va, rfl, hR, h4, f4⟩
  have B4 := Aside0.mk (step_below B3.out (Nat.le_refl _) f4 O3.out)
  replace h4 : CL w4 c m r 2 6 1 0 [x2, x1] := h4
  have O4 := Aside0.mk (own_ge (L := [x2, x1]) O1.out (by simp; exact ⟨G2, G1⟩))
  have h4a : CL (w4.alloc (.cells #[.int .u8 122] 5 (1, 2))) c m r 2 6 1 0 [x2, x1] := h4.below (below_alloc (Below.refl _ _) _)
  have p4 := put_fit c m r 2 6 1 0 [x2, x1] ⟨#[99]⟩ (some ⟨w4.heap.size, 0, none⟩) 1 1 [122] _ h4a (by simp only [maxLen]; omega) (by rw [sc]; omega) (by rw [sc]; omega) rfl (lit_C w4 _ (1, 2) [122] rfl (by simp [maxLen])) (by omega)
  rw [ev3 K1.out V1.out K2.out V2.out] at p4
  clear h4a h4 hR f4 p3
  go_wp2_with fail
  refine p4.mono ?_
  rintro e w5 ⟨rfl, x3, k3, v3, g3, h5, f5⟩
  have G3 : w.heap.size ≤ x3.b := Nat.le_trans (Nat.le_trans B4.out.size (by rw [World.size_alloc]; omega)) g3
  have B5 := Aside0.mk (step_below (below_alloc B4.out _) (Nat.le_refl _) f5 O4.out)
  replace h5 : CL w5 c m r 3 6 1 0 [x1, x3] := h5
  have H5 := Aside0.mk h5
  have K3 := Aside0.mk k3
  have V3 := Aside0.mk v3
  have p5 := keys_is c m r 3 6 1 0 [x1, x3] w5 h5 (by simp)
  rw [show keysOf [x1, x3] = [⟨#[97]⟩, ⟨#[99]⟩] from by simp [keysOf, K1.out, K3.out]] at p5
  have nm := num_is 0 w5
  clear h5 f5 g3 p4 k3 v3 hcv
  iterate 4 (go_wp2_with fail; refine nm.mono ?_; rintro e w5' ⟨rfl, rfl⟩)
  go_wp2_with fail
  refine p5.mono ?_
  rintro e w6 ⟨vk, rfl, hk, b6⟩
  obtain ⟨Ak, ck, rfl, hck, hCk⟩ := Kd.R_reads hk
  have B6 := Aside0.mk (B5.out.trans (b6.mono B5.out.size))
  have h6 := H5.out.below b6
  have pt := icehouselaw05_Texts.calls 8 Ak ck _ (some ⟨w6.heap.size, 0, none⟩) 2 [⟨#[97]⟩, ⟨#[99]⟩] true (w6.alloc (.cells #[.string ⟨#[97]⟩, .string ⟨#[99]⟩] 9)) (Kd.C_alloc hCk _) hck (lit_CS w6 _ (0, 0) [⟨#[97]⟩, ⟨#[99]⟩] rfl (by simp [maxLen])) (Nat.le_refl _) texts_yes
  have h6a := h6.below (below_alloc (Below.refl _ _) (.cells #[.string ⟨#[97]⟩, .string ⟨#[99]⟩] 9))
  have H6 := Aside0.mk h6a
  have HUS := Aside0.mk (show used [x1, x3] = 5 from by simp [used, esz, K1.out, V1.out, K3.out, V3.out, ByteArray.size])
  clear p5 nm hk b6 hCk h6 h6a
  simp only [List.length_cons, List.length_nil] at pt
  go_wp2_with fail
  refine pt.mono ?_
  rintro e w7 ⟨rfl, hd⟩
  have h7 := H6.out.below hd.below
  have pu := used_is c m r 3 6 1 0 [x1, x3] w7 h7
  rw [HUS.out] at pu
  have B7 := Aside0.mk ((below_alloc B6.out (.cells #[.string ⟨#[97]⟩, .string ⟨#[99]⟩] 9)).trans (hd.below.mono (below_alloc B6.out _).size))
  clear h7 hd pt
  go_wp2_with fail
  refine pu.mono ?_
  rintro e w8 ⟨rfl, rfl⟩
  go_wp2
  go_ret
  exact ⟨rfl, B7.out⟩
end Go.Proofs.Yteiejkkgckdihaa.Kn
