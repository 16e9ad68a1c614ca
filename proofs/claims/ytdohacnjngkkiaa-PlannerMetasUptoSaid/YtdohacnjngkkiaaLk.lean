/- PlannerLooks, walked. -/
import Derived.Test.YtdohacnjngkkiaaRl
namespace Go.Proofs.Ytdohacnjngkkiaa.Lk
set_option linter.unusedVariables false
set_option linter.unusedSimpArgs false
open Go.Proofs.Ytdohacnjngkkiaa.Rl Go.Proofs.Ytdohacnjngkkiaa.Kn Go.Shelf Go.RowKit Go.Proofs.YtdohacnjngkkiaaW.PrintWords Go.Proofs.YtdohacnjngkkiaaW.PrintLast Go.Proofs.YtdohacnjngkkiaaW.PrintMore Go.Proofs.Ytdohacnjngkkiaa.Fr Go.Proofs.Ytdohacnjngkkiaa.A Go.Proofs.Ytdohacnjngkkiaa.Pm Go.Proofs.Ytdohacnjngkkiaa.Pf Go.Proofs.Ytdohacnjngkkiaa.Pi
theorem ids_len (l : List S40) (p : S40 → Bool) : (idsB l p).length ≤ l.length := by
  unfold idsB
  split
  · rw [List.length_map]; exact List.length_filter_le _ _
  · simp
/-- List -/
theorem list_calls (A : Option Addr) (c : Nat) (l : List S44) (w : World) (hC : k44.C w A l.length l) (hc : l.length ≤ c) (hl : l.length ≤ 1048576) :
    Calls Try.prog 9 #[.slice A l.length c] w fun e w' => ∃ v, e = .returned v ∧ k40.R 40 w' w.heap.size (fun _ => True) v (l.map cv) ∧ Below w.heap.size w w' := by
  obtain ⟨K, hK⟩ := list_is l hl
  exact icehouselaw09_List.calls K A c l _ w hC hc (hK K (Nat.le_refl _))
theorem rlook_calls (A : Option Addr) (c : Nat) (l : List S44) (a1 a2 : Int) (w : World) (hC : k44.C w A l.length l) (hc : l.length ≤ c) (hl : l.length ≤ 1048576) :
    Calls Try.prog 12 #[.slice A l.length c, .int .i64 a1, .int .i64 a2] w fun e w' => ∃ v, e = .returned v ∧ (Kd.int .i64).R 3 w' w.heap.size (fun _ => True) v (idsB (l.map cv) (lookB a1 a2)) ∧ Below w.heap.size w w' := by
  obtain ⟨K, hK⟩ := look_is l hl a1 a2
  exact icehouseref09_Look.calls K A c l a1 a2 _ w hC hc (hK K (Nat.le_refl _))
theorem rover_calls (A : Option Addr) (c : Nat) (l : List S44) (a1 a2 : Int) (w : World) (hC : k44.C w A l.length l) (hc : l.length ≤ c) (hl : l.length ≤ 1048576) :
    Calls Try.prog 14 #[.slice A l.length c, .int .i64 a1, .int .i64 a2] w fun e w' => ∃ v, e = .returned v ∧ (Kd.int .i64).R 3 w' w.heap.size (fun _ => True) v (idsB (l.map cv) (overB a1 a2)) ∧ Below w.heap.size w w' := by
  obtain ⟨K, hK⟩ := over_is l hl a1 a2
  exact icehouseref09_Over.calls K A c l a1 a2 _ w hC hc (hK K (Nat.le_refl _))
theorem ints_calls (A : Option Addr) (c : Nat) (B : Option Addr) (d : Nat) (a : List Int) (w : World) (hA : (Kd.int .i64).C w A a.length a) (hc : a.length ≤ c) (hB : (Kd.int .i64).C w B a.length a) (hd : a.length ≤ d) (hl : a.length ≤ 1048576) :
    Calls Try.prog 10 #[.slice A a.length c, .slice B a.length d] w fun e w' => e = .returned (.bool true) ∧ Below w.heap.size w w' := by
  obtain ⟨K, hK⟩ := ints_is a hl
  refine (icehouselaw05_Ints.calls K A c a B d a true w hA hc hB hd (hK K (Nat.le_refl _))).mono ?_
  rintro e w' ⟨rfl, ⟨n, hn⟩⟩
  exact ⟨rfl, by rw [hn]; exact pw_below_drewN (Below.refl _ _) _⟩
theorem same_calls (A : Option Addr) (c : Nat) (B : Option Addr) (d : Nat) (l : List S44) (w : World) (hA : k40.C w A (l.map cv).length (l.map cv)) (hc : (l.map cv).length ≤ c) (hB : k44.C w B l.length l) (hd : l.length ≤ d) (hl : l.length ≤ 1048576) :
    Calls Try.prog 15 #[.slice A (l.map cv).length c, .slice B l.length d] w fun e w' => e = .returned (.bool true) ∧ Below w.heap.size w w' := by
  obtain ⟨K, hK⟩ := same_is l hl
  exact icehouselaw09_same.calls K A c _ B d l true w hA hc hB hd (hK K (Nat.le_refl _))
set_option maxHeartbeats 2000000 in
theorem looks_true (A : Option Addr) (c : Nat) (l : List S44) (fr up keep now : Int) (w : World) (hC : k44.C w A l.length l) (hc : l.length ≤ c) (hl : l.length ≤ 1048576) :
    Calls Try.prog 3 #[.slice A l.length c, .int .i64 fr, .int .i64 up, .int .i64 keep, .int .i64 now] w fun e w' => e = .returned (.bool true) ∧ Below w.heap.size w w' := by
  have hli := list_calls A c l w hC hc hl
  have HC := Aside0.mk hC
  have HCC := Aside0.mk hc
  have HL := Aside0.mk hl
  have HXL : Aside0 ((l.map cv).length = l.length) := ⟨List.length_map ..⟩
  obtain ⟨n, hn⟩ : ∃ n, n = l.length := ⟨_, rfl⟩
  rw [← hn] at hli ⊢
  have HN := Aside0.mk hn
  clear hC hc hl hn
  go_enter Try.func3, Try.ntmps3
  go_wp2_with fail
  refine hli.mono ?_
  rintro e w1 ⟨v, rfl, hr1, hb1⟩
  obtain ⟨X, cx, rfl, hcx⟩ := OwnRow.slice_ hr1.2
  have HX := Aside0.mk (Kd.R_reads' hr1).2.2
  have HCX := Aside0.mk hcx
  have HB1 := Aside0.mk hb1
  rw [HXL.out, ← HN.out]
  clear hli hr1 hb1 hcx
  -- Look
  have h2 := Pi.look_calls X cx (l.map cv) fr up w1 HX.out (by rw [HXL.out]; exact HL.out)
  rw [HXL.out, ← HN.out] at h2
  go_wp2_with fail
  refine h2.mono ?_
  rintro e w2 ⟨v2, rfl, hr2, hb2⟩
  have HR2 := Aside0.mk hr2
  have HB12 := Aside0.mk hb2
  have HB2 := Aside0.mk (below_step HB1.out hb2)
  clear h2 hr2 hb2
  have h3 := rlook_calls A c l fr up w2 (Kd.C_below HC.out HB2.out) HCC.out HL.out
  rw [← HN.out] at h3
  go_wp2_with fail
  refine h3.mono ?_
  rintro e w3 ⟨v3, rfl, hr3, hb3⟩
  obtain ⟨A3, c3, rfl, hc3⟩ := OwnRow.slice_ hr3.2
  have hr2 := Kd.R_below HR2.out hb3
  obtain ⟨A2, c2, rfl, hc2⟩ := OwnRow.slice_ hr2.2
  have h4 := ints_calls A2 c2 A3 c3 _ w3 (Kd.R_reads' hr2).2.2 hc2 (Kd.R_reads' hr3).2.2 hc3 (Nat.le_trans (ids_len _ _) (by rw [HXL.out]; exact HL.out))
  have HB13 := Aside0.mk (below_step HB12.out hb3)
  have HB3 := Aside0.mk (below_step HB2.out hb3)
  clear h3 hr3 hb3 hr2 hc2 hc3
  go_wp2_with fail
  refine h4.mono ?_
  rintro e w4 ⟨rfl, hb4⟩
  have HB14 := Aside0.mk (below_step HB13.out hb4)
  have HB4 := Aside0.mk (below_step HB3.out hb4)
  clear h4 hb4
  -- Over
  have h2 := Pi.over_calls X cx (l.map cv) keep now w4 (Kd.C_below HX.out HB14.out) (by rw [HXL.out]; exact HL.out)
  rw [HXL.out, ← HN.out] at h2
  go_wp2_with fail
  refine h2.mono ?_
  rintro e w5 ⟨v5, rfl, hr2, hb2⟩
  have HR5 := Aside0.mk hr2
  have HB15 := Aside0.mk (below_step HB14.out hb2)
  have HB5 := Aside0.mk (below_step HB4.out hb2)
  clear h2 hr2 hb2
  have h3 := rover_calls A c l keep now w5 (Kd.C_below HC.out HB5.out) HCC.out HL.out
  rw [← HN.out] at h3
  go_wp2_with fail
  refine h3.mono ?_
  rintro e w6 ⟨v6, rfl, hr3, hb3⟩
  obtain ⟨A6, c6, rfl, hc3⟩ := OwnRow.slice_ hr3.2
  have hr2 := Kd.R_below HR5.out hb3
  obtain ⟨A5, c5, rfl, hc2⟩ := OwnRow.slice_ hr2.2
  have h4 := ints_calls A5 c5 A6 c6 _ w6 (Kd.R_reads' hr2).2.2 hc2 (Kd.R_reads' hr3).2.2 hc3 (Nat.le_trans (ids_len _ _) (by rw [HXL.out]; exact HL.out))
  have HB16 := Aside0.mk (below_step HB15.out hb3)
  have HB6 := Aside0.mk (below_step HB5.out hb3)
  clear h3 hr3 hb3 hr2 hc2 hc3
  go_wp2_with fail
  refine h4.mono ?_
  rintro e w7 ⟨rfl, hb4⟩
  have HB17 := Aside0.mk (below_step HB16.out hb4)
  have HB7 := Aside0.mk (below_step HB6.out hb4)
  clear h4 hb4
  -- same
  have h2 := same_calls X cx A c l w7 (Kd.C_below HX.out HB17.out) HCX.out (Kd.C_below HC.out HB7.out) HCC.out HL.out
  rw [HXL.out, ← HN.out] at h2
  go_wp2_with fail
  refine h2.mono ?_
  rintro e w8 ⟨rfl, hb2⟩
  have HB8 := Aside0.mk (below_step HB7.out hb2)
  clear h2 hb2
  have h2 := knows_true w8
  go_wp2_with fail
  refine h2.mono ?_
  rintro e w9 ⟨rfl, hb2⟩
  have HB9 := Aside0.mk (below_step HB8.out hb2)
  clear h2 hb2
  go_wp2
  go_ret
  exact ⟨rfl, HB9.out⟩
theorem looks_row (A : Option Addr) (c : Nat) (l : List S44) (fr up keep now : Int) (w : World) (hC : k44.C w A l.length l) (hc : l.length ≤ c) (hl : l.length ≤ 1048576)
    (_ : (Lit.int .i64 fr).wf = true) (_ : (Lit.int .i64 up).wf = true) (_ : (Lit.int .i64 keep).wf = true) (_ : (Lit.int .i64 now).wf = true) :
    Calls Try.prog 3 #[.slice A l.length c, .int .i64 fr, .int .i64 up, .int .i64 keep, .int .i64 now] w fun e w' => e = .returned (.bool true) ∧ Below w.heap.size w w' := looks_true A c l fr up keep now w hC hc hl
end Go.Proofs.Ytdohacnjngkkiaa.Lk
