/- What must come, as every law of the planner asks it: 'knows' answers true. -/
import Derived.Test.YtdohacnjngkkiaaPw
import Derived.Test.YtdohacnjngkkiaaA
namespace Go.Proofs.Ytdohacnjngkkiaa.Kn
set_option linter.unusedVariables false
set_option linter.unusedSimpArgs false
open Go.Proofs.Ytdohacnjngkkiaa.So Go.Proofs.Ytdohacnjngkkiaa.La Go.Proofs.Ytdohacnjngkkiaa.Sm Go.Proofs.Ytdohacnjngkkiaa.Sr Go.Proofs.Ytdohacnjngkkiaa.Pk Go.Proofs.Ytdohacnjngkkiaa.Pq Go.Proofs.Ytdohacnjngkkiaa.Pw Go.Shelf Go.RowKit Go.Proofs.YtdohacnjngkkiaaW.PrintWords Go.Proofs.YtdohacnjngkkiaaW.PrintLast Go.Proofs.YtdohacnjngkkiaaW.PrintMore Go.Proofs.Ytdohacnjngkkiaa.Fr Go.Proofs.Ytdohacnjngkkiaa.A Go.Proofs.Ytdohacnjngkkiaa.Pm Go.Proofs.Ytdohacnjngkkiaa.Pf Go.Proofs.Ytdohacnjngkkiaa.Pi Go.Proofs.Ytdohacnjngkkiaa.Pc Go.Proofs.Ytdohacnjngkkiaa.Pd
/-- a block of a few rows -/
def oneM (id : Int) : S40 := ⟨id, 1, 5, id, id, 1, 9, 0⟩
theorem one_is (id : Int) (w : World) : Calls Try.prog 39 #[.int .i64 id] w fun e w' => e = .returned (ag (oneM id)) ∧ Below w.heap.size w w' :=
  icehouselaw09_one.calls id id 1 5 id id 1 9 0 w rfl
theorem f0_inj : ∀ {l : List S40}, (l.map (·.f0)).Nodup → ∀ {a b : S40}, a ∈ l → b ∈ l → a.f0 = b.f0 → a = b
  | [], _, _, _, ha, _, _ => by cases ha
  | x :: t, h, a, b, ha, hb, he => by
    rw [List.map_cons, List.nodup_cons] at h
    rcases List.mem_cons.1 ha with rfl | ha'
    · rcases List.mem_cons.1 hb with rfl | hb'
      · rfl
      · exact absurd (List.mem_map.2 ⟨b, hb', he.symm⟩) h.1
    · rcases List.mem_cons.1 hb with rfl | hb'
      · exact absurd (List.mem_map.2 ⟨a, ha', he⟩) h.1
      · exact f0_inj h.2 ha' hb' he
/-- one sorted list alone -/
theorem srt_unique {s s' l : List S40} (hn : (l.map (·.f0)).Nodup) (hp : s.Perm l) (hp' : s'.Perm l) (hs : s.Pairwise fun x y => ¬ lessM y x) (hs' : s'.Pairwise fun x y => ¬ lessM y x) : s = s' := by
  refine List.Perm.eq_of_pairwise (le := fun x y => ¬ lessM y x) ?_ hs hs' (hp.trans hp'.symm)
  intro a b ha hb h1 h2
  refine f0_inj hn (hp.mem_iff.1 ha) (hp'.mem_iff.1 hb) ?_
  unfold lessM at h1 h2
  omega
theorem lit_own {w : World} {B : Nat} (hb : Below B w w) (hB : B ≤ w.heap.size) (a b c : S40) :
    k40.R 40 (w.alloc (.cells (cells8 a ++ cells8 b ++ cells8 c).toArray 40)) B (fun _ => True) (.slice (some ⟨w.heap.size, 0, none⟩) 3 3) [a, b, c] := by
  refine ⟨fun _ _ => trivial, cells8 a ++ cells8 b ++ cells8 c, ⟨rfl, .inr ⟨w.heap.size, 3, _, rfl, hB, blk_new _ _, Nat.le_refl _, by simp [maxLen], rfl, rfl⟩⟩, ?_⟩
  exact (((Reps.none _ _).snoc (k40_mkM _ _ _ a) rfl).snoc (k40_mkM _ _ _ b) rfl).snoc (k40_mkM _ _ _ c) rfl
theorem lit_I (w : World) (C : Array Value) (xs : List Int) (hC : C = (xs.map (Value.int .i64)).toArray) (hm : xs.length ≤ maxLen) : (Kd.int .i64).C (w.alloc (.cells C 3)) (some ⟨w.heap.size, 0, none⟩) xs.length xs := by
  refine Kd.C_of_reads (d := (0 : Int)) ⟨rfl, hm, fun _ => ⟨_, rfl, fun i hi => ?_⟩⟩
  rw [show (⟨w.heap.size, 0, none⟩ : Addr).add i = ⟨w.heap.size, i, none⟩ from by unfold Addr.add; split <;> simp]
  rw [World.cell?_alloc_mark, hC]
  simp [hi]
theorem ints_1 : icehouselaw05_Ints.f 8 [3, 2, 1] [3, 2, 1] = some true := by decide +kernel
theorem ints_2 : icehouselaw05_Ints.f 8 [1, 2] [1, 2] = some true := by decide +kernel
set_option maxHeartbeats 4000000 in
theorem knows_true (w : World) : Calls Try.prog 16 #[] w fun e w' => e = .returned (.bool true) ∧ Below w.heap.size w w' := by
  have h3 := one_is 3 w
  unfold ag at h3
  go_enter Try.func16, Try.ntmps16
  go_wp2_with fail
  refine h3.mono ?_
  rintro e w1 ⟨rfl, hb1⟩
  have h2 := one_is 2 w1
  unfold ag at h2
  clear h3
  go_wp2_with fail
  refine h2.mono ?_
  rintro e w2 ⟨rfl, hb2⟩
  have h1 := one_is 1 w2
  unfold ag at h1
  clear h2
  go_wp2_with fail
  refine h1.mono ?_
  rintro e w3 ⟨rfl, hb3⟩
  have HB3 := Aside0.mk (below_step (below_step hb1 hb2) hb3)
  clear h1 hb1 hb2 hb3
  go_upto_region 2 with fail
  obtain ⟨w4, hw4⟩ : ∃ w4, w4 = w3.alloc (.cells (cells8 (oneM 3) ++ cells8 (oneM 2) ++ cells8 (oneM 1)).toArray 40) := ⟨_, rfl⟩
  have hr4 := lit_own (w := w3) (Below.refl w3.heap.size w3) (Nat.le_refl _) (oneM 3) (oneM 2) (oneM 1)
  have hb4 : Below w.heap.size w w4 := by rw [hw4]; exact below_alloc HB3.out _
  rw [← hw4] at hr4
  have HC4 := Aside0.mk (Kd.R_reads' hr4).2.2
  have HB4 := Aside0.mk hb4
  refine Eq.mp (congrArg (fun W => Code.wp _ _ _ _ W) hw4) ?_
  obtain ⟨g, hg⟩ : ∃ g, g = w3.heap.size := ⟨_, rfl⟩
  rw [← hg] at HC4 ⊢
  clear hw4 hr4 hb4 hg HB3
  obtain ⟨l, hl⟩ : ∃ l, l = [oneM 3, oneM 2, oneM 1] := ⟨_, rfl⟩
  have hll : l.length = 3 := by rw [hl]; rfl
  rw [← hl] at HC4
  have HL := Aside0.mk hl
  have HLL := Aside0.mk hll
  clear hl hll
  have hov := over_calls (some ⟨g, 0, none⟩) 3 l 10 15 w4 HC4.out (by rw [HLL.out]; omega)
  have E1 : Aside0 (idsB l (overB 10 15) = [3, 2, 1]) := ⟨by rw [HL.out]; decide +kernel⟩
  have E2 : Aside0 (idsB l (overB 10 14) = []) := ⟨by rw [HL.out]; decide +kernel⟩
  have E3 : Aside0 (fineB l = true) := ⟨by rw [HL.out]; decide +kernel⟩
  rw [HLL.out] at hov
  go_wp2_with fail
  refine hov.mono ?_
  rintro e w5 ⟨v5, rfl, hr5, hb5⟩
  rw [E1.out] at hr5
  obtain ⟨A5, c5, rfl, hc5⟩ := OwnRow.slice_ hr5.2
  have hC5 := (Kd.R_reads' hr5).2.2
  have HB5 := Aside0.mk (below_step HB4.out hb5)
  have HB45 := Aside0.mk hb5
  clear hov hr5 hb5
  replace hC5 : (Kd.int .i64).C w5 A5 3 [3, 2, 1] := hC5
  replace hc5 : 3 ≤ c5 := hc5
  simp only [show ([3, 2, 1] : List Int).length = 3 from rfl]
  obtain ⟨w6, hw6⟩ : ∃ w6, w6 = w5.alloc (.cells #[.int .i64 3, .int .i64 2, .int .i64 1] 3) := ⟨_, rfl⟩
  have hb6 : Below w5.heap.size w5 w6 := by rw [hw6]; exact below_alloc (Below.refl _ _) _
  have hI6 : (Kd.int .i64).C w6 (some ⟨w5.heap.size, 0, none⟩) 3 [3, 2, 1] := by rw [hw6]; exact lit_I w5 _ [3, 2, 1] rfl (by simp [maxLen])
  have hi : Calls Try.prog 10 #[.slice A5 3 c5, .slice (some ⟨w5.heap.size, 0, none⟩) 3 3] w6 fun e w' => e = .returned (.bool true) ∧ Drawn0 w6 w' := icehouselaw05_Ints.calls 8 A5 c5 [3, 2, 1] (some ⟨w5.heap.size, 0, none⟩) 3 [3, 2, 1] true w6 (Kd.C_below hC5 hb6) hc5 hI6 (Nat.le_refl _) ints_1
  have HB6 := Aside0.mk (below_step HB5.out hb6)
  have HB46 := Aside0.mk (below_step HB45.out hb6)
  clear hC5 hc5 hb6 hI6
  go_wp2_with fail
  rw [← hw6]
  clear hw6
  refine hi.mono ?_
  rintro e w7 ⟨rfl, ⟨n7, hn7⟩⟩
  have HB47 : Aside0 (Below w4.heap.size w4 w7) := ⟨by rw [hn7]; exact pw_below_drewN HB46.out _⟩
  have HB7 : Aside0 (Below w.heap.size w w7) := ⟨by rw [hn7]; exact pw_below_drewN HB6.out _⟩
  clear hi hn7
  have hov := over_calls (some ⟨g, 0, none⟩) 3 l 10 14 w7 (Kd.C_below HC4.out HB47.out) (by rw [HLL.out]; omega)
  rw [HLL.out, E2.out] at hov
  go_wp2_with fail
  refine hov.mono ?_
  rintro e w8 ⟨v8, rfl, hr8, hb8⟩
  obtain ⟨A8, c8, rfl, hc8⟩ := OwnRow.slice_ hr8.2
  have HB8 := Aside0.mk (below_step HB7.out hb8)
  have HB48 := Aside0.mk (below_step HB47.out hb8)
  clear hov hr8 hb8 hc8
  simp only [show ([] : List Int).length = 0 from rfl]
  have hpk := pack_calls (some ⟨g, 0, none⟩) 3 l 2 99 10 0 w8 (Kd.C_below HC4.out HB48.out) (by rw [HLL.out]; exact Nat.le_refl _) (by rw [HLL.out]; omega)
  rw [HLL.out] at hpk
  go_wp2_with fail
  refine hpk.mono ?_
  rintro e w9 ⟨v9, s, rfl, hp9, hs9, hr9, hb9⟩
  have hs : s = [oneM 1, oneM 2, oneM 3] := by
    have hfl : l.filter (fun x => !overB 10 0 x) = l := by rw [HL.out]; kernel_rfl
    rw [hfl] at hp9
    refine srt_unique (l := l) (fine_iff.1 E3.out).2 hp9 ?_ hs9 ?_
    · rw [HL.out]; exact List.reverse_perm [oneM 3, oneM 2, oneM 1]
    · simp [lessM, oneM]
  have hpr : packR l s 2 99 10 = [1, 2] := by rw [hs, HL.out]; decide +kernel
  rw [hpr] at hr9
  obtain ⟨A9, c9, rfl, hc9⟩ := OwnRow.slice_ hr9.2
  have hC9 := (Kd.R_reads' hr9).2.2
  replace hC9 : (Kd.int .i64).C w9 A9 2 [1, 2] := hC9
  replace hc9 : 2 ≤ c9 := hc9
  simp only [show ([1, 2] : List Int).length = 2 from rfl]
  have HB9 := Aside0.mk (below_step HB8.out hb9)
  have HB49 := Aside0.mk (below_step HB48.out hb9)
  clear hpk hp9 hs9 hr9 hb9 hs hpr s
  obtain ⟨w10, hw10⟩ : ∃ w10, w10 = w9.alloc (.cells #[.int .i64 1, .int .i64 2] 3) := ⟨_, rfl⟩
  have hb10 : Below w9.heap.size w9 w10 := by rw [hw10]; exact below_alloc (Below.refl _ _) _
  have hI10 : (Kd.int .i64).C w10 (some ⟨w9.heap.size, 0, none⟩) 2 [1, 2] := by rw [hw10]; exact lit_I w9 _ [1, 2] rfl (by simp [maxLen])
  have hi : Calls Try.prog 10 #[.slice A9 2 c9, .slice (some ⟨w9.heap.size, 0, none⟩) 2 2] w10 fun e w' => e = .returned (.bool true) ∧ Drawn0 w10 w' := icehouselaw05_Ints.calls 8 A9 c9 [1, 2] (some ⟨w9.heap.size, 0, none⟩) 2 [1, 2] true w10 (Kd.C_below hC9 hb10) hc9 hI10 (Nat.le_refl _) ints_2
  have HB10 := Aside0.mk (below_step HB9.out hb10)
  have HB410 := Aside0.mk (below_step HB49.out hb10)
  clear hC9 hc9 hb10 hI10
  go_wp2_with fail
  rw [← hw10]
  clear hw10
  refine hi.mono ?_
  rintro e w11 ⟨rfl, ⟨n11, hn11⟩⟩
  have HB411 : Aside0 (Below w4.heap.size w4 w11) := ⟨by rw [hn11]; exact pw_below_drewN HB410.out _⟩
  have HB11 : Aside0 (Below w.heap.size w w11) := ⟨by rw [hn11]; exact pw_below_drewN HB10.out _⟩
  clear hi hn11
  have hfi := fine_calls (some ⟨g, 0, none⟩) 3 l w11 (Kd.C_below HC4.out HB411.out) (by rw [HLL.out]; omega)
  rw [HLL.out, E3.out] at hfi
  go_wp2_with fail
  refine hfi.mono ?_
  rintro e w12 ⟨rfl, hb12⟩
  have HB12 := Aside0.mk (below_step HB11.out hb12)
  clear hfi hb12
  go_wp2
  go_ret
  exact ⟨rfl, HB12.out⟩
end Go.Proofs.Ytdohacnjngkkiaa.Kn
