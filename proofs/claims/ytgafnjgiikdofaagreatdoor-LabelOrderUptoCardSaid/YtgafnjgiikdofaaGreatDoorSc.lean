/- label.Compare: the order of two labels, CompareFunc over it. -/
import Derived.Test.YtgafnjgiikdofaaGreatDoorMd
import Derived.Test.YtgafnjgiikdofaaGreatDoorSg
namespace Go.Proofs.YtgafnjgiikdofaaGreatDoor.Sc
set_option linter.unusedVariables false
set_option linter.unusedSimpArgs false
open Go.Shelf Go.RowKit Go.Sort Go.Lib Go.Proofs.YtgafnjgiikdofaaGreatDoorW.PrintWords Go.Proofs.YtgafnjgiikdofaaGreatDoorW.PrintLast Go.Proofs.YtgafnjgiikdofaaGreatDoorW.PrintMore
open Go.Proofs.YtgafnjgiikdofaaGreatDoor.A Go.Proofs.YtgafnjgiikdofaaGreatDoor.Ss
def orI (a b : Int) : Int := if a = 0 then b else a
theorem or_is (a b : Int) (g : Nat) (w : World) (h : w.heap[g]? = some (.cells #[.int .i64 a, .int .i64 b] 3 (0, 0))) : Calls Tryz.prog 72 #[.slice (some ⟨g, 0, none⟩) 2 2] w fun e w' => e = .returned (.int .i64 (orI a b)) ∧ w' = w := by
  have c0 := blk_cell h 0
  have c1 := blk_cell h 1
  simp at c0 c1
  have i0 : (0 : Int) < 2 := by omega
  have i1 : (1 : Int) < 2 := by omega
  clear h
  by_cases h1 : a = 0
  · subst h1
    by_cases h2 : b = 0
    · subst h2
      go_enter Tryz.func72, Tryz.ntmps72
      go_wp2_with fail
      go_loopg [8] 3 (fun g' s8 wx => ∃ k : Nat, s8 = .int .i64 (k : Int) ∧ k + g' = 3 ∧ k ≤ 2 ∧ wx = w)
      case atStart => exact ⟨0, rfl, by omega, by omega, rfl⟩
      case round =>
        obtain ⟨k, rfl, hk, hk2, hw⟩ := hrel
        subst hw
        rcases (show k = 0 ∨ k = 1 ∨ k = 2 by omega) with rfl | rfl | rfl
        · go_wp2
          go_roundg 2
          case measure => omega
          case rel => exact ⟨1, rfl, by omega, by omega, rfl⟩
        · go_wp2
          go_roundg 1
          case measure => omega
          case rel => exact ⟨2, rfl, by omega, by omega, rfl⟩
        · go_wp2
          go_ret
          exact ⟨rfl, rfl⟩
    · have n2 : (b == 0) = false := by simpa using h2
      have n3 : (b != 0) = true := by simpa using h2
      go_enter Tryz.func72, Tryz.ntmps72
      go_wp2_with fail
      go_loopg [8] 3 (fun g' s8 wx => ∃ k : Nat, s8 = .int .i64 (k : Int) ∧ k + g' = 3 ∧ k ≤ 1 ∧ wx = w)
      case atStart => exact ⟨0, rfl, by omega, by omega, rfl⟩
      case round =>
        obtain ⟨k, rfl, hk, hk2, hw⟩ := hrel
        subst hw
        rcases (show k = 0 ∨ k = 1 by omega) with rfl | rfl
        · go_wp2
          go_roundg 2
          case measure => omega
          case rel => exact ⟨1, rfl, by omega, by omega, rfl⟩
        · go_wp2
          go_ret
          exact ⟨rfl, rfl⟩
  · have n2 : (a == 0) = false := by simpa using h1
    have n3 : (a != 0) = true := by simpa using h1
    have HV : Aside0 (orI a b = a) := ⟨if_neg h1⟩
    clear h1
    go_enter Tryz.func72, Tryz.ntmps72
    go_wp2_with fail
    go_loopg [8] 3 (fun g' s8 wx => ∃ k : Nat, s8 = .int .i64 (k : Int) ∧ k + g' = 3 ∧ k ≤ 0 ∧ wx = w)
    case atStart => exact ⟨0, rfl, by omega, by omega, rfl⟩
    case round =>
      obtain ⟨k, rfl, hk, hk2, hw⟩ := hrel
      subst hw
      obtain rfl : k = 0 := by omega
      go_wp2
      go_ret
      exact ⟨by rw [HV.out]; rfl, rfl⟩
/-- the order of two labels -/
def cfL (x y : S47) : Int := orI (Lib.compareBytes x.f0.data.toList y.f0.data.toList) (Lib.compareBytes x.f1.data.toList y.f1.data.toList)
set_option maxHeartbeats 4000000 in
theorem lorder_is (x y : S47) (W : World) : Calls Tryz.prog 71 #[.agg (cells2 x).toArray, .agg (cells2 y).toArray] W fun e w' => e = .returned (.int .i64 (cfL x y)) ∧ ∃ q os', w' = grow (W.drewN q) os' := by
  obtain ⟨b1, hb1⟩ : ∃ b1 : Obj, b1 = .cells #[.string x.f0, .string x.f1] 47 := ⟨_, rfl⟩
  obtain ⟨b2, hb2⟩ : ∃ b2 : Obj, b2 = .cells #[.string y.f0, .string y.f1] 47 := ⟨_, rfl⟩
  obtain ⟨W2, hW2⟩ : ∃ W2, W2 = (W.alloc b1).alloc b2 := ⟨_, rfl⟩
  have k1 : (W.alloc b1).heap[W.heap.size]? = some b1 := blk_new _ _
  have k1' : W2.heap[W.heap.size]? = some (.cells #[.string x.f0, .string x.f1] 47 (0, 0)) := by
    rw [hW2, ← hb1]
    exact (Below.heap_alloc _ _ _ (blk_lt k1)).trans k1
  have k2' : W2.heap[W.heap.size + 1]? = some (.cells #[.string y.f0, .string y.f1] 47 (0, 0)) := by
    have h := blk_new (W.alloc b1) b2
    rw [World.size_alloc, ← hW2] at h
    rw [h, hb2]
  have HW2 := Aside0.mk hW2
  obtain ⟨p1, hp1⟩ : ∃ p1, p1 = W.heap.size := ⟨_, rfl⟩
  rw [← hp1] at k1' k2'
  have x0 := blk_cell k1' 0
  have x1 := blk_cell k1' 1
  have y0 := blk_cell k2' 0
  have y1 := blk_cell k2' 1
  simp at x0 x1 y0 y1
  have h0 := Tryz.strings_Compare x.f0 y.f0 W2.drew
  have h1 := Tryz.strings_Compare x.f1 y.f1 W2.drew
  obtain ⟨a, ha⟩ : ∃ a, a = Lib.compareBytes x.f0.data.toList y.f0.data.toList := ⟨_, rfl⟩
  obtain ⟨b, hb⟩ : ∃ b, b = Lib.compareBytes x.f1.data.toList y.f1.data.toList := ⟨_, rfl⟩
  rw [← ha] at h0
  rw [← hb] at h1
  have hor := or_is a b W2.heap.size (W2.alloc (.cells #[.int .i64 a, .int .i64 b] 3)).drew (blk_new W2 _)
  have HCF : Aside0 (cfL x y = orI a b) := ⟨by unfold cfL; rw [ha, hb]⟩
  unfold cells2
  simp only [List.toArray]
  rw [hb1, hb2] at hW2
  clear k1 k1' k2' ha hb hb1 hb2
  go_enter Tryz.func71, Tryz.ntmps71
  go_upto_region 1 with fail
  rw [← hW2, ← hp1]
  clear hW2 hp1
  refine start_ (S := fun w => w.cell? ⟨p1, 0, none⟩ = some (.string x.f0) ∧ w.cell? ⟨p1 + 1, 0, none⟩ = some (.string y.f0) ∧ w.cell? ⟨p1, 1, none⟩ = some (.string x.f1) ∧ w.cell? ⟨p1 + 1, 1, none⟩ = some (.string y.f1)) (ds := []) #[false, false, false, false, false, false, false, false, false, false, false, false, false] (by kernel_rfl) rfl rfl ⟨x0, y0, x1, y1⟩ (fun hHeld => ?_)
  refine pure_ (i := 0) (N := some 5) #[true, false, false, false, false, false, false, false, false, false, false, false, false] rfl rfl (by kernel_rfl) (fun _ _ _ h => h) (.inl ⟨by rfl, by (intro w; go_simp <;> with_reducible rfl)⟩) rfl ?_
  (try simp only [Act.put, List.setIfInBounds_toArray, List.set_cons_zero, List.set_cons_succ])
  refine pure_ (i := 2) (N := some 7) #[true, false, true, false, false, false, false, false, false, false, false, false, false] rfl rfl (by kernel_rfl) (fun _ _ _ h => h) (.inl ⟨by rfl, by (intro w; go_simp <;> with_reducible rfl)⟩) rfl ?_
  (try simp only [Act.put, List.setIfInBounds_toArray, List.set_cons_zero, List.set_cons_succ])
  refine pure_ (i := 5) (N := some 10) #[true, false, true, false, false, true, false, false, false, false, false, false, false] rfl rfl (by kernel_rfl) (fun _ _ _ h => h) (.inl ⟨by rfl, by (intro w; go_simp <;> with_reducible rfl)⟩) rfl ?_
  (try simp only [Act.put, List.setIfInBounds_toArray, List.set_cons_zero, List.set_cons_succ])
  refine pure_ (i := 7) (N := some 12) #[true, false, true, false, false, true, false, true, false, false, false, false, false] rfl rfl (by kernel_rfl) (fun _ _ _ h => h) (.inl ⟨by rfl, by (intro w; go_simp <;> with_reducible rfl)⟩) rfl ?_
  (try simp only [Act.put, List.setIfInBounds_toArray, List.set_cons_zero, List.set_cons_succ])
  refine take_ (i := 1) (N := some 6) #[true, true, true, false, false, true, false, true, false, false, false, false, false] rfl rfl (by kernel_rfl) (fun _ _ _ h => h) (.inl ⟨by rfl, by (intro w hSw; (try dsimp only at hSw); go_simp <;> with_reducible rfl)⟩) hHeld rfl ?_
  (try simp only [Act.put, List.setIfInBounds_toArray, List.set_cons_zero, List.set_cons_succ])
  refine take_ (i := 3) (N := some 8) #[true, true, true, true, false, true, false, true, false, false, false, false, false] rfl rfl (by kernel_rfl) (fun _ _ _ h => h) (.inl ⟨by rfl, by (intro w hSw; (try dsimp only at hSw); go_simp <;> with_reducible rfl)⟩) hHeld rfl ?_
  (try simp only [Act.put, List.setIfInBounds_toArray, List.set_cons_zero, List.set_cons_succ])
  refine take_ (i := 6) (N := some 11) #[true, true, true, true, false, true, true, true, false, false, false, false, false] rfl rfl (by kernel_rfl) (fun _ _ _ h => h) (.inl ⟨by rfl, by (intro w hSw; (try dsimp only at hSw); go_simp <;> with_reducible rfl)⟩) hHeld rfl ?_
  (try simp only [Act.put, List.setIfInBounds_toArray, List.set_cons_zero, List.set_cons_succ])
  refine take_ (i := 8) (N := some 13) #[true, true, true, true, false, true, true, true, true, false, false, false, false] rfl rfl (by kernel_rfl) (fun _ _ _ h => h) (.inl ⟨by rfl, by (intro w hSw; (try dsimp only at hSw); go_simp <;> with_reducible rfl)⟩) hHeld rfl ?_
  (try simp only [Act.put, List.setIfInBounds_toArray, List.set_cons_zero, List.set_cons_succ])
  refine one_ (i := 4) (N := some 9) #[true, true, true, true, true, true, true, true, true, false, false, false, false] rfl rfl (by kernel_rfl) (by simp) (fun K hK => ?_)
  go_simp
  (with_reducible refine h0.mono ?_)
  rintro e wt ⟨rfl, hwt⟩
  rw [hwt]
  clear hwt wt
  refine hK.out _ _ hHeld (fun hHeld => ?_)
  clear hK K
  (try simp only [Act.put, List.setIfInBounds_toArray, List.set_cons_zero, List.set_cons_succ])
  refine one_ (i := 9) (N := some 14) #[true, true, true, true, true, true, true, true, true, true, false, false, false] rfl rfl (by kernel_rfl) (by simp) (fun K hK => ?_)
  go_simp
  (with_reducible refine h1.mono ?_)
  rintro e wt ⟨rfl, hwt⟩
  rw [hwt]
  clear hwt wt
  refine hK.out _ _ hHeld (fun hHeld => ?_)
  clear hK K
  (try simp only [Act.put, List.setIfInBounds_toArray, List.set_cons_zero, List.set_cons_succ])
  refine one_ (i := 10) (N := some 15) #[true, true, true, true, true, true, true, true, true, true, true, false, false] rfl rfl (by kernel_rfl) (by simp) (fun K hK => ?_)
  go_simp
  have z1 : (W2.drew.alloc (.cells #[.int .i64 a, .int .i64 b] 3)).cell? ⟨p1, 0, none⟩ = some (.string x.f0) := (World.cell?_alloc_some _ _ _ (by rw [hHeld.1]; rfl)).trans hHeld.1
  have z2 : (W2.drew.alloc (.cells #[.int .i64 a, .int .i64 b] 3)).cell? ⟨p1 + 1, 0, none⟩ = some (.string y.f0) := (World.cell?_alloc_some _ _ _ (by rw [hHeld.2.1]; rfl)).trans hHeld.2.1
  have z3 : (W2.drew.alloc (.cells #[.int .i64 a, .int .i64 b] 3)).cell? ⟨p1, 1, none⟩ = some (.string x.f1) := (World.cell?_alloc_some _ _ _ (by rw [hHeld.2.2.1]; rfl)).trans hHeld.2.2.1
  have z4 : (W2.drew.alloc (.cells #[.int .i64 a, .int .i64 b] 3)).cell? ⟨p1 + 1, 1, none⟩ = some (.string y.f1) := (World.cell?_alloc_some _ _ _ (by rw [hHeld.2.2.2]; rfl)).trans hHeld.2.2.2
  refine hK.out _ _ ⟨z1, z2, z3, z4⟩ (fun hHeld => ?_)
  clear hK K
  (try simp only [Act.put, List.setIfInBounds_toArray, List.set_cons_zero, List.set_cons_succ])
  refine one_ (i := 11) (N := some 16) #[true, true, true, true, true, true, true, true, true, true, true, true, false] rfl rfl (by kernel_rfl) (by simp) (fun K hK => ?_)
  go_simp
  (with_reducible refine hor.mono ?_)
  rintro e wt ⟨rfl, hwt⟩
  rw [hwt]
  clear hwt wt
  refine hK.out _ _ hHeld (fun hHeld => ?_)
  clear hK K
  (try simp only [Act.put, List.setIfInBounds_toArray, List.set_cons_zero, List.set_cons_succ])
  refine pure_ (i := 12) (N := some 4) #[true, true, true, true, true, true, true, true, true, true, true, true, true] rfl rfl (by kernel_rfl) (fun _ _ _ h => h) (.inl ⟨by rfl, by (intro w; go_simp <;> with_reducible rfl)⟩) rfl ?_
  (try simp only [Act.put, List.setIfInBounds_toArray, List.set_cons_zero, List.set_cons_succ])
  refine done_ (by kernel_rfl) ?_
  go_wp2
  go_ret
  refine ⟨by rw [HCF.out]; rfl, 1, #[b1, b2, .cells #[.int .i64 a, .int .i64 b] 3], ?_⟩
  rw [HW2.out]
  simp only [alloc_eq_grow, grow_grow]
  rfl
/-- the order of two lists -/
def cmpLL : List S47 → List S47 → Int
  | [], [] => 0
  | [], _ :: _ => -1
  | _ :: _, [] => 1
  | x :: xs, y :: ys => if cfL x y = 0 then cmpLL xs ys else cfL x y
theorem eg71 : ∀ args w, (callFunc 71 args).run Tryz.prog w = .ok (.enter 71 args) w := enters_of Tryz.func71 (by kernel_rfl) rfl
theorem rd_of (l : List S47) (k : Nat) (h : k < l.length) : rd_T47 l (k : Int) = l[k] := by
  unfold rd_T47
  simp [List.getD_eq_getElem?_getD, List.getElem?_eq_getElem h]
theorem w64' (k : Nat) (h : k < 9223372036854775807) : wrap64 ((k : Int) + 1) = ((k + 1 : Nat) : Int) := by unfold wrap64; omega
theorem grow_below {w : World} {q : Nat} {os : Array Obj} : Below w.heap.size w (grow (w.drewN q) os) := by
  refine ⟨rfl, rfl, rfl, by simp, fun k hk => ?_⟩
  rw [heap_grow_old _ _ (by simpa using hk)]
  rfl
set_option maxHeartbeats 4000000 in
set_option maxRecDepth 100000 in
theorem cmpf_calls (A0 : Option Addr) (c0 : Nat) (l0 : List S47) (A1 : Option Addr) (c1 : Nat) (l1 : List S47) (w : World) (hr0 : Kd.C k47 w A0 l0.length l0) (hc0 : l0.length ≤ c0) (hr1 : Kd.C k47 w A1 l1.length l1) (hc1 : l1.length ≤ c1) :
    Calls Tryz.prog 70 #[.slice A0 l0.length c0, .slice A1 l1.length c1, .func (.func 71) #[] #[]] w fun e w' => e = .returned (.int .i64 (cmpLL l0 l1)) ∧ Below w.heap.size w w' := by
  have hn0 : l0.length ≤ 9223372036854775807 := hr0.2.1
  have hn1 : l1.length ≤ 9223372036854775807 := hr1.2.1
  have HR0 := Aside0.mk hr0
  have HR1 := Aside0.mk hr1
  have eg := eg71
  obtain ⟨R, hR⟩ : ∃ R, R = cmpLL l0 l1 := ⟨_, rfl⟩
  rw [← hR]
  have HRR := Aside0.mk hR
  obtain ⟨n, hn⟩ : ∃ n, n = l0.length := ⟨_, rfl⟩
  obtain ⟨m, hm⟩ : ∃ m, m = l1.length := ⟨_, rfl⟩
  rw [← hn] at hn0 hc0 ⊢
  rw [← hm] at hn1 hc1 ⊢
  have HN := Aside0.mk hn
  have HM := Aside0.mk hm
  clear hr0 hr1 hR hn hm
  go_enter Tryz.func70, Tryz.ntmps70
  go_wp2_with fail
  go_loopg [13] n (fun gk s13 wr => ∃ k : Nat, s13 = .int .i64 k ∧ k + gk = n ∧ k ≤ m ∧ Aside0 (Below w.heap.size w wr) ∧ Aside0 (R = cmpLL (l0.drop k) (l1.drop k)))
  case atStart => exact ⟨0, rfl, by omega, by omega, ⟨Below.refl _ _⟩, ⟨HRR.out⟩⟩
  case round =>
    obtain ⟨k, rfl, hk, hkm, HB, HC⟩ := hrel
    by_cases hkn : k < n
    · obtain ⟨g', rfl⟩ : ∃ g', gk = g' + 1 := ⟨gk - 1, by omega⟩
      have hkn' : k < l0.length := by have := HN.out; omega
      obtain ⟨ad, hA, x0, x1⟩ := at_T47 (Kd.C_below HR0.out HB.out) (k : Int) (by omega) (by omega)
      subst hA
      rw [rd_of l0 k hkn'] at x0 x1
      rw [Int.toNat_natCast] at x0 x1
      have HD0 : Aside0 (l0.drop k = l0[k] :: l0.drop (k + 1)) := ⟨List.drop_eq_getElem_cons hkn'⟩
      obtain ⟨X, hX⟩ : ∃ X, X = l0[k] := ⟨_, rfl⟩
      rw [← hX] at x0 x1 HD0
      clear hX hkn'
      by_cases hk1 : k < m
      · have hkm' : k < l1.length := by have := HM.out; omega
        obtain ⟨W1, hW1⟩ : ∃ W1, W1 = wr.alloc (.cells #[.string X.f0, .string X.f1] 47) := ⟨_, rfl⟩
        have HB1 : Aside0 (RowKit.Below w.heap.size w W1) := ⟨by rw [hW1]; exact HB.out.alloc HB.out.size _⟩
        have kb1 : W1.heap[wr.heap.size]? = some (.cells #[.string X.f0, .string X.f1] 47 (0, 0)) := by rw [hW1]; exact blk_new _ _
        have hs1 : W1.heap.size = wr.heap.size + 1 := by rw [hW1]; simp
        obtain ⟨ae, hA, y0, y1⟩ := at_T47 (Kd.C_below HR1.out HB1.out) (k : Int) (by omega) (by omega)
        subst hA
        rw [rd_of l1 k hkm'] at y0 y1
        rw [Int.toNat_natCast] at y0 y1
        have HE0 : Aside0 (l1.drop k = l1[k] :: l1.drop (k + 1)) := ⟨List.drop_eq_getElem_cons hkm'⟩
        obtain ⟨Y, hY⟩ : ∃ Y, Y = l1[k] := ⟨_, rfl⟩
        rw [← hY] at y0 y1 HE0
        clear hY hkm'
        obtain ⟨W2, hW2⟩ : ∃ W2, W2 = W1.alloc (.cells #[.string Y.f0, .string Y.f1] 47) := ⟨_, rfl⟩
        have HB2 : Aside0 (RowKit.Below w.heap.size w W2) := ⟨by rw [hW2]; exact HB1.out.alloc HB1.out.size _⟩
        have kb1' : W2.heap[wr.heap.size]? = some (.cells #[.string X.f0, .string X.f1] 47 (0, 0)) := by rw [hW2]; exact blk_alloc kb1 _
        have kb2 : W2.heap[wr.heap.size + 1]? = some (.cells #[.string Y.f0, .string Y.f1] 47 (0, 0)) := by rw [hW2, ← hs1]; exact blk_new _ _
        have p0 := blk_cell kb1' 0
        have p1 := blk_cell kb1' 1
        have q0 := blk_cell kb2 0
        have q1 := blk_cell kb2 1
        simp at p0 p1 q0 q1
        have hcl : Calls Tryz.prog 71 #[.agg #[.string X.f0, .string X.f1], .agg #[.string Y.f0, .string Y.f1]] W2 fun e w' => e = .returned (.int .i64 (cfL X Y)) ∧ ∃ q os', w' = grow (W2.drewN q) os' := lorder_is X Y W2
        obtain ⟨z, hz⟩ : ∃ z, z = cfL X Y := ⟨_, rfl⟩
        rw [← hz] at hcl
        have HZ := Aside0.mk hz
        clear hz kb1 kb1' kb2
        have HWA := Aside0.mk hW1
        have HWB := Aside0.mk hW2
        have HCL := Aside0.mk hcl
        have HS1 := Aside0.mk hs1
        clear hW1 hW2 hcl hs1
        go_upto_region 4 with fail
        rw [← HWA.out]
        go_upto_region 7 with fail
        rw [← HWB.out, HS1.out]
        go_wp2_with fail
        refine HCL.out.mono ?_
        rintro e W3 ⟨rfl, q, os, hW3⟩
        have HB3 : Aside0 (RowKit.Below w.heap.size w W3) := ⟨by rw [hW3]; exact HB2.out.trans (grow_below.mono HB2.out.size)⟩
        clear hW3
        by_cases hz : z = 0
        · have hzb : (z != 0) = false := by simp [hz]
          have HK : Aside0 (R = cmpLL (l0.drop (k + 1)) (l1.drop (k + 1))) := ⟨by rw [HC.out, HD0.out, HE0.out, cmpLL, if_pos (HZ.out.symm.trans hz)]⟩
          clear hz
          go_wp2_with fail
          go_roundg g'
          case measure => omega
          case rel => exact ⟨k + 1, by simp [w64' k (by omega)], by omega, by omega, HB3, HK⟩
        · have hzb : (z != 0) = true := by simp [hz]
          have HK : Aside0 (R = z) := ⟨by rw [HC.out, HD0.out, HE0.out, cmpLL, if_neg (fun h => hz (HZ.out.trans h)), HZ.out]⟩
          clear hz
          go_wp2_with fail
          go_ret
          exact ⟨by rw [HK.out]; rfl, HB3.out⟩
      · go_wp2_with fail
        go_ret
        have HG : Aside0 (R = 1) := ⟨by
          have hnil : l1.drop k = [] := List.drop_eq_nil_of_le (by have := HM.out; omega)
          rw [HC.out, HD0.out, hnil]; rfl⟩
        exact ⟨by rw [HG.out]; rfl, HB.out.alloc HB.out.size _⟩
    · have hk2 : gk = 0 := by omega
      have hkk : k = n := by omega
      have HF : Aside0 (R = if n < m then -1 else 0) := ⟨by
        have h1 := HN.out
        have h2 := HM.out
        rw [HC.out, List.drop_eq_nil_of_le (by omega)]
        by_cases hlt : n < m
        · rw [if_pos hlt]
          cases hd : l1.drop k with
          | nil => have := congrArg List.length hd; simp at this; omega
          | cons y ys => rfl
        · rw [if_neg hlt, List.drop_eq_nil_of_le (by omega)]
          rfl⟩
      by_cases hlt : n < m
      · have HG : Aside0 (R = -1) := ⟨by rw [HF.out, if_pos hlt]⟩
        clear hkk hk2 HF
        go_wp2_with fail
        go_ret
        exact ⟨by rw [HG.out]; rfl, HB.out⟩
      · have HG : Aside0 (R = 0) := ⟨by rw [HF.out, if_neg hlt]⟩
        clear hkk hk2 HF
        go_wp2_with fail
        go_ret
        exact ⟨by rw [HG.out]; rfl, HB.out⟩
theorem comp_calls (A0 : Option Addr) (c0 : Nat) (l0 : List S47) (A1 : Option Addr) (c1 : Nat) (l1 : List S47) (w : World) (hr0 : Kd.C k47 w A0 l0.length l0) (hc0 : l0.length ≤ c0) (hr1 : Kd.C k47 w A1 l1.length l1) (hc1 : l1.length ≤ c1) :
    Calls Tryz.prog 33 #[.slice A0 l0.length c0, .slice A1 l1.length c1] w fun e w' => e = .returned (.int .i64 (cmpLL l0 l1)) ∧ Below w.heap.size w w' := by
  have h := cmpf_calls A0 c0 l0 A1 c1 l1 w hr0 hc0 hr1 hc1
  obtain ⟨R, hR⟩ : ∃ R, R = cmpLL l0 l1 := ⟨_, rfl⟩
  rw [← hR] at h ⊢
  obtain ⟨n, hn⟩ : ∃ n, n = l0.length := ⟨_, rfl⟩
  obtain ⟨m, hm⟩ : ∃ m, m = l1.length := ⟨_, rfl⟩
  rw [← hn, ← hm] at h ⊢
  have H := Aside0.mk h
  clear h hR hn hm hr0 hc0 hr1 hc1
  go_enter Tryz.func33, Tryz.ntmps33
  go_wp2_with fail
  refine H.out.mono ?_
  rintro e w' ⟨rfl, hb⟩
  have HB := Aside0.mk hb
  clear hb
  go_wp2_with fail
  go_ret
  exact ⟨rfl, HB.out⟩
end Go.Proofs.YtgafnjgiikdofaaGreatDoor.Sc
