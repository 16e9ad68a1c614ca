/- The reference's cache: Peek, Drop. -/
import Derived.Test.YteiejkkgckdihaaRc
import Derived.Test.YteiejkkgckdihaaTk
namespace Go.Proofs.Yteiejkkgckdihaa.Rp
set_option linter.unusedVariables false
set_option linter.unusedSimpArgs false
open Go.Proofs.Yteiejkkgckdihaa.Rc Go.Proofs.Yteiejkkgckdihaa.Tk Go.Proofs.Yteiejkkgckdihaa.Dw Go.RowKit Go.Proofs.YteiejkkgckdihaaW.PrintWords Go.Proofs.YteiejkkgckdihaaW.PrintLast Go.Proofs.YteiejkkgckdihaaW.PrintMore Go.Proofs.Yteiejkkgckdihaa.Fr Go.Proofs.Yteiejkkgckdihaa.Rg Go.Proofs.Yteiejkkgckdihaa.Mp Go.Proofs.Yteiejkkgckdihaa.Ca Go.Proofs.Yteiejkkgckdihaa.Dr Go.Proofs.Yteiejkkgckdihaa.Pk Go.Proofs.Yteiejkkgckdihaa.Pu Go.Proofs.Yteiejkkgckdihaa.Ge Go.Proofs.Yteiejkkgckdihaa.Kn Go.Proofs.Yteiejkkgckdihaa.Cx Go.Proofs.Yteiejkkgckdihaa.Bo Go.Proofs.Yteiejkkgckdihaa.Mv
theorem info70 : (Try.prog.info? 70).map (fun i => (i.zero, i.size, i.bytes)) = some (some (.agg #[.string ByteArray.empty, .slice none 0 0]), 2, 40) := by kernel_rfl
theorem rpeek_hit (w : World) (q B : Nat) (lim hi mi : Int) (S : Value) (X Y : List Ent) (x : Ent) (h : RL w q B lim hi mi S (X ++ x :: Y)) (hX : ∀ y ∈ X, y.key ≠ x.key) (hl : (X ++ x :: Y).length ≤ 1048576) :
    Calls Try.prog 30 #[PT q, .string x.key] w fun e w' => e = .returned (.tuple #[.slice x.A x.val.length x.c, .bool true]) ∧ w' = w := by
  have hf := find_hit w q B lim hi mi S X Y x h hX hl
  obtain ⟨A, cap, rfl, hcap⟩ := S_form h
  obtain ⟨n, hn⟩ : ∃ n, n = (X ++ x :: Y).length := ⟨_, rfl⟩
  rw [← hn] at h hcap hl
  have c3 := blk_cell h.blk 3
  simp at c3
  obtain ⟨ad, hA, e0, e1⟩ := item_at h X.length (by simp)
  have hg : (X ++ x :: Y)[X.length]'(by simp) = x := by simp
  rw [hg] at e1
  subst hA
  have hxn : X.length < n := by rw [hn]; simp
  obtain ⟨vl, hvl⟩ : ∃ vl, vl = x.val.length := ⟨_, rfl⟩
  rw [← hvl] at e1 ⊢
  obtain ⟨k, hk⟩ : ∃ k, k = X.length := ⟨_, rfl⟩
  rw [← hk] at e1 hxn hf
  have hlt : (k : Int) < n := by omega
  clear h e0 hg hn hvl hk
  go_enter Try.func30, Try.ntmps30
  go_wp2_with fail
  refine hf.mono ?_
  rintro e w1 ⟨rfl, rfl⟩
  go_wp2
  go_ret2
  exact ⟨rfl, rfl⟩
theorem rpeek_miss (w : World) (q B : Nat) (lim hi mi : Int) (S : Value) (M : List Ent) (s : ByteArray) (h : RL w q B lim hi mi S M) (hX : ∀ y ∈ M, y.key ≠ s) (hl : M.length ≤ 1048576) :
    Calls Try.prog 30 #[PT q, .string s] w fun e w' => e = .returned (.tuple #[.slice none 0 0, .bool false]) ∧ w' = w := by
  have hf := find_miss w q B lim hi mi S M s h hX hl
  clear h hX hl
  go_enter Try.func30, Try.ntmps30
  go_wp2_with fail
  refine hf.mono ?_
  rintro e w1 ⟨rfl, rfl⟩
  go_wp2
  go_ret2
  exact ⟨rfl, rfl⟩
theorem rdrop_miss (w : World) (q B : Nat) (lim hi mi : Int) (S : Value) (M : List Ent) (s : ByteArray) (h : RL w q B lim hi mi S M) (hX : ∀ y ∈ M, y.key ≠ s) (hl : M.length ≤ 1048576) :
    Calls Try.prog 31 #[PT q, .string s] w fun e w' => e = .returned (.bool false) ∧ w' = w := by
  have hf := find_miss w q B lim hi mi S M s h hX hl
  clear h hX hl
  go_enter Try.func31, Try.ntmps31
  go_wp2_with fail
  refine hf.mono ?_
  rintro e w1 ⟨rfl, rfl⟩
  go_wp2
  go_ret
  exact ⟨rfl, rfl⟩
set_option maxHeartbeats 2000000 in
theorem rdrop_hit (w : World) (q B : Nat) (lim hi mi : Int) (S : Value) (X Y : List Ent) (x : Ent) (h : RL w q B lim hi mi S (X ++ x :: Y)) (hX : ∀ y ∈ X, y.key ≠ x.key) (hl : (X ++ x :: Y).length ≤ 1048576) (hB : B ≤ w.heap.size) :
    Calls Try.prog 31 #[PT q, .string x.key] w fun e w' => e = .returned (.bool true) ∧ ∃ S', RL w' q B lim hi mi S' (X ++ Y) ∧ Fr (fun k => k = q) w w' ∧ (S'.ownBlock = none ∨ ∃ g, S'.ownBlock = some g ∧ w.heap.size ≤ g) := by
  have hf := find_hit w q B lim hi mi S X Y x h hX hl
  obtain ⟨A, cap, rfl, hcap⟩ := S_form h
  obtain ⟨n, hn⟩ : ∃ n, n = (X ++ x :: Y).length := ⟨_, rfl⟩
  rw [← hn] at h hcap hl
  have H := Aside0.mk h
  have c3 := blk_cell h.blk 3
  simp at c3
  obtain ⟨ad, hA, _, _⟩ := item_at h X.length (by simp)
  subst hA
  have q1 := Kd.Q_take h.row (m := X.length) (by simp)
  have q2 := Kd.Q_drop h.row (k := X.length + 1) (by simp)
  have hxn : X.length + 1 ≤ n := by rw [hn]; simp
  have t1 : ((X ++ x :: Y).map hdr).take X.length = X.map hdr := by rw [List.map_append, List.take_left' (by simp)]
  have t2 : ((X ++ x :: Y).map hdr).drop (X.length + 1) = Y.map hdr := by rw [← List.map_drop]; congr 1; simp
  rw [t1] at q1
  rw [t2] at q2
  obtain ⟨k, hk⟩ : ∃ k, k = X.length := ⟨_, rfl⟩
  rw [← hk] at q1 q2 hxn hf
  obtain ⟨A2, hA2⟩ : ∃ A2, (if cap = k + 1 then some ad else some (ad.add ((k + 1) * 2))) = A2 := ⟨_, rfl⟩
  have q2 : KI.Q 70 w B (fun _ => True) (.slice (if cap = k + 1 then some ad else some (ad.add ((k + 1) * 2))) (n - (k + 1)) (cap - (k + 1))) (Y.map hdr) := q2
  rw [hA2] at q2
  have fz : w.frozen? ⟨q, 3, none⟩ = false := blk_frozen h.blk 3
  have hq : q < w.heap.size := h.q_lt
  obtain ⟨l1, _, z1⟩ := Kd.Q_reads' q1
  obtain ⟨l2, _, z2⟩ := Kd.Q_reads' q2
  rw [← l1] at z1
  rw [← l2] at z2
  have C1 := Aside0.mk z1
  have C2 := Aside0.mk z2
  clear l1 l2 z1 z2
  have HN := Aside0.mk hn
  have HK := Aside0.mk hk
  have u1 : IntKind.i64.wrap ((k : Int) + 1) = (k : Int) + 1 := by rw [i64_w]; unfold wrap64; omega
  have u2 : 0 ≤ (k : Int) + 1 := by omega
  have u3 : ((k : Int) + 1).toNat = k + 1 := by omega
  clear h q1 q2 t1 t2 hn hk hX
  have hlt : (k : Int) < n := by omega
  have hlt2 : ((k : Int) + 1) ≤ n := by omega
  have hc1 : ((k : Int)) ≤ cap := by omega
  go_enter Try.func31, Try.ntmps31
  go_wp2_with fail
  refine hf.mono ?_
  rintro e w1 ⟨rfl, rfl⟩
  go_upto_region 4 with fail
  refine start_ (S := fun W => W.cell? ⟨q, 3, none⟩ = some (.slice (some ad) n cap)) (ds := [19]) #[false, false, false, false, false, false, false, false, false, false, false, false, false, false, false, false, false, false, false, false] (by kernel_rfl) rfl rfl c3 (fun hHeld => ?_)
  refine take_ (i := 0) (N := (some 11)) #[true, false, false, false, false, false, false, false, false, false, false, false, false, false, false, false, false, false, false, false] rfl rfl (by kernel_rfl) (fun _ _ _ h => h) (.inl ⟨by rfl, by (intro w hSw; (try dsimp only at hSw); go_simp <;> with_reducible rfl)⟩) hHeld rfl ?_
  (try simp only [Act.put, List.setIfInBounds_toArray, List.set_cons_zero, List.set_cons_succ])
  refine take_ (i := 2) (N := (some 13)) #[true, false, true, false, false, false, false, false, false, false, false, false, false, false, false, false, false, false, false, false] rfl rfl (by kernel_rfl) (fun _ _ _ h => h) (.inl ⟨by rfl, by (intro w hSw; (try dsimp only at hSw); go_simp <;> with_reducible rfl)⟩) hHeld rfl ?_
  (try simp only [Act.put, List.setIfInBounds_toArray, List.set_cons_zero, List.set_cons_succ])
  refine take_ (i := 3) (N := (some 14)) #[true, false, true, true, false, false, false, false, false, false, false, false, false, false, false, false, false, false, false, false] rfl rfl (by kernel_rfl) (fun _ _ _ h => h) (.inl ⟨by rfl, by (intro w hSw; (try dsimp only at hSw); go_simp <;> with_reducible rfl)⟩) hHeld rfl ?_
  (try simp only [Act.put, List.setIfInBounds_toArray, List.set_cons_zero, List.set_cons_succ])
  refine take_ (i := 4) (N := (some 15)) #[true, false, true, true, true, false, false, false, false, false, false, false, false, false, false, false, false, false, false, false] rfl rfl (by kernel_rfl) (fun _ _ _ h => h) (.inl ⟨by rfl, by (intro w hSw; (try dsimp only at hSw); go_simp <;> with_reducible rfl)⟩) hHeld rfl ?_
  (try simp only [Act.put, List.setIfInBounds_toArray, List.set_cons_zero, List.set_cons_succ])
  refine take_ (i := 5) (N := (some 16)) #[true, false, true, true, true, true, false, false, false, false, false, false, false, false, false, false, false, false, false, false] rfl rfl (by kernel_rfl) (fun _ _ _ h => h) (.inl ⟨by rfl, by (intro w hSw; (try dsimp only at hSw); go_simp <;> with_reducible rfl)⟩) hHeld rfl ?_
  (try simp only [Act.put, List.setIfInBounds_toArray, List.set_cons_zero, List.set_cons_succ])
  refine take_ (i := 6) (N := (some 17)) #[true, false, true, true, true, true, true, false, false, false, false, false, false, false, false, false, false, false, false, false] rfl rfl (by kernel_rfl) (fun _ _ _ h => h) (.inl ⟨by rfl, by (intro w hSw; (try dsimp only at hSw); go_simp <;> with_reducible rfl)⟩) hHeld rfl ?_
  (try simp only [Act.put, List.setIfInBounds_toArray, List.set_cons_zero, List.set_cons_succ])
  refine take_ (i := 7) (N := (some 18)) #[true, false, true, true, true, true, true, true, false, false, false, false, false, false, false, false, false, false, false, false] rfl rfl (by kernel_rfl) (fun _ _ _ h => h) (.inl ⟨by rfl, by (intro w hSw; (try dsimp only at hSw); go_simp <;> with_reducible rfl)⟩) hHeld rfl ?_
  (try simp only [Act.put, List.setIfInBounds_toArray, List.set_cons_zero, List.set_cons_succ])
  refine take_ (i := 9) (N := (some 20)) #[true, false, true, true, true, true, true, true, false, true, false, false, false, false, false, false, false, false, false, false] rfl rfl (by kernel_rfl) (fun _ _ _ h => h) (.inl ⟨by rfl, by (intro w hSw; (try dsimp only at hSw); go_simp <;> with_reducible rfl)⟩) hHeld rfl ?_
  (try simp only [Act.put, List.setIfInBounds_toArray, List.set_cons_zero, List.set_cons_succ])
  refine take_ (i := 10) (N := (some 21)) #[true, false, true, true, true, true, true, true, false, true, true, false, false, false, false, false, false, false, false, false] rfl rfl (by kernel_rfl) (fun _ _ _ h => h) (.inl ⟨by rfl, by (intro w hSw; (try dsimp only at hSw); go_simp <;> with_reducible rfl)⟩) hHeld rfl ?_
  (try simp only [Act.put, List.setIfInBounds_toArray, List.set_cons_zero, List.set_cons_succ])
  refine take_ (i := 11) (N := (some 22)) #[true, false, true, true, true, true, true, true, false, true, true, true, false, false, false, false, false, false, false, false] rfl rfl (by kernel_rfl) (fun _ _ _ h => h) (.inl ⟨by rfl, by (intro w hSw; (try dsimp only at hSw); go_simp <;> with_reducible rfl)⟩) hHeld rfl ?_
  (try simp only [Act.put, List.setIfInBounds_toArray, List.set_cons_zero, List.set_cons_succ])
  refine take_ (i := 12) (N := (some 23)) #[true, false, true, true, true, true, true, true, false, true, true, true, true, false, false, false, false, false, false, false] rfl rfl (by kernel_rfl) (fun _ _ _ h => h) (.inl ⟨by rfl, by (intro w hSw; (try dsimp only at hSw); go_simp <;> with_reducible rfl)⟩) hHeld rfl ?_
  (try simp only [Act.put, List.setIfInBounds_toArray, List.set_cons_zero, List.set_cons_succ])
  refine take_ (i := 13) (N := (some 24)) #[true, false, true, true, true, true, true, true, false, true, true, true, true, true, false, false, false, false, false, false] rfl rfl (by kernel_rfl) (fun _ _ _ h => h) (.inl ⟨by rfl, by (intro w hSw; (try dsimp only at hSw); go_simp <;> with_reducible rfl)⟩) hHeld rfl ?_
  (try simp only [Act.put, List.setIfInBounds_toArray, List.set_cons_zero, List.set_cons_succ])
  refine take_ (i := 14) (N := (some 25)) #[true, false, true, true, true, true, true, true, false, true, true, true, true, true, true, false, false, false, false, false] rfl rfl (by kernel_rfl) (fun _ _ _ h => h) (.inl ⟨by rfl, by (intro w hSw; (try dsimp only at hSw); go_simp <;> with_reducible rfl)⟩) hHeld rfl ?_
  (try simp only [Act.put, List.setIfInBounds_toArray, List.set_cons_zero, List.set_cons_succ])
  refine take_ (i := 15) (N := (some 26)) #[true, false, true, true, true, true, true, true, false, true, true, true, true, true, true, true, false, false, false, false] rfl rfl (by kernel_rfl) (fun _ _ _ h => h) (.inl ⟨by rfl, by (intro w hSw; (try dsimp only at hSw); go_simp <;> with_reducible rfl)⟩) hHeld rfl ?_
  (try simp only [Act.put, List.setIfInBounds_toArray, List.set_cons_zero, List.set_cons_succ])
  refine one_ (i := 1) (N := (some 12)) #[true, true, true, true, true, true, true, true, false, true, true, true, true, true, true, true, false, false, false, false] rfl rfl (by kernel_rfl) (by simp) (fun K hK => ?_)
  refine Kd.R_lit_step KI (w0 := w1) w1.heap.size 70 ?hw0 (N := 12) ?hN0 (xs := ([] : List (ByteArray × Hd))) (inner := []) (ok := fun _ => True) (okp := fun _ => True) ?hr0 (Reps.none _ _) (fun _ hk => hk) trivial ?hb0 ?hs0 (by simp) ?_
  (case hw0 => rfl)
  (case hN0 => rfl)
  (case hr0 => first | (go_simp; done) | (go_simp; rfl))
  (case hb0 => exact below_drew (Below.refl _ _))
  (case hs0 => exact Nat.le_refl _)
  intro v12 w2 ho hb hg hat
  have hHeld : w2.cell? ⟨q, 3, none⟩ = some (.slice (some ad) n cap) := (hb.cell (p := ⟨q, 3, none⟩) hq).trans c3
  have HOw2 := Aside0.mk ho
  have HBw2 := Aside0.mk hb
  clear ho hb hg hat
  refine hK.out _ _ hHeld (fun hHeld => ?_)
  clear hK K
  (try simp only [Act.put, List.setIfInBounds_toArray, List.set_cons_zero, List.set_cons_succ])
  refine one_ (i := 8) (N := (some 19)) #[true, true, true, true, true, true, true, true, true, true, true, true, true, true, true, true, false, false, false, false] rfl rfl (by kernel_rfl) (by simp) (fun K hK => ?_)
  refine Kd.R_append_rows_step KI (w0 := w1) w1.heap.size ?hw8 (.tmp 12) (.tmp 18) 64 70 (.agg #[.string ByteArray.empty, .slice none 0 0]) 40 ?ho8 Try.underlying64 info70 ?hz8 (by decide) (by omega) v12 [] (X.map hdr) (some ad) k cap (fun _ => True) (fun _ => False) ?hs8 ?hx8 HOw2.out (Kd.C_below C1.out HBw2.out) (fun _ _ h => h) (fun _ h => h.elim) (fun _ _ => trivial) HBw2.out HBw2.out.size ?hl8 ?_
  (case hw8 => rfl)
  (case ho8 => rfl)
  (case hz8 => rfl)
  (case hs8 => rfl)
  (case hx8 => rfl)
  (case hl8 => simp only [List.length_map, List.length_nil, List.nil_append]; have := HN.out; have := HK.out; simp at *; omega)
  intro v3 w3 ho hb hg hat
  have hHeld : w3.cell? ⟨q, 3, none⟩ = some (.slice (some ad) n cap) := (hb.cell (p := ⟨q, 3, none⟩) hq).trans c3
  obtain ⟨A3, n3, rfl⟩ := Kd.R_slice ho
  have HOw3 := Aside0.mk ho
  have HBw3 := Aside0.mk hb
  clear ho hb hg hat
  refine hK.out _ _ hHeld (fun hHeld => ?_)
  clear hK K
  (try simp only [Act.put, List.setIfInBounds_toArray, List.set_cons_zero, List.set_cons_succ])
  refine one_ (i := 16) (N := (some 27)) #[true, true, true, true, true, true, true, true, true, true, true, true, true, true, true, true, true, false, false, false] rfl rfl (by kernel_rfl) (by simp) (fun K hK => ?_)
  refine Kd.R_append_rows_step KI (w0 := w1) w1.heap.size ?hw16 (.tmp 19) (.tmp 26) 64 70 (.agg #[.string ByteArray.empty, .slice none 0 0]) 40 ?ho16 Try.underlying64 info70 ?hz16 (by decide) (by omega) _ (X.map hdr) (Y.map hdr) A2 (n - (k + 1)) (cap - (k + 1)) (fun _ => True) (fun _ => False) ?hs16 ?hx16 HOw3.out (Kd.C_below C2.out HBw3.out) (fun _ _ h => h) (fun _ h => h.elim) (fun _ _ => trivial) HBw3.out HBw3.out.size ?hl16 ?_
  (case hw16 => rfl)
  (case ho16 => rfl)
  (case hz16 => rfl)
  (case hs16 => rfl)
  (case hx16 => rfl)
  (case hl16 => simp only [List.length_map, List.length_nil, List.nil_append]; have := HN.out; have := HK.out; simp at *; omega)
  intro v4 w4 ho hb hg hat
  have hHeld : w4.cell? ⟨q, 3, none⟩ = some (.slice (some ad) n cap) := (hb.cell (p := ⟨q, 3, none⟩) hq).trans c3
  obtain ⟨A4, n4, rfl⟩ := Kd.R_slice ho
  have HOw4 := Aside0.mk ho
  have HBw4 := Aside0.mk hb
  clear ho hb hg hat
  refine hK.out _ _ hHeld (fun hHeld => ?_)
  clear hK K
  (try simp only [Act.put, List.setIfInBounds_toArray, List.set_cons_zero, List.set_cons_succ])
  refine take_ (i := 17) (N := (some 28)) #[true, true, true, true, true, true, true, true, true, true, true, true, true, true, true, true, true, true, false, false] rfl rfl (by kernel_rfl) (fun _ _ _ h => h) (.inl ⟨by rfl, by (intro w hSw; (try dsimp only at hSw); go_simp <;> with_reducible rfl)⟩) hHeld rfl ?_
  (try simp only [Act.put, List.setIfInBounds_toArray, List.set_cons_zero, List.set_cons_succ])
  refine take_ (i := 18) (N := (some 29)) #[true, true, true, true, true, true, true, true, true, true, true, true, true, true, true, true, true, true, true, false] rfl rfl (by kernel_rfl) (fun _ _ _ h => h) (.inl ⟨by rfl, by (intro w hSw; (try dsimp only at hSw); go_simp <;> with_reducible rfl)⟩) hHeld rfl ?_
  (try simp only [Act.put, List.setIfInBounds_toArray, List.set_cons_zero, List.set_cons_succ])
  refine last_ (i := 19) (N := none) #[true, true, true, true, true, true, true, true, true, true, true, true, true, true, true, true, true, true, true, true] rfl rfl (by kernel_rfl) (by simp) (fun K hK => ?_)
  have hfz : w4.frozen? ⟨q, 3, none⟩ = false := (HBw4.out.frozen (p := ⟨q, 3, none⟩) hq).trans fz
  go_simp
  refine hK.out _ _ ?_
  clear hK K
  (try simp only [Act.put, List.setIfInBounds_toArray, List.set_cons_zero, List.set_cons_succ])
  refine done_ (by kernel_rfl) ?_
  go_wp2
  go_ret
  refine ⟨rfl, .slice A4 (X.length + Y.length) n4, ?_⟩
  have e4 : (List.map hdr X ++ List.map hdr Y).length = X.length + Y.length := by simp
  have r4 := HOw4.out
  rw [e4] at r4
  have hfr : Fr (fun k => k = q) w1 (w4.setCell ⟨q, 3, none⟩ (.slice A4 (X.length + Y.length) n4)) := (Fr.of_below HBw4.out (fun k => k = q)).setCell (p := ⟨q, 3, none⟩) (.inl rfl) _
  refine ⟨H.out.turn (hfr.mono (fun k hk => .inl hk)) (blk_put (((HBw4.out.block q hq).trans H.out.blk)) 3 _ rfl) ?_ (fun y hy => ?_), hfr, ?_⟩
  · rw [List.map_append]
    refine Kd.Q_lower (Kd.Q_of_R (Kd.R_far (p := ⟨q, 3, none⟩) (Kd.R_bound r4) (fun k hk e => ?_) _)) hB |> fun h => Kd.Q_mono h (fun _ _ => trivial)
    have := hk.2.1
    simp only at e
    omega
  · rcases List.mem_append.1 hy with h | h
    · exact List.mem_append_left _ h
    · exact List.mem_append_right _ (List.mem_cons_of_mem _ h)
  · have hb := Kd.Q_base2 (Kd.Q_of_R r4)
    exact hb
end Go.Proofs.Yteiejkkgckdihaa.Rp
