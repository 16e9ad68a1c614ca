/- Put, walked. -/
import Derived.Test.YteiejkkgckdihaaPe
import Derived.Test.YteiejkkgckdihaaCl
namespace Go.Proofs.Yteiejkkgckdihaa.Pu
set_option linter.unusedVariables false
open Go.RowKit Go.Proofs.YteiejkkgckdihaaW.PrintWords Go.Proofs.YteiejkkgckdihaaW.PrintLast Go.Proofs.YteiejkkgckdihaaW.PrintMore Go.Proofs.Yteiejkkgckdihaa.Fr Go.Proofs.Yteiejkkgckdihaa.Rg Go.Proofs.Yteiejkkgckdihaa.Rk Go.Proofs.Yteiejkkgckdihaa.Mp Go.Proofs.Yteiejkkgckdihaa.Ca Go.Proofs.Yteiejkkgckdihaa.Dr Go.Proofs.Yteiejkkgckdihaa.Tk Go.Proofs.Yteiejkkgckdihaa.Dw Go.Proofs.Yteiejkkgckdihaa.Cl Go.Proofs.Yteiejkkgckdihaa.Pe
/-- the elements that stay when a key goes -/
def but (s : ByteArray) (L : List Ent) : List Ent := L.filter (fun x => !decide (x.key = s))
theorem but_none {L : List Ent} {s : ByteArray} (h : lookE L s = none) : but s L = L := by
  unfold but
  rw [List.filter_eq_self]
  intro x hx
  simp [look_none h x hx]
theorem but_mid {X Y : List Ent} {n : Ent} (h : ((X ++ n :: Y).map (·.key)).Nodup) : but n.key (X ++ n :: Y) = X ++ Y := by
  rw [List.map_append, List.map_cons, List.nodup_append] at h
  obtain ⟨h1, h2, h3⟩ := h
  have h2' := List.nodup_cons.1 h2
  unfold but
  rw [List.filter_append, List.filter_cons]
  simp only [decide_true, Bool.not_true, Bool.false_eq_true, if_false]
  congr 1
  · rw [List.filter_eq_self]
    intro x hx
    simp [h3 x.key (List.mem_map_of_mem hx) n.key (by simp)]
  · rw [List.filter_eq_self]
    intro x hx
    have : x.key ≠ n.key := fun e => h2'.1 (by rw [← e]; exact List.mem_map_of_mem hx)
    simp [this]
theorem own_but {c m r : Nat} {s : ByteArray} {L : List Ent} {k : Nat} (h : Own c m r (but s L) k) : Own c m r L k := by
  rcases h with h | h | h | ⟨x, hx, h⟩
  · exact .inl h
  · exact .inr (.inl h)
  · exact .inr (.inr (.inl h))
  · exact .inr (.inr (.inr ⟨x, (List.mem_filter.1 hx).1, h⟩))
/-- Drop, of whatever key -/
theorem drop_any (c m r nn : Nat) (lim hi mi : Int) (L : List Ent) (s : ByteArray) (w : World) (h : CL w c m r nn lim hi mi L) (hs : s.size ≤ maxLen) :
    Calls Try.prog 13 #[PT c, .string s] w fun e w' => e = .returned (.bool (lookE L s).isSome) ∧ CL w' c m r nn lim hi mi (but s L) ∧ Fr (Own c m r L) w w' := by
  cases hl : lookE L s with
  | none =>
    refine (drop_miss c m r nn lim hi mi L s w h hs hl).mono ?_
    rintro e w' ⟨rfl, rfl⟩
    exact ⟨rfl, by rw [but_none hl]; exact h, Fr.refl _ _⟩
  | some b =>
    obtain ⟨X, n, Y, rfl, rfl, rfl, hX⟩ := look_split hl
    refine (drop_hit c m r nn lim hi mi X Y n w h).mono ?_
    rintro e w' ⟨rfl, h1, h2⟩
    exact ⟨rfl, by rw [but_mid h.keys]; exact h1, h2⟩
/-- the oldest elements go till there is room -/
def evict (lim : Int) (sz : Nat) : List Ent → List Ent
  | [] => []
  | x :: L => if lim < (used (x :: L) : Int) + sz then evict lim sz L else x :: L
theorem evict_stop {lim : Int} {sz : Nat} {L : List Ent} (h : ¬ lim < (used L : Int) + sz) : evict lim sz L = L := by
  cases L with
  | nil => rfl
  | cons x L => unfold evict; rw [if_neg h]
theorem evict_go {lim : Int} {sz : Nat} {x : Ent} {L : List Ent} (h : lim < (used (x :: L) : Int) + sz) : evict lim sz (x :: L) = evict lim sz L := by
  rw [evict, if_pos h]
theorem own_mem {c m r : Nat} {L L' : List Ent} (h : ∀ x ∈ L', x ∈ L) {k : Nat} (hk : Own c m r L' k) : Own c m r L k := by
  rcases hk with hk | hk | hk | ⟨x, hx, hk⟩
  · exact .inl hk
  · exact .inr (.inl hk)
  · exact .inr (.inr (.inl hk))
  · exact .inr (.inr (.inr ⟨x, h x hx, hk⟩))
theorem R_far {w : World} {base : Nat} {ok : Nat → Prop} {v : Value} {xs : List Int} (h : (Kd.int .u8).R 5 w base ok v xs) {A : Option Addr} {n c : Nat} (hv : v = .slice A n c) : ∀ ad, A = some ad → base ≤ ad.block := by
  intro ad e
  rcases (Kd.own_of_R h).2 with ⟨hv', _⟩ | ⟨g, cap, cur, hv', hg, _⟩
  · rw [hv] at hv'
    injection hv' with h1
    rw [e] at h1
    cases h1
  · rw [hv] at hv'
    injection hv' with h1
    rw [e] at h1
    injection h1 with h1
    rw [h1]
    exact hg
set_option maxHeartbeats 4000000 in
theorem put_more (c m r nn : Nat) (lim hi mi : Int) (L : List Ent) (s : ByteArray) (A : Option Addr) (cc : Nat) (xs : List Int) (w : World) (h : CL w c m r nn lim hi mi L) (hnn : nn < maxLen) (hs : s.size + xs.length ≤ 9223372036854775807) (hbig : ¬ lim < (s.size : Int) + xs.length)
    (hC : (Kd.int .u8).C w A xs.length xs) (hc : xs.length ≤ cc) (hl : xs.length ≤ 140737488351232) :
    Calls Try.prog 10 #[PT c, .string s, .slice A xs.length cc] w fun e w' => e = .returned (.int .i64 0) ∧ ∃ x : Ent, x.key = s ∧ x.val = xs ∧ w.heap.size ≤ x.b ∧ CL w' c m r (nn + 1) lim hi mi (evict lim (s.size + xs.length) (but s L) ++ [x]) ∧ Fr (Own c m r L) w w' ∧ (∀ ad, x.A = some ad → 0 < xs.length → w.heap.size ≤ ad.block ∧ ∃ cs fz, w'.heap[ad.block]? = some (.cells cs 5 fz)) := by
  have hcl := clone_any A cc xs w hC hc hl
  obtain ⟨n, hn⟩ : ∃ n, n = xs.length := ⟨_, rfl⟩
  rw [← hn] at hc hl hcl hC hs hbig ⊢
  have hbd : decide (lim < (s.size : Int) + n) = false := by simp only [decide_eq_false_iff_not]; exact hbig
  have HN := Aside0.mk hn
  have HNN := Aside0.mk hnn
  clear hnn
  have HL := Aside0.mk h
  clear hn h
  go_enter Try.func10, Try.ntmps10
  go_wp2_with fail
  refine hcl.mono ?_
  rintro e w1 ⟨u, rfl, hr, hb⟩
  obtain ⟨A1, c1, rfl, hc1, hC1⟩ := Kd.R_reads hr
  rw [← HN.out] at hC1 hc1 ⊢
  have h1 := HL.out.below hb
  obtain ⟨w2, hw2⟩ : ∃ w2, w2 = w1.alloc (.cells #[.string s, .slice A1 n c1] 57) := ⟨_, rfl⟩
  obtain ⟨bx, hbx⟩ : ∃ bx, bx = w1.heap.size := ⟨_, rfl⟩
  have h2 : CL w2 c m r nn lim hi mi L := hw2 ▸ h1.below (below_alloc (Below.refl _ _) _)
  have hx : w2.heap[bx]? = some (.cells #[.string s, .slice A1 n c1] 57 (0, 0)) := by rw [hw2, hbx]; exact blk_new _ _
  have hno := none_no c m r lim _ hi mi w2 h2.blk
  have x0 := blk_cell hx 0
  have x1 := blk_cell hx 1
  have cl := blk_cell h2.blk 0
  simp at x0 x1 cl
  have hfarA := R_far hr rfl
  have HFR := Aside0.mk hfarA
  have HTY := Aside0.mk (show ∀ ad, A1 = some ad → ∃ cs, w1.heap[ad.block]? = some (.cells cs 5 (0, 0)) from fun ad e => by subst e; exact Kd.R_typed hr ad.block rfl)
  have HFA := Aside0.mk (show ∀ ad, A1 = some ad → 0 < xs.length → ¬ Own c m r L ad.block from fun ad e _ ho => by
    have := hfarA ad e
    have := HL.out.own_lt ho
    omega)
  have HNB := Aside0.mk (show ¬ Own c m r L bx from fun ho => by
    have := HL.out.own_lt ho
    have := hb.size
    omega)
  have HF2 : Aside0 (Fr (Own c m r L) w1 w2) := Aside0.mk (by rw [hw2]; exact Fr.alloc (Fr.refl _ _) _)
  clear hfarA
  have HB := Aside0.mk hb
  have HR := Aside0.mk hr
  have HC1 := Aside0.mk hC1
  have H2 := Aside0.mk h2
  have HX := Aside0.mk hx
  have hsz := size_is s A1 n c1 w2.drew hs
  clear hcl hb hr hC hC1 h1 h2 hx
  go_wp2_with fail
  rw [← hw2, ← hbx]
  have HW2 := Aside0.mk hw2
  have HBX := Aside0.mk hbx
  clear hw2 hbx
  refine hno.mono ?_
  rintro e w2' ⟨rfl, rfl⟩
  go_wp2_with fail
  refine start_ (S := fun w' => w'.cell? ⟨bx, 0, none⟩ = some (.string s) ∧ w'.cell? ⟨bx, 1, none⟩ = some (.slice A1 n c1) ∧ w'.cell? ⟨c, 0, none⟩ = some (.int .i64 lim)) (ds := []) #[false, false, false, false, false, false, false, false] (by kernel_rfl) rfl rfl ⟨x0, x1, cl⟩ (fun hHeld => ?_)
  refine take_ (i := 0) (N := (some 17)) #[true, false, false, false, false, false, false, false] rfl rfl (by kernel_rfl) (fun _ _ _ h => h) (.inl ⟨by rfl, by (intro w hSw; (try dsimp only at hSw); go_simp <;> with_reducible rfl)⟩) hHeld rfl ?_
  (try simp only [Act.put, List.setIfInBounds_toArray, List.set_cons_zero, List.set_cons_succ])
  refine take_ (i := 2) (N := (some 19)) #[true, false, true, false, false, false, false, false] rfl rfl (by kernel_rfl) (fun _ _ _ h => h) (.inl ⟨by rfl, by (intro w hSw; (try dsimp only at hSw); go_simp <;> with_reducible rfl)⟩) hHeld rfl ?_
  (try simp only [Act.put, List.setIfInBounds_toArray, List.set_cons_zero, List.set_cons_succ])
  refine take_ (i := 3) (N := (some 20)) #[true, false, true, true, false, false, false, false] rfl rfl (by kernel_rfl) (fun _ _ _ h => h) (.inl ⟨by rfl, by (intro w hSw; (try dsimp only at hSw); go_simp <;> with_reducible rfl)⟩) hHeld rfl ?_
  (try simp only [Act.put, List.setIfInBounds_toArray, List.set_cons_zero, List.set_cons_succ])
  refine take_ (i := 4) (N := (some 21)) #[true, false, true, true, true, false, false, false] rfl rfl (by kernel_rfl) (fun _ _ _ h => h) (.inl ⟨by rfl, by (intro w hSw; (try dsimp only at hSw); go_simp <;> with_reducible rfl)⟩) hHeld rfl ?_
  (try simp only [Act.put, List.setIfInBounds_toArray, List.set_cons_zero, List.set_cons_succ])
  refine take_ (i := 5) (N := (some 22)) #[true, false, true, true, true, true, false, false] rfl rfl (by kernel_rfl) (fun _ _ _ h => h) (.inl ⟨by rfl, by (intro w hSw; (try dsimp only at hSw); go_simp <;> with_reducible rfl)⟩) hHeld rfl ?_
  (try simp only [Act.put, List.setIfInBounds_toArray, List.set_cons_zero, List.set_cons_succ])
  refine one_ (i := 1) (N := (some 18)) #[true, true, true, true, true, true, false, false] rfl rfl (by kernel_rfl) (by simp) (fun K hK => ?_)
  go_simp
  go_at_call 23
  (with_reducible refine hsz.mono ?_)
  rintro e w3 ⟨rfl, rfl⟩
  refine hK.out _ _ ⟨cellA x0, cellA x1, cellA cl⟩ (fun hHeld => ?_)
  clear hK K
  (try simp only [Act.put, List.setIfInBounds_toArray, List.set_cons_zero, List.set_cons_succ])
  refine take_ (i := 6) (N := (some 23)) #[true, true, true, true, true, true, true, false] rfl rfl (by kernel_rfl) (fun _ _ _ h => h) (.inl ⟨by rfl, by (intro w hSw; (try dsimp only at hSw); go_simp <;> with_reducible rfl)⟩) hHeld rfl ?_
  (try simp only [Act.put, List.setIfInBounds_toArray, List.set_cons_zero, List.set_cons_succ])
  refine take_ (i := 7) (N := (some 16)) #[true, true, true, true, true, true, true, true] rfl rfl (by kernel_rfl) (fun _ _ _ h => h) (.inl ⟨by rfl, by (intro w hSw; (try dsimp only at hSw); go_simp <;> with_reducible rfl)⟩) hHeld rfl ?_
  (try simp only [Act.put, List.setIfInBounds_toArray, List.set_cons_zero, List.set_cons_succ])
  refine done_ (by kernel_rfl) ?_
  have h3 : CL (w2'.drew.alloc (.cells #[.string s, .slice A1 n c1] 57)) c m r nn lim hi mi L := H2.out.below (below_alloc (below_drew1 (Below.refl _ _)) _)
  have hdr := drop_any c m r nn lim hi mi L s _ h3 (by simp only [maxLen]; omega)
  go_wp2_with fail
  refine hdr.mono ?_
  rintro e w4 ⟨rfl, h4, f4⟩
  have H4 := Aside0.mk h4
  have F4 := Aside0.mk f4
  clear h4 f4 hdr h3 hsz x0 x1 cl hno
  have HF4 : Aside0 (Fr (Own c m r L) w1 w4) := Aside0.mk ((((HF2.out.drew).alloc _)).trans F4.out)
  have HX4 : Aside0 (w4.heap[bx]? = some (.cells #[.string s, .slice A1 n c1] 57 (0, 0))) := Aside0.mk (F4.out.heap (blk_alloc (blk_drew HX.out) _) HNB.out)
  have HOS := Aside0.mk (show ∀ x ∈ but s L, x.key ≠ s from fun x hx e => by have := (List.mem_filter.1 hx).2; simp [e] at this)
  clear HX HF2 hHeld
  go_wp2
  go_loopg [] ((but s L).length) (fun g wx => ∃ L5, L5.length = g ∧ evict lim (s.size + n) L5 = evict lim (s.size + n) (but s L) ∧ CL wx c m r nn lim hi mi L5 ∧ Fr (Own c m r L) w4 wx ∧ (∀ x ∈ L5, x ∈ but s L))
  case atStart => exact ⟨_, rfl, rfl, H4.out, Fr.refl _ _, fun x hx => hx⟩
  case round =>
    obtain ⟨L5, hlen, hev, h5, f5, hsub⟩ := hrel
    have hx5 : wr.heap[bx]? = some (.cells #[.string s, .slice A1 n c1] 57 (0, 0)) := f5.heap HX4.out HNB.out
    have y0 := blk_cell hx5 0
    have y1 := blk_cell hx5 1
    have cl := blk_cell h5.blk 0
    have cu := blk_cell h5.blk 1
    simp at y0 y1 cl cu
    have hsz := size_is s A1 n c1 wr.drew hs
    obtain ⟨us, hus⟩ : ∃ us, us = used L5 := ⟨_, rfl⟩
    rw [← hus] at cu
    have hlow := h5.low
    rw [← hus] at hlow
    have wz : IntKind.i64.wrap ((us : Int) + ((s.size : Int) + n)) = (us : Int) + ((s.size : Int) + n) := by rw [i64_w]; unfold wrap64; omega
    have HUS := Aside0.mk hus
    have H5 := Aside0.mk h5
    have F5 := Aside0.mk f5
    have HX5 := Aside0.mk hx5
    have HEV := Aside0.mk hev
    have HSUB := Aside0.mk hsub
    have HLOW := Aside0.mk hlow
    have HLEN := Aside0.mk hlen
    clear hus h5 f5 hx5 hev hsub hlen hlow
    have h6 : Aside0 (CL (wr.drew.alloc (.cells #[.string s, .slice A1 n c1] 57)) c m r nn lim hi mi L5) := Aside0.mk (H5.out.below (below_alloc (below_drew1 (Below.refl _ _)) _))
    by_cases hgo : lim < (us : Int) + ((s.size : Int) + n)
    · have hgd : decide (lim < (us : Int) + ((s.size : Int) + n)) = true := by simp only [decide_eq_true_eq]; exact hgo
      have HGO := Aside0.mk hgo
      clear hgo
      go_wp2_with fail
      refine start_ (S := fun w' => w'.cell? ⟨bx, 0, none⟩ = some (.string s) ∧ w'.cell? ⟨bx, 1, none⟩ = some (.slice A1 n c1) ∧ w'.cell? ⟨c, 1, none⟩ = some (.int .i64 us) ∧ w'.cell? ⟨c, 0, none⟩ = some (.int .i64 lim)) (ds := []) #[false, false, false, false, false, false, false, false, false, false, false, false] (by kernel_rfl) rfl rfl ⟨y0, y1, cu, cl⟩ (fun hHeld => ?_)
      refine take_ (i := 0) (N := (some 27)) #[true, false, false, false, false, false, false, false, false, false, false, false] rfl rfl (by kernel_rfl) (fun _ _ _ h => h) (.inl ⟨by rfl, by (intro w hSw; (try dsimp only at hSw); go_simp <;> with_reducible rfl)⟩) hHeld rfl ?_
      (try simp only [Act.put, List.setIfInBounds_toArray, List.set_cons_zero, List.set_cons_succ])
      refine take_ (i := 1) (N := (some 28)) #[true, true, false, false, false, false, false, false, false, false, false, false] rfl rfl (by kernel_rfl) (fun _ _ _ h => h) (.inl ⟨by rfl, by (intro w hSw; (try dsimp only at hSw); go_simp <;> with_reducible rfl)⟩) hHeld rfl ?_
      (try simp only [Act.put, List.setIfInBounds_toArray, List.set_cons_zero, List.set_cons_succ])
      refine take_ (i := 2) (N := (some 29)) #[true, true, true, false, false, false, false, false, false, false, false, false] rfl rfl (by kernel_rfl) (fun _ _ _ h => h) (.inl ⟨by rfl, by (intro w hSw; (try dsimp only at hSw); go_simp <;> with_reducible rfl)⟩) hHeld rfl ?_
      (try simp only [Act.put, List.setIfInBounds_toArray, List.set_cons_zero, List.set_cons_succ])
      refine take_ (i := 3) (N := (some 30)) #[true, true, true, true, false, false, false, false, false, false, false, false] rfl rfl (by kernel_rfl) (fun _ _ _ h => h) (.inl ⟨by rfl, by (intro w hSw; (try dsimp only at hSw); go_simp <;> with_reducible rfl)⟩) hHeld rfl ?_
      (try simp only [Act.put, List.setIfInBounds_toArray, List.set_cons_zero, List.set_cons_succ])
      refine take_ (i := 4) (N := (some 31)) #[true, true, true, true, true, false, false, false, false, false, false, false] rfl rfl (by kernel_rfl) (fun _ _ _ h => h) (.inl ⟨by rfl, by (intro w hSw; (try dsimp only at hSw); go_simp <;> with_reducible rfl)⟩) hHeld rfl ?_
      (try simp only [Act.put, List.setIfInBounds_toArray, List.set_cons_zero, List.set_cons_succ])
      refine take_ (i := 7) (N := (some 34)) #[true, true, true, true, true, false, false, true, false, false, false, false] rfl rfl (by kernel_rfl) (fun _ _ _ h => h) (.inl ⟨by rfl, by (intro w hSw; (try dsimp only at hSw); go_simp <;> with_reducible rfl)⟩) hHeld rfl ?_
      (try simp only [Act.put, List.setIfInBounds_toArray, List.set_cons_zero, List.set_cons_succ])
      refine take_ (i := 8) (N := (some 35)) #[true, true, true, true, true, false, false, true, true, false, false, false] rfl rfl (by kernel_rfl) (fun _ _ _ h => h) (.inl ⟨by rfl, by (intro w hSw; (try dsimp only at hSw); go_simp <;> with_reducible rfl)⟩) hHeld rfl ?_
      (try simp only [Act.put, List.setIfInBounds_toArray, List.set_cons_zero, List.set_cons_succ])
      refine take_ (i := 9) (N := (some 36)) #[true, true, true, true, true, false, false, true, true, true, false, false] rfl rfl (by kernel_rfl) (fun _ _ _ h => h) (.inl ⟨by rfl, by (intro w hSw; (try dsimp only at hSw); go_simp <;> with_reducible rfl)⟩) hHeld rfl ?_
      (try simp only [Act.put, List.setIfInBounds_toArray, List.set_cons_zero, List.set_cons_succ])
      refine take_ (i := 10) (N := (some 37)) #[true, true, true, true, true, false, false, true, true, true, true, false] rfl rfl (by kernel_rfl) (fun _ _ _ h => h) (.inl ⟨by rfl, by (intro w hSw; (try dsimp only at hSw); go_simp <;> with_reducible rfl)⟩) hHeld rfl ?_
      (try simp only [Act.put, List.setIfInBounds_toArray, List.set_cons_zero, List.set_cons_succ])
      refine one_ (i := 5) (N := (some 32)) #[true, true, true, true, true, true, false, true, true, true, true, false] rfl rfl (by kernel_rfl) (by simp) (fun K hK => ?_)
      go_simp
      go_at_call 23
      (with_reducible refine hsz.mono ?_)
      rintro e w5 ⟨rfl, hw5⟩
      have HK : w5.cell? ⟨bx, 0, none⟩ = some (.string s) ∧ w5.cell? ⟨bx, 1, none⟩ = some (.slice A1 n c1) ∧ w5.cell? ⟨c, 1, none⟩ = some (.int .i64 us) ∧ w5.cell? ⟨c, 0, none⟩ = some (.int .i64 lim) := by rw [hw5]; exact ⟨cellA y0, cellA y1, cellA cu, cellA cl⟩
      have HW5 := Aside0.mk hw5
      clear hw5
      refine hK.out _ _ HK (fun hHeld => ?_)
      clear hK K
      (try simp only [Act.put, List.setIfInBounds_toArray, List.set_cons_zero, List.set_cons_succ])
      refine take_ (i := 6) (N := (some 33)) #[true, true, true, true, true, true, true, true, true, true, true, false] rfl rfl (by kernel_rfl) (fun _ _ _ h => h) (.inl ⟨by rfl, by (intro w hSw; (try dsimp only at hSw); go_simp <;> with_reducible rfl)⟩) hHeld rfl ?_
      (try simp only [Act.put, List.setIfInBounds_toArray, List.set_cons_zero, List.set_cons_succ])
      refine take_ (i := 11) (N := (some 38)) #[true, true, true, true, true, true, true, true, true, true, true, true] rfl rfl (by kernel_rfl) (fun _ _ _ h => h) (.inl ⟨by rfl, by (intro w hSw; (try dsimp only at hSw); go_simp <;> with_reducible rfl)⟩) hHeld rfl ?_
      (try simp only [Act.put, List.setIfInBounds_toArray, List.set_cons_zero, List.set_cons_succ])
      refine done_ (by kernel_rfl) ?_
      obtain ⟨x, L6, hL⟩ : ∃ x L6, L5 = x :: L6 := by
        cases hL : L5 with
        | nil =>
          exfalso
          have h0 := HUS.out
          rw [hL] at h0
          have : us = 0 := h0
          have := HGO.out
          omega
        | cons x L6 => exact ⟨x, L6, rfl⟩
      have h6' : CL w5 c m r nn lim hi mi L5 := HW5.out ▸ h6.out
      rw [hL] at h6'
      have hrt := h6'.ring.root
      obtain ⟨a0, b0, hxn⟩ := seg_mem h6'.ring.seg x (by simp)
      have r3 := blk_cell hrt 3
      have n0 := blk_cell hxn 0
      have c5 := blk_cell h6'.blk 5
      simp [hd] at r3 n0 c5
      have hdr := drop_hit c m r nn lim hi mi [] L6 x _ h6'
      clear hrt hxn h6' hHeld y0 y1 cl cu hsz
      go_wp2_with fail
      refine hdr.mono ?_
      rintro e w7 ⟨rfl, h7, f7⟩
      have H7 := Aside0.mk h7
      have F7 := Aside0.mk f7
      clear h7 f7 hdr
      go_wp2
      go_roundg L6.length
      case measure =>
        have := HLEN.out
        rw [hL] at this
        simp at this
        omega
      case rel =>
        refine ⟨L6, rfl, ?_, H7.out, ?_, ?_⟩
        · rw [← HEV.out, hL, evict_go]
          have h0 := HUS.out
          rw [hL] at h0
          have := HGO.out
          rw [← h0]
          omega
        · refine F5.out.trans (Fr.trans ?_ (F7.out.mono ?_))
          · rw [HW5.out]; exact ((Fr.refl _ _).drew).alloc _
          · intro k hk
            exact own_mem (L' := L5) (fun y hy => (List.mem_filter.1 (HSUB.out y hy)).1) (by rw [hL]; exact hk)
        · intro y hy
          exact HSUB.out y (by rw [hL]; simp [hy])
    · have hgd : decide (lim < (us : Int) + ((s.size : Int) + n)) = false := by simp only [decide_eq_false_iff_not]; exact hgo
      have HGO := Aside0.mk hgo
      clear hgo
      go_wp2_with fail
      refine start_ (S := fun w' => w'.cell? ⟨bx, 0, none⟩ = some (.string s) ∧ w'.cell? ⟨bx, 1, none⟩ = some (.slice A1 n c1) ∧ w'.cell? ⟨c, 1, none⟩ = some (.int .i64 us) ∧ w'.cell? ⟨c, 0, none⟩ = some (.int .i64 lim)) (ds := []) #[false, false, false, false, false, false, false, false, false, false, false, false] (by kernel_rfl) rfl rfl ⟨y0, y1, cu, cl⟩ (fun hHeld => ?_)
      refine take_ (i := 0) (N := (some 27)) #[true, false, false, false, false, false, false, false, false, false, false, false] rfl rfl (by kernel_rfl) (fun _ _ _ h => h) (.inl ⟨by rfl, by (intro w hSw; (try dsimp only at hSw); go_simp <;> with_reducible rfl)⟩) hHeld rfl ?_
      (try simp only [Act.put, List.setIfInBounds_toArray, List.set_cons_zero, List.set_cons_succ])
      refine take_ (i := 1) (N := (some 28)) #[true, true, false, false, false, false, false, false, false, false, false, false] rfl rfl (by kernel_rfl) (fun _ _ _ h => h) (.inl ⟨by rfl, by (intro w hSw; (try dsimp only at hSw); go_simp <;> with_reducible rfl)⟩) hHeld rfl ?_
      (try simp only [Act.put, List.setIfInBounds_toArray, List.set_cons_zero, List.set_cons_succ])
      refine take_ (i := 2) (N := (some 29)) #[true, true, true, false, false, false, false, false, false, false, false, false] rfl rfl (by kernel_rfl) (fun _ _ _ h => h) (.inl ⟨by rfl, by (intro w hSw; (try dsimp only at hSw); go_simp <;> with_reducible rfl)⟩) hHeld rfl ?_
      (try simp only [Act.put, List.setIfInBounds_toArray, List.set_cons_zero, List.set_cons_succ])
      refine take_ (i := 3) (N := (some 30)) #[true, true, true, true, false, false, false, false, false, false, false, false] rfl rfl (by kernel_rfl) (fun _ _ _ h => h) (.inl ⟨by rfl, by (intro w hSw; (try dsimp only at hSw); go_simp <;> with_reducible rfl)⟩) hHeld rfl ?_
      (try simp only [Act.put, List.setIfInBounds_toArray, List.set_cons_zero, List.set_cons_succ])
      refine take_ (i := 4) (N := (some 31)) #[true, true, true, true, true, false, false, false, false, false, false, false] rfl rfl (by kernel_rfl) (fun _ _ _ h => h) (.inl ⟨by rfl, by (intro w hSw; (try dsimp only at hSw); go_simp <;> with_reducible rfl)⟩) hHeld rfl ?_
      (try simp only [Act.put, List.setIfInBounds_toArray, List.set_cons_zero, List.set_cons_succ])
      refine take_ (i := 7) (N := (some 34)) #[true, true, true, true, true, false, false, true, false, false, false, false] rfl rfl (by kernel_rfl) (fun _ _ _ h => h) (.inl ⟨by rfl, by (intro w hSw; (try dsimp only at hSw); go_simp <;> with_reducible rfl)⟩) hHeld rfl ?_
      (try simp only [Act.put, List.setIfInBounds_toArray, List.set_cons_zero, List.set_cons_succ])
      refine take_ (i := 8) (N := (some 35)) #[true, true, true, true, true, false, false, true, true, false, false, false] rfl rfl (by kernel_rfl) (fun _ _ _ h => h) (.inl ⟨by rfl, by (intro w hSw; (try dsimp only at hSw); go_simp <;> with_reducible rfl)⟩) hHeld rfl ?_
      (try simp only [Act.put, List.setIfInBounds_toArray, List.set_cons_zero, List.set_cons_succ])
      refine take_ (i := 9) (N := (some 36)) #[true, true, true, true, true, false, false, true, true, true, false, false] rfl rfl (by kernel_rfl) (fun _ _ _ h => h) (.inl ⟨by rfl, by (intro w hSw; (try dsimp only at hSw); go_simp <;> with_reducible rfl)⟩) hHeld rfl ?_
      (try simp only [Act.put, List.setIfInBounds_toArray, List.set_cons_zero, List.set_cons_succ])
      refine take_ (i := 10) (N := (some 37)) #[true, true, true, true, true, false, false, true, true, true, true, false] rfl rfl (by kernel_rfl) (fun _ _ _ h => h) (.inl ⟨by rfl, by (intro w hSw; (try dsimp only at hSw); go_simp <;> with_reducible rfl)⟩) hHeld rfl ?_
      (try simp only [Act.put, List.setIfInBounds_toArray, List.set_cons_zero, List.set_cons_succ])
      refine one_ (i := 5) (N := (some 32)) #[true, true, true, true, true, true, false, true, true, true, true, false] rfl rfl (by kernel_rfl) (by simp) (fun K hK => ?_)
      go_simp
      go_at_call 23
      (with_reducible refine hsz.mono ?_)
      rintro e w5 ⟨rfl, hw5⟩
      have HK : w5.cell? ⟨bx, 0, none⟩ = some (.string s) ∧ w5.cell? ⟨bx, 1, none⟩ = some (.slice A1 n c1) ∧ w5.cell? ⟨c, 1, none⟩ = some (.int .i64 us) ∧ w5.cell? ⟨c, 0, none⟩ = some (.int .i64 lim) := by rw [hw5]; exact ⟨cellA y0, cellA y1, cellA cu, cellA cl⟩
      have HW5 := Aside0.mk hw5
      clear hw5
      refine hK.out _ _ HK (fun hHeld => ?_)
      clear hK K
      (try simp only [Act.put, List.setIfInBounds_toArray, List.set_cons_zero, List.set_cons_succ])
      refine take_ (i := 6) (N := (some 33)) #[true, true, true, true, true, true, true, true, true, true, true, false] rfl rfl (by kernel_rfl) (fun _ _ _ h => h) (.inl ⟨by rfl, by (intro w hSw; (try dsimp only at hSw); go_simp <;> with_reducible rfl)⟩) hHeld rfl ?_
      (try simp only [Act.put, List.setIfInBounds_toArray, List.set_cons_zero, List.set_cons_succ])
      refine take_ (i := 11) (N := (some 38)) #[true, true, true, true, true, true, true, true, true, true, true, true] rfl rfl (by kernel_rfl) (fun _ _ _ h => h) (.inl ⟨by rfl, by (intro w hSw; (try dsimp only at hSw); go_simp <;> with_reducible rfl)⟩) hHeld rfl ?_
      (try simp only [Act.put, List.setIfInBounds_toArray, List.set_cons_zero, List.set_cons_succ])
      refine done_ (by kernel_rfl) ?_
      have hw5 : CL w5 c m r nn lim hi mi L5 := HW5.out ▸ h6.out
      have hF15 : Fr (Own c m r L) w1 w5 := HF4.out.trans (F5.out.trans (by rw [HW5.out]; exact ((Fr.refl _ _).drew).alloc _))
      have hsubL : ∀ y ∈ L5, y ∈ L := fun y hy => (List.mem_filter.1 (HSUB.out y hy)).1
      have hCx : (Kd.int .u8).C w1 A1 xs.length xs := HN.out ▸ HC1.out
      have hC5 : (Kd.int .u8).C w5 A1 xs.length xs := hF15.C hCx HFA.out
      have hx5 : w5.heap[bx]? = some (.cells #[.string s, .slice A1 n c1] 57 (0, 0)) := by rw [HW5.out]; exact blk_alloc (blk_drew HX5.out) _
      obtain ⟨w6, e6⟩ : ∃ w6, w6 = w5.alloc (.cells #[.string s, .slice A1 n c1, .pointer none, .pointer none] 61) := ⟨_, rfl⟩
      obtain ⟨nb, enb⟩ : ∃ nb, nb = w5.heap.size := ⟨_, rfl⟩
      obtain ⟨w7, e7⟩ : ∃ w7, w7 = (putW (w6.alloc (.cells #[PT r] 51)) r (lst L5 r) nb).drew.drew := ⟨_, rfl⟩
      obtain ⟨hn6, ⟨kr, vr, qr, hr6⟩, ⟨kl, vl, pl, ql, hl6⟩, hln, hrn, hb6, hb7, w8, hrun, hb8, hf8, hend⟩ := put_end hw5 s A1 c1 xs (fun x hx => HOS.out x (HSUB.out x hx)) hC5 (HN.out ▸ hc1)
        (fun ad e hp ho => HFA.out ad e hp (own_mem hsubL ho)) (by have h1 := HUS.out; have h2 := HGO.out; have h3 := HN.out; omega) HNN.out w6 w7 nb (by rw [e6, HN.out]) enb e7
      have hpu := put_is r (lst L5 r) nb w6 _ _ _ _ kr vr qr kl vl pl ql hn6 hr6 hl6 hln hrn
      rw [← e7] at hpu
      have hx8 : w8.heap[bx]? = some (.cells #[.string s, .slice A1 n c1] 57 (0, 0)) := hf8.heap hx5 (fun ho => HNB.out (own_mem hsubL ho))
      have k5 := blk_cell hb6 5
      have k7 := blk_cell hb7 4
      have u8 := blk_cell hb8 1
      have z0 := blk_cell hx8 0
      have z1 := blk_cell hx8 1
      have hfz := fun o => blk_frozen (blk_alloc hb8 o) 1
      have huz := fun o => blk_cell (blk_alloc hb8 o) 1
      simp at k5 k7 u8 z0 z1 huz
      rw [← HUS.out] at u8 huz
      have hsz8 := size_is s A1 n c1 w8.drew hs
      have HEND := Aside0.mk hend
      have HF8 := Aside0.mk hf8
      have HF15 := Aside0.mk hF15
      rw [e6] at k5
      have E6 := Aside0.mk e6
      have ENB := Aside0.mk enb
      clear e6 enb
      have E7 := Aside0.mk e7
      have HSL := Aside0.mk hsubL
      clear hend hf8 hF15 hsubL hCx hC5 hx5 hn6 hr6 hl6 hln hrn hb6 hb7 hb8 hx8 hw5 hsz y0 y1 cl cu e7
      go_wp2_with fail
      rw [← E6.out, ← ENB.out]
      refine hpu.mono ?_
      rintro e w7' ⟨rfl, rfl⟩
      go_wp2_with fail
      clear hHeld HK
      refine start_ (S := fun w' => w'.cell? ⟨c, 1, none⟩ = some (.int .i64 us) ∧ w'.cell? ⟨bx, 0, none⟩ = some (.string s) ∧ w'.cell? ⟨bx, 1, none⟩ = some (.slice A1 n c1)) (ds := [9]) #[false, false, false, false, false, false, false, false, false, false] (by kernel_rfl) rfl rfl ⟨u8, z0, z1⟩ (fun hHeld => ?_)
      refine take_ (i := 0) (N := (some 68)) #[true, false, false, false, false, false, false, false, false, false] rfl rfl (by kernel_rfl) (fun _ _ _ h => h) (.inl ⟨by rfl, by (intro w hSw; (try dsimp only at hSw); go_simp <;> with_reducible rfl)⟩) hHeld rfl ?_
      (try simp only [Act.put, List.setIfInBounds_toArray, List.set_cons_zero, List.set_cons_succ])
      refine take_ (i := 1) (N := (some 69)) #[true, true, false, false, false, false, false, false, false, false] rfl rfl (by kernel_rfl) (fun _ _ _ h => h) (.inl ⟨by rfl, by (intro w hSw; (try dsimp only at hSw); go_simp <;> with_reducible rfl)⟩) hHeld rfl ?_
      (try simp only [Act.put, List.setIfInBounds_toArray, List.set_cons_zero, List.set_cons_succ])
      refine take_ (i := 2) (N := (some 70)) #[true, true, true, false, false, false, false, false, false, false] rfl rfl (by kernel_rfl) (fun _ _ _ h => h) (.inl ⟨by rfl, by (intro w hSw; (try dsimp only at hSw); go_simp <;> with_reducible rfl)⟩) hHeld rfl ?_
      (try simp only [Act.put, List.setIfInBounds_toArray, List.set_cons_zero, List.set_cons_succ])
      refine take_ (i := 3) (N := (some 71)) #[true, true, true, true, false, false, false, false, false, false] rfl rfl (by kernel_rfl) (fun _ _ _ h => h) (.inl ⟨by rfl, by (intro w hSw; (try dsimp only at hSw); go_simp <;> with_reducible rfl)⟩) hHeld rfl ?_
      (try simp only [Act.put, List.setIfInBounds_toArray, List.set_cons_zero, List.set_cons_succ])
      refine take_ (i := 4) (N := (some 72)) #[true, true, true, true, true, false, false, false, false, false] rfl rfl (by kernel_rfl) (fun _ _ _ h => h) (.inl ⟨by rfl, by (intro w hSw; (try dsimp only at hSw); go_simp <;> with_reducible rfl)⟩) hHeld rfl ?_
      (try simp only [Act.put, List.setIfInBounds_toArray, List.set_cons_zero, List.set_cons_succ])
      refine one_ (i := 5) (N := (some 73)) #[true, true, true, true, true, true, false, false, false, false] rfl rfl (by kernel_rfl) (by simp) (fun K hK => ?_)
      go_simp
      go_at_call 23
      (with_reducible refine hsz8.mono ?_)
      rintro e w9 ⟨rfl, rfl⟩
      refine hK.out _ _ ⟨cellA u8, cellA z0, cellA z1⟩ (fun hHeld => ?_)
      clear hK K
      (try simp only [Act.put, List.setIfInBounds_toArray, List.set_cons_zero, List.set_cons_succ])
      refine take_ (i := 6) (N := (some 74)) #[true, true, true, true, true, true, true, false, false, false] rfl rfl (by kernel_rfl) (fun _ _ _ h => h) (.inl ⟨by rfl, by (intro w hSw; (try dsimp only at hSw); go_simp <;> with_reducible rfl)⟩) hHeld rfl ?_
      (try simp only [Act.put, List.setIfInBounds_toArray, List.set_cons_zero, List.set_cons_succ])
      refine take_ (i := 7) (N := (some 75)) #[true, true, true, true, true, true, true, true, false, false] rfl rfl (by kernel_rfl) (fun _ _ _ h => h) (.inl ⟨by rfl, by (intro w hSw; (try dsimp only at hSw); go_simp <;> with_reducible rfl)⟩) hHeld rfl ?_
      (try simp only [Act.put, List.setIfInBounds_toArray, List.set_cons_zero, List.set_cons_succ])
      refine take_ (i := 8) (N := (some 76)) #[true, true, true, true, true, true, true, true, true, false] rfl rfl (by kernel_rfl) (fun _ _ _ h => h) (.inl ⟨by rfl, by (intro w hSw; (try dsimp only at hSw); go_simp <;> with_reducible rfl)⟩) hHeld rfl ?_
      (try simp only [Act.put, List.setIfInBounds_toArray, List.set_cons_zero, List.set_cons_succ])
      refine last_ (i := 9) (N := none) #[true, true, true, true, true, true, true, true, true, true] rfl rfl (by kernel_rfl) (by simp) (fun K hK => ?_)
      
      go_simp
      refine hK.out _ _ ?_
      clear hK K
      (try simp only [Act.put, List.setIfInBounds_toArray, List.set_cons_zero, List.set_cons_succ])
      refine done_ (by kernel_rfl) ?_
      go_wp2
      go_ret
      have hE := HEND.out (.cells #[.string s, .slice A1 n c1] 57) (us + (s.size + n)) (by rw [HUS.out, ← HN.out])
      refine ⟨rfl, ⟨nb, s, A1, c1, xs⟩, rfl, rfl, ?_, ?_, ?_, fun ad e hp => ⟨HFR.out ad e, ?_⟩⟩
      · show w.heap.size ≤ nb
        rw [ENB.out]
        exact Nat.le_trans HB.out.size HF15.out.size
      · have he := evict_stop (L := L5) (sz := s.size + n) (lim := lim) (by have := HGO.out; rw [← HUS.out]; omega)
        rw [← HEV.out, he]
        exact hE.1
      · exact (Fr.of_below HB.out _).trans (HF15.out.trans (hE.2.mono (fun k hk => own_mem HSL.out hk)))
      · obtain ⟨cs, hcs⟩ := HTY.out ad e
        exact ⟨cs, (0, 0), ((HF15.out.trans (hE.2.mono (fun k hk => own_mem HSL.out hk))).block _ (blk_lt hcs) (HFA.out ad e (by rw [← HN.out]; exact hp))).trans hcs⟩
theorem put_walk (c m r nn : Nat) (lim hi mi : Int) (L : List Ent) (s : ByteArray) (A : Option Addr) (cc : Nat) (xs : List Int) (w : World) (h : CL w c m r nn lim hi mi L) (hnn : nn < maxLen) (hs : s.size + xs.length ≤ 9223372036854775807) (hbig : ¬ lim < (s.size : Int) + xs.length)
    (hC : (Kd.int .u8).C w A xs.length xs) (hc : xs.length ≤ cc) (hl : xs.length ≤ 140737488351232) :
    Calls Try.prog 10 #[PT c, .string s, .slice A xs.length cc] w fun e w' => e = .returned (.int .i64 0) ∧ ∃ x : Ent, x.key = s ∧ x.val = xs ∧ w.heap.size ≤ x.b ∧ CL w' c m r (nn + 1) lim hi mi (evict lim (s.size + xs.length) (but s L) ++ [x]) ∧ Fr (Own c m r L) w w' :=
  (put_more c m r nn lim hi mi L s A cc xs w h hnn hs hbig hC hc hl).mono fun e w' ⟨he, x, h1, h2, h3, h4, h5, _⟩ => ⟨he, x, h1, h2, h3, h4, h5⟩
end Go.Proofs.Yteiejkkgckdihaa.Pu
