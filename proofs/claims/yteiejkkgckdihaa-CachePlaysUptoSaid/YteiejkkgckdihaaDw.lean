/- Drop, walked. -/
import Derived.Test.YteiejkkgckdihaaDr
import Derived.Test.YteiejkkgckdihaaTk
namespace Go.Proofs.Yteiejkkgckdihaa.Dw
set_option linter.unusedVariables false
open Go.RowKit Go.Proofs.YteiejkkgckdihaaW.PrintWords Go.Proofs.YteiejkkgckdihaaW.PrintLast Go.Proofs.YteiejkkgckdihaaW.PrintMore Go.Proofs.Yteiejkkgckdihaa.Fr Go.Proofs.Yteiejkkgckdihaa.Rg Go.Proofs.Yteiejkkgckdihaa.Rk Go.Proofs.Yteiejkkgckdihaa.Mp Go.Proofs.Yteiejkkgckdihaa.Ca Go.Proofs.Yteiejkkgckdihaa.Dr Go.Proofs.Yteiejkkgckdihaa.Tk
theorem look_mid {X Y : List Ent} {n : Ent} (h : ((X ++ n :: Y).map (·.key)).Nodup) : lookE (X ++ n :: Y) n.key = some n.b := by
  rw [List.map_append, List.map_cons, List.nodup_append] at h
  obtain ⟨h1, h2, h3⟩ := h
  rw [look_app, look_cons, if_pos rfl, look_not (fun x hx => h3 x.key (List.mem_map_of_mem hx) n.key (by simp))]
  rfl
theorem drop_miss (c m r n : Nat) (lim hi mi : Int) (L : List Ent) (s : ByteArray) (w : World) (h : CL w c m r n lim hi mi L) (hs : s.size ≤ maxLen) (hn : lookE L s = none) :
    Calls Try.prog 13 #[PT c, .string s] w fun e w' => e = .returned (.bool false) ∧ w' = w := by
  have hno := none_no c m r lim _ hi mi w h.blk
  have hlk := (h.map.look_ok hs).2 hn
  have c4 := blk_cell h.blk 4
  simp at c4
  clear h
  go_enter Try.func13, Try.ntmps13
  go_wp2_with fail
  refine hno.mono ?_
  rintro e w1 ⟨rfl, rfl⟩
  go_wp2
  go_ret
  exact ⟨rfl, rfl⟩
theorem cellA {w : World} {p : Addr} {v : Value} {o : Obj} (h : w.cell? p = some v) : (w.drew.alloc o).cell? p = some v := (World.cell?_alloc_some w.drew p o (by show (w.cell? p).isSome = true; rw [h]; rfl)).trans h
theorem drop_end {c m r nn : Nat} {lim hi mi us : Int} {X Y : List Ent} {n : Ent} {w w1 w2 : World} (h : CL w c m r nn lim hi mi (X ++ n :: Y)) (hf : Fr (Own c m r (X ++ n :: Y)) w w1) (hr : Ring w1 r (X ++ Y))
    (ht : w1.mapTurned w2 m) (hm : MapS w2 m nn (lookE (X ++ Y))) (hb : Blk w2 c m r lim us hi mi) (o : Obj) (us0 : Nat) (e0 : us0 = used (X ++ Y)) (e1 : used (X ++ n :: Y) = us0 + (n.key.size + n.val.length)) :
    CL ((w2.alloc o).setCell ⟨c, 1, none⟩ (.int .i64 us0)).drew c m r nn lim hi mi (X ++ Y) ∧ Fr (Own c m r (X ++ n :: Y)) w ((w2.alloc o).setCell ⟨c, 1, none⟩ (.int .i64 us0)).drew := by
  have f2 : Fr (fun k => k = c ∨ k = m) w1 w2 := turned_fr ht _ (.inr rfl)
  have f3 : Fr (fun k => k = c) w2 ((w2.alloc o).setCell ⟨c, 1, none⟩ (.int .i64 us0)).drew := (((Fr.refl (fun k => k = c) w2).alloc o).setCell (p := ⟨c, 1, none⟩) (.inl rfl) _).drew
  have f4 : Fr (fun k => k = c ∨ k = m) w1 ((w2.alloc o).setCell ⟨c, 1, none⟩ (.int .i64 us0)).drew := f2.trans (f3.mono (fun k hk => .inl hk))
  have fw : Fr (Own c m r (X ++ n :: Y)) w ((w2.alloc o).setCell ⟨c, 1, none⟩ (.int .i64 us0)).drew := hf.trans (f4.mono (fun k hk => by rcases hk with hk | hk; exact .inl hk; exact .inr (.inl hk)))
  have hb3 : Blk ((w2.alloc o).setCell ⟨c, 1, none⟩ (.int .i64 us0)).drew c m r lim us0 hi mi := blk_put (blk_alloc hb o) 1 _ rfl
  have hseg := seg_mem hr.seg
  refine ⟨⟨e0 ▸ hb3, hr.frame (f4.block r (blk_lt hr.root) ?_) (fun x hx => f4.block x.b ?_ ?_), hm.frame (f3.block m hm.lt h.cm.symm), ?_, ?_, ?_, ?_⟩, fw⟩
  · rintro (e | e)
    · exact h.cr e.symm
    · exact h.rm e
  · obtain ⟨a, b, hx⟩ := hseg x hx
    exact blk_lt hx
  · rintro (e | e)
    · exact h.cx x (mem_sub hx) e
    · exact h.xm x (mem_sub hx) e
  · exact h.keys.sublist (((List.Sublist.refl X).append (List.sublist_cons_self n Y)).map _)
  · intro x hx
    exact ⟨fw.C (h.val x (mem_sub hx)).1 (fun ad e hp => h.far x (mem_sub hx) ad e hp), (h.val x (mem_sub hx)).2⟩
  · intro x hx ad e hp ho
    exact h.far x (mem_sub hx) ad e hp (own_sub ho)
  · have := h.low
    exact ⟨this.1, this.2.1, by omega⟩
/-- the world behind: the ring mended, the map without the key, less used -/
theorem drop_hit (c m r nn : Nat) (lim hi mi : Int) (X Y : List Ent) (n : Ent) (w : World) (h : CL w c m r nn lim hi mi (X ++ n :: Y)) :
    Calls Try.prog 13 #[PT c, .string n.key] w fun e w' => e = .returned (.bool true) ∧ CL w' c m r nn lim hi mi (X ++ Y) ∧ Fr (Own c m r (X ++ n :: Y)) w w' := by
  have H := Aside0.mk h
  have hus : used (X ++ n :: Y) = used (X ++ Y) + (n.key.size + n.val.length) := by simp [used_app, used_cons, esz]; omega
  have hlow := h.low
  have hks : n.key.size ≤ maxLen := by simp only [maxLen]; omega
  have hlb : lookE (X ++ n :: Y) n.key = some n.b := look_mid h.keys
  have hno := none_no c m r lim _ hi mi w h.blk
  have hlk := (h.map.look_ok hks).1 n.b hlb
  have c4 := blk_cell h.blk 4
  simp at c4
  obtain ⟨kp, vp, pp, qp, hp⟩ := h.ring.place (lst X r) (by rcases lst_in X r with e | ⟨x, hx, e⟩; exact .inl e; exact .inr ⟨x, by simp [hx], e⟩)
  obtain ⟨kq, vq, pq, qq, hq⟩ := h.ring.place (hd Y r) (by rcases hd_in Y r with e | ⟨x, hx, e⟩; exact .inl e; exact .inr ⟨x, by simp [hx], e⟩)
  have hnode := h.ring.node
  have hbs := h.ring.beside
  have htk := take_is n.b (lst X r) (hd Y r) w _ _ kp vp pp qp kq vq pq qq hnode hp hq hbs.1 hbs.2
  -- behind take
  obtain ⟨w1, hw1⟩ : ∃ w1, w1 = ((w.setCell ⟨lst X r, 3, none⟩ (PT (hd Y r))).setCell ⟨hd Y r, 2, none⟩ (PT (lst X r))).drew := ⟨_, rfl⟩
  have hr1 : Ring w1 r (X ++ Y) := by rw [hw1]; exact h.ring.out.frame rfl (fun _ _ => rfl)
  have far1 : ∀ b, b ≠ lst X r → b ≠ hd Y r → w1.heap[b]? = w.heap[b]? := fun b h1 h2 => by rw [hw1]; exact heap_two_far h1 h2
  have ends : ∀ b, b ≠ r → (∀ x ∈ X ++ n :: Y, x.b ≠ b) → b ≠ lst X r ∧ b ≠ hd Y r := by
    intro b h1 h2
    constructor
    · rcases lst_in X r with e | ⟨x, hx, e⟩
      · rw [e]; exact h1
      · rw [e]; exact fun e' => h2 x (by simp [hx]) e'.symm
    · rcases hd_in Y r with e | ⟨x, hx, e⟩
      · rw [e]; exact h1
      · rw [e]; exact fun e' => h2 x (by simp [hx]) e'.symm
  have hcE := ends c h.cr h.cx
  have hmE := ends m h.rm.symm h.xm
  have hf1 : Fr (Own c m r (X ++ n :: Y)) w w1 := by
    rw [hw1]
    refine (((Fr.refl _ _).setCell (.inl ?_) _).setCell (.inl ?_) _).drew
    · rcases lst_in X r with e | ⟨x, hx, e⟩
      · exact .inr (.inr (.inl e))
      · exact .inr (.inr (.inr ⟨x, by simp [hx], e⟩))
    · rcases hd_in Y r with e | ⟨x, hx, e⟩
      · exact .inr (.inr (.inl e))
      · exact .inr (.inr (.inr ⟨x, by simp [hx], e⟩))
  rw [← hw1] at htk
  have hm1 : MapS w1 m nn (lookE (X ++ n :: Y)) := h.map.frame (far1 m hmE.1 hmE.2)
  obtain ⟨w2, hdel, hm2, ht2⟩ := hm1.drop hks 0
  rw [look_out h.keys] at hm2
  have far2 : ∀ b, b ≠ m → b < w1.heap.size → w2.heap[b]? = w1.heap[b]? := fun b h1 h2 => ht2.grown.block b h2 (fun e => h1 (by injection e))
  have hb1 : Blk w1 c m r lim (used (X ++ n :: Y)) hi mi := (far1 c hcE.1 hcE.2).trans h.blk
  have hb2 : Blk w2 c m r lim (used (X ++ n :: Y)) hi mi := (far2 c h.cm (blk_lt hb1)).trans hb1
  have hn1 : Rg.Node w1 n (lst X r) (hd Y r) := (far1 n.b hbs.1.symm hbs.2.symm).trans hnode
  have hn2 : Rg.Node w2 n (lst X r) (hd Y r) := (far2 n.b (h.xm n (by simp)) (blk_lt hn1)).trans hn1
  have k4 := blk_cell hb1 4
  have u1 := blk_cell hb2 1
  have f1 := blk_frozen hb2 1
  have e0 := blk_cell hn2 0
  have e1 := blk_cell hn2 1
  simp at k4 u1 e0 e1
  have fz := blk_frozen (blk_alloc hb2 (.cells #[.string n.key, .slice n.A n.val.length n.c] 57)) 1
  have uz := blk_cell (blk_alloc hb2 (.cells #[.string n.key, .slice n.A n.val.length n.c] 57)) 1
  simp at uz
  have wz : IntKind.i64.wrap ((used (X ++ Y) : Nat) : Int) = (used (X ++ Y) : Nat) := by rw [i64_w]; unfold wrap64; omega
  have hsz := size_is n.key n.A n.val.length n.c w2.drew (by omega)
  have FAR2 := Aside0.mk far2
  have HR1 := Aside0.mk hr1
  have HF1 := Aside0.mk hf1
  have HM2 := Aside0.mk hm2
  have HB2 := Aside0.mk hb2
  have HT2 := Aside0.mk ht2
  clear far2 hr1 hf1 hm2 hb2 ht2 hm1 hb1 hn1 hn2 far1 hw1 ends hbs hnode hp hq h hlb
  obtain ⟨us, hus1⟩ : ∃ us, us = used (X ++ n :: Y) := ⟨_, rfl⟩
  obtain ⟨us0, hus0⟩ : ∃ us0, us0 = used (X ++ Y) := ⟨_, rfl⟩
  obtain ⟨nv, hnv⟩ : ∃ nv, nv = n.val.length := ⟨_, rfl⟩
  rw [← hus1, ← hus0, ← hnv] at hus
  rw [← hus1] at hlow HB2 u1 uz
  rw [← hus0] at wz
  rw [← hnv] at e1 fz uz hsz
  have HU0 := Aside0.mk hus0
  have HUS := Aside0.mk (show used (X ++ n :: Y) = us0 + (n.key.size + n.val.length) by rw [← hus1, ← hnv]; exact hus)
  clear hus1 hus0 hnv
  go_enter Try.func13, Try.ntmps13
  go_wp2_with fail
  refine hno.mono ?_
  rintro e w0 ⟨rfl, rfl⟩
  go_wp2_with fail
  refine htk.mono ?_
  rintro e w0' ⟨rfl, rfl⟩
  go_wp2_with fail
  refine start_ (S := fun w' => w'.cell? ⟨c, 1, none⟩ = some (.int .i64 us) ∧ w'.cell? ⟨n.b, 0, none⟩ = some (.string n.key) ∧ w'.cell? ⟨n.b, 1, none⟩ = some (.slice n.A nv n.c)) (ds := [12]) #[false, false, false, false, false, false, false, false, false, false, false, false, false] (by kernel_rfl) rfl rfl ⟨u1, e0, e1⟩ (fun hHeld => ?_)
  refine take_ (i := 0) (N := (some 26)) #[true, false, false, false, false, false, false, false, false, false, false, false, false] rfl rfl (by kernel_rfl) (fun _ _ _ h => h) (.inl ⟨by rfl, by (intro w hSw; (try dsimp only at hSw); go_simp <;> with_reducible rfl)⟩) hHeld rfl ?_
  (try simp only [Act.put, List.setIfInBounds_toArray, List.set_cons_zero, List.set_cons_succ])
  refine take_ (i := 1) (N := (some 27)) #[true, true, false, false, false, false, false, false, false, false, false, false, false] rfl rfl (by kernel_rfl) (fun _ _ _ h => h) (.inl ⟨by rfl, by (intro w hSw; (try dsimp only at hSw); go_simp <;> with_reducible rfl)⟩) hHeld rfl ?_
  (try simp only [Act.put, List.setIfInBounds_toArray, List.set_cons_zero, List.set_cons_succ])
  refine take_ (i := 2) (N := (some 28)) #[true, true, true, false, false, false, false, false, false, false, false, false, false] rfl rfl (by kernel_rfl) (fun _ _ _ h => h) (.inl ⟨by rfl, by (intro w hSw; (try dsimp only at hSw); go_simp <;> with_reducible rfl)⟩) hHeld rfl ?_
  (try simp only [Act.put, List.setIfInBounds_toArray, List.set_cons_zero, List.set_cons_succ])
  refine take_ (i := 3) (N := (some 29)) #[true, true, true, true, false, false, false, false, false, false, false, false, false] rfl rfl (by kernel_rfl) (fun _ _ _ h => h) (.inl ⟨by rfl, by (intro w hSw; (try dsimp only at hSw); go_simp <;> with_reducible rfl)⟩) hHeld rfl ?_
  (try simp only [Act.put, List.setIfInBounds_toArray, List.set_cons_zero, List.set_cons_succ])
  refine take_ (i := 4) (N := (some 30)) #[true, true, true, true, true, false, false, false, false, false, false, false, false] rfl rfl (by kernel_rfl) (fun _ _ _ h => h) (.inl ⟨by rfl, by (intro w hSw; (try dsimp only at hSw); go_simp <;> with_reducible rfl)⟩) hHeld rfl ?_
  (try simp only [Act.put, List.setIfInBounds_toArray, List.set_cons_zero, List.set_cons_succ])
  refine take_ (i := 5) (N := (some 31)) #[true, true, true, true, true, true, false, false, false, false, false, false, false] rfl rfl (by kernel_rfl) (fun _ _ _ h => h) (.inl ⟨by rfl, by (intro w hSw; (try dsimp only at hSw); go_simp <;> with_reducible rfl)⟩) hHeld rfl ?_
  (try simp only [Act.put, List.setIfInBounds_toArray, List.set_cons_zero, List.set_cons_succ])
  refine take_ (i := 6) (N := (some 32)) #[true, true, true, true, true, true, true, false, false, false, false, false, false] rfl rfl (by kernel_rfl) (fun _ _ _ h => h) (.inl ⟨by rfl, by (intro w hSw; (try dsimp only at hSw); go_simp <;> with_reducible rfl)⟩) hHeld rfl ?_
  (try simp only [Act.put, List.setIfInBounds_toArray, List.set_cons_zero, List.set_cons_succ])
  refine take_ (i := 7) (N := (some 33)) #[true, true, true, true, true, true, true, true, false, false, false, false, false] rfl rfl (by kernel_rfl) (fun _ _ _ h => h) (.inl ⟨by rfl, by (intro w hSw; (try dsimp only at hSw); go_simp <;> with_reducible rfl)⟩) hHeld rfl ?_
  (try simp only [Act.put, List.setIfInBounds_toArray, List.set_cons_zero, List.set_cons_succ])
  refine one_ (i := 8) (N := (some 34)) #[true, true, true, true, true, true, true, true, true, false, false, false, false] rfl rfl (by kernel_rfl) (by simp) (fun K hK => ?_)
  go_simp
  go_at_call 23
  (with_reducible refine hsz.mono ?_)
  rintro e w3 ⟨rfl, rfl⟩
  refine hK.out _ _ ⟨cellA u1, cellA e0, cellA e1⟩ (fun hHeld => ?_)
  clear hK K
  (try simp only [Act.put, List.setIfInBounds_toArray, List.set_cons_zero, List.set_cons_succ])
  refine take_ (i := 9) (N := (some 35)) #[true, true, true, true, true, true, true, true, true, true, false, false, false] rfl rfl (by kernel_rfl) (fun _ _ _ h => h) (.inl ⟨by rfl, by (intro w hSw; (try dsimp only at hSw); go_simp <;> with_reducible rfl)⟩) hHeld rfl ?_
  (try simp only [Act.put, List.setIfInBounds_toArray, List.set_cons_zero, List.set_cons_succ])
  refine take_ (i := 10) (N := (some 36)) #[true, true, true, true, true, true, true, true, true, true, true, false, false] rfl rfl (by kernel_rfl) (fun _ _ _ h => h) (.inl ⟨by rfl, by (intro w hSw; (try dsimp only at hSw); go_simp <;> with_reducible rfl)⟩) hHeld rfl ?_
  (try simp only [Act.put, List.setIfInBounds_toArray, List.set_cons_zero, List.set_cons_succ])
  refine take_ (i := 11) (N := (some 37)) #[true, true, true, true, true, true, true, true, true, true, true, true, false] rfl rfl (by kernel_rfl) (fun _ _ _ h => h) (.inl ⟨by rfl, by (intro w hSw; (try dsimp only at hSw); go_simp <;> with_reducible rfl)⟩) hHeld rfl ?_
  (try simp only [Act.put, List.setIfInBounds_toArray, List.set_cons_zero, List.set_cons_succ])
  refine last_ (i := 12) (N := none) #[true, true, true, true, true, true, true, true, true, true, true, true, true] rfl rfl (by kernel_rfl) (by simp) (fun K hK => ?_)
  
  go_simp
  refine hK.out _ _ ?_
  clear hK K
  (try simp only [Act.put, List.setIfInBounds_toArray, List.set_cons_zero, List.set_cons_succ])
  refine done_ (by kernel_rfl) ?_
  go_wp2
  go_ret
  have HE := drop_end H.out HF1.out HR1.out HT2.out HM2.out HB2.out (.cells #[.string n.key, .slice n.A nv n.c] 57) us0 HU0.out HUS.out
  exact ⟨rfl, HE.1, HE.2⟩
end Go.Proofs.Yteiejkkgckdihaa.Dw
