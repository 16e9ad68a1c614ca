/- A decoder's Text, of the program and of the document, for any bytes. -/
import Derived.Test.YtgafnjgiikdofaaGreatDoorCp
import Derived.WalkSpells
namespace Go.Proofs.YtgafnjgiikdofaaGreatDoor.Dt
set_option linter.unusedVariables false
set_option linter.unusedSimpArgs false
open Go.RowKit Go.Proofs.YtgafnjgiikdofaaGreatDoorW.PrintWords Go.Proofs.YtgafnjgiikdofaaGreatDoorW.PrintLast Go.Proofs.YtgafnjgiikdofaaGreatDoorW.PrintMore
open Go.Proofs.YtgafnjgiikdofaaGreatDoor.B Go.Proofs.YtgafnjgiikdofaaGreatDoor.Xc Go.Proofs.YtgafnjgiikdofaaGreatDoor.Xd Go.Proofs.YtgafnjgiikdofaaGreatDoor.Xe Go.Proofs.YtgafnjgiikdofaaGreatDoor.Xl Go.Proofs.YtgafnjgiikdofaaGreatDoor.Xr Go.Proofs.YtgafnjgiikdofaaGreatDoor.Fr Go.Proofs.YtgafnjgiikdofaaGreatDoor.Cp
/-- a text read: what it is; the bytes that are left, and the error -/
def textR (xs : List Int) (n : Int) (ys : List Int) (e1 : Int) : ByteArray × List Int × Int :=
  if e1 ≠ 0 then (⟨#[]⟩, xs, e1) else if n > 65536 then (⟨#[]⟩, xs, 21) else if n > ys.length then (⟨#[]⟩, xs, 20) else (strOfNums (ys.take n.toNat), ys.drop n.toNat, 0)
def decT (xs : List Int) (er : Int) : ByteArray × List Int × Int := textR xs (stepD xs er).1 (stepD xs er).2.1 (stepD xs er).2.2
theorem dn_val : ∀ f xs acc (i : Nat), Byts xs → f + i ≤ 8 → 0 ≤ acc → acc < 128 ^ i → 0 ≤ (dn f xs acc i).1 ∧ (dn f xs acc i).1 < 72057594037927936
  | 0, xs, acc, i, hb, hf, h0, h1 => by unfold dn; exact ⟨Int.le_refl _, by show (0 : Int) < _; omega⟩
  | f + 1, [], acc, i, hb, hf, h0, h1 => by unfold dn; exact ⟨Int.le_refl _, by show (0 : Int) < _; omega⟩
  | f + 1, c :: r, acc, i, hb, hf, h0, h1 => by
    have hc := hb c (by simp)
    obtain ⟨p1, p2, p3⟩ := pow_bd i (by omega)
    have hm := mul_bd (c := c % 128) (p := 128 ^ i) (by omega) (by omega) p1
    have ha : 0 ≤ acc + c % 128 * 128 ^ i ∧ acc + c % 128 * 128 ^ i < 128 ^ (i + 1) := by rw [p3]; omega
    unfold dn
    split
    · split
      · exact ⟨Int.le_refl _, by show (0 : Int) < _; omega⟩
      · rename_i hlt _
        have e : c % 128 = c := by omega
        rw [e] at ha hm
        first
          | (refine ⟨?_, ?_⟩ <;> (show _ ; rw [p3] at ha; omega))
          | (rw [e]; refine ⟨?_, ?_⟩ <;> (show _ ; rw [p3] at ha; omega))
    · exact dn_val f r _ (i + 1) (fun x hx => hb x (by simp [hx])) (by omega) ha.1 ha.2
theorem stepD_val (xs : List Int) (er : Int) (hb : Byts xs) : 0 ≤ (stepD xs er).1 ∧ (stepD xs er).1 < 72057594037927936 := by
  unfold stepD
  split
  · exact dn_val 8 xs 0 0 hb (by omega) (by omega) (by simp)
  · exact ⟨Int.le_refl _, by show (0 : Int) < _; omega⟩
set_option maxHeartbeats 4000000 in
set_option maxRecDepth 100000 in
theorem ptext_any (N b : Nat) (w : World) (xs : List Int) (er : Int) (h : PDec w N b xs er) :
    Calls Tryz.prog 79 #[.pointer (some ⟨b, 0, none⟩)] w fun e w' => e = .returned (.string (decT xs er).1) ∧ PDec w' N b (decT xs er).2.1 (decT xs er).2.2 ∧ Fr (fun k => k = b) w w' := by
  have HP := Aside0.mk (pnumber_any N b w xs er h)
  obtain ⟨A, c, hblk, hc, hC, hne, hby, hlx, hbN, hAN⟩ := h
  have hval := stepD_val xs er hby
  unfold decT
  obtain ⟨⟨n, ys, e1⟩, hd⟩ : ∃ d, d = stepD xs er := ⟨_, rfl⟩
  rw [← hd] at HP hval ⊢
  simp only at HP hval ⊢
  clear hd
  have c0 := blk_cell hblk 0
  have c2 := blk_cell hblk 2
  simp at c0 c2
  have HNO := Aside0.mk (none_false b w c2)
  have HO := Aside0.mk (And.intro hc (And.intro hC (And.intro hne (And.intro hby (And.intro hlx (And.intro hbN hAN))))))
  obtain ⟨L, hL⟩ : ∃ L, L = xs.length := ⟨_, rfl⟩
  rw [← hL] at c0
  have HL := Aside0.mk hL
  clear hblk hc hC hne hby hlx hbN hAN c2 hL
  go_enter Tryz.func79, Tryz.ntmps79
  go_wp2_with fail
  refine HNO.out.mono ?_
  rintro e w' ⟨rfl, rfl⟩
  go_wp2_with fail
  refine HP.out.mono ?_
  rintro e w1 ⟨rfl, ⟨A1, k1, hb1, hc1, hC1, hne1, hby1, hl1, hbN1, hAN1⟩, fr⟩
  have FR := Aside0.mk fr
  have HB1 := Aside0.mk hb1
  have x0 := blk_cell hb1 0
  have x1 := blk_cell hb1 1
  have f0 := blk_frozen hb1 0
  have f1 := blk_frozen hb1 1
  simp at x0 x1
  -- back to the bytes that were, under whatever error
  have back : ∀ (e2 : Int) (W : World), W.heap[b]? = some (.cells #[.slice A xs.length c, .int .i64 e2, .bool true] 135 (0, 0)) → Fr (fun k => k = b) w W → PDec W N b xs e2 := by
    intro e2 W hW hf
    obtain ⟨hc, hC, hne, hby, hlx, hbN, hAN⟩ := HO.out
    exact ⟨A, c, hW, hc, hf.C hC (fun ad e hp => hne ad e hp), hne, hby, hlx, hbN, hAN⟩
  have BACK := Aside0.mk back
  clear c0 HP HNO back fr
  by_cases he : e1 = 0
  · have t1 : (e1 != 0) = false := by simpa using he
    have t2 : (e1 == 0) = true := by simpa using he
    subst he
    obtain ⟨m, hm⟩ : ∃ m : Nat, (m : Int) = n := ⟨n.toNat, by omega⟩
    subst hm
    by_cases h1 : 65536 < m
    · have HT : Aside0 (textR xs (m : Int) ys 0 = (⟨#[]⟩, xs, 21)) := ⟨by unfold textR; rw [if_neg (by simp), if_pos (by omega)]⟩
      have h1z : (65536 : Int) < (m : Int) := by omega
      clear hb1 hc1 hC1 hne1 hby1 hl1 hbN1 hAN1 hval
      go_wp2
      go_ret
      rw [HT.out]
      refine ⟨rfl, BACK.out _ _ ?_ (Fr.setCell (S := fun k => k = b) (Fr.setCell (S := fun k => k = b) FR.out (.inl rfl) _) (.inl rfl) _), Fr.setCell (S := fun k => k = b) (Fr.setCell (S := fun k => k = b) FR.out (.inl rfl) _) (.inl rfl) _⟩
      rw [← HL.out]
      exact blk_put (blk_put HB1.out 1 _ rfl) 0 _ rfl
    · have h1z : ¬ (65536 : Int) < (m : Int) := by omega
      by_cases h2 : ys.length < m
      · have HT : Aside0 (textR xs (m : Int) ys 0 = (⟨#[]⟩, xs, 20)) := ⟨by unfold textR; rw [if_neg (by simp), if_neg (by omega), if_pos (by omega)]⟩
        obtain ⟨K, hK⟩ : ∃ K, K = ys.length := ⟨_, rfl⟩
        rw [← hK] at x0 h2
        have h2z : (K : Int) < (m : Int) := by omega
        clear hb1 hc1 hC1 hne1 hby1 hl1 hbN1 hAN1 hval hK
        go_wp2
        go_ret
        rw [HT.out]
        refine ⟨rfl, BACK.out _ _ ?_ (Fr.setCell (S := fun k => k = b) (Fr.setCell (S := fun k => k = b) FR.out (.inl rfl) _) (.inl rfl) _), Fr.setCell (S := fun k => k = b) (Fr.setCell (S := fun k => k = b) FR.out (.inl rfl) _) (.inl rfl) _⟩
        rw [← HL.out]
        exact blk_put (blk_put HB1.out 1 _ rfl) 0 _ rfl
      · have HT : Aside0 (textR xs (m : Int) ys 0 = (strOfNums (ys.take m), ys.drop m, 0)) := ⟨by unfold textR; rw [if_neg (by simp), if_neg (by omega), if_neg (by omega), Int.toNat_natCast]⟩
        have HCT := Kd.C_take (m := m) hC1 (by omega)
        have HCD := Aside0.mk (Kd.C_drop (m := m) hC1 (by omega) hc1)
        have htl : (ys.take m).length = m := by rw [List.length_take]; omega
        obtain ⟨i0, hi0, _, hsz, _⟩ := info_parts info5'
        obtain ⟨A', hA'⟩ : ∃ A', A' = (if k1 = m then A1 else A1.map fun x => x.add (m * 1)) := ⟨_, rfl⟩
        have HA' := Aside0.mk hA'
        have hto := cut_to (P := Tryz.prog) 48 5 .i64 Tryz.underlying48 hi0 A1 ys.length k1 (m : Int) (by omega) (by omega) (by omega)
        have hcut := cut_from (P := Tryz.prog) 48 5 .i64 Tryz.underlying48 hi0 1 hsz A1 ys.length k1 (m : Int) (by omega) (by omega)
        rw [Int.toNat_natCast] at hcut hto
        rw [← hA'] at hcut
        have hcv := Kd.C_string (P := Tryz.prog) (c := k1) Tryz.underlying48 Tryz.underlying5 Tryz.underlying9 HCT
        rw [htl] at hcv
        have HX := Aside0.mk (And.intro hne1 (And.intro hby1 (And.intro hl1 (And.intro hbN1 (And.intro hAN1 hc1)))))
        obtain ⟨K, hK⟩ : ∃ K, K = ys.length := ⟨_, rfl⟩
        have HKK := Aside0.mk hK
        obtain ⟨S, hS⟩ : ∃ S, S = strOfNums (ys.take m) := ⟨_, rfl⟩
        have HS := Aside0.mk hS
        rw [← hK] at x0 h2 hto hcut hc1
        rw [← hS] at hcv
        have h2z : ¬ (K : Int) < (m : Int) := by omega
        have h3z : (m : Int) ≤ (K : Int) := by omega
        have h4z : (m : Int) ≤ (k1 : Int) := by omega
        clear hb1 hC1 hne1 hby1 hl1 hbN1 hAN1 hval hK hS htl hA' HCT
        go_wp2
        go_ret
        rw [HT.out]
        have f2 : Fr (fun k => k = b) w1 (w1.setCell ⟨b, 0, none⟩ (.slice A' (K - m) (k1 - m))) := Fr.setCell (S := fun k => k = b) (Fr.refl _ w1) (.inl rfl) _
        obtain ⟨hne1, hby1, hl1, hbN1, hAN1, hc1'⟩ := HX.out
        have far := far_P (Q := fun k => k ≠ b) HA'.out hne1
        have farN := far_P (Q := fun k => k < N) HA'.out hAN1
        have e : (if k1 = m then A1 else A1.map (fun x => x.add (m * (Kd.int .u8).sz))) = A' := by rw [HA'.out]; rfl
        have hD := HCD.out
        rw [e] at hD
        have hl : (ys.drop m).length = K - m := by rw [List.length_drop, HKK.out]
        rw [← HS.out]
        show _ ∧ PDec _ N b (ys.drop m) 0 ∧ _
        refine ⟨rfl, ⟨A', k1 - m, ?_, by omega, f2.C hD (fun ad e h => far ad e (by have := HKK.out; omega)), fun ad e h => far ad e (by have := HKK.out; omega), fun x hx => hby1 x (List.mem_of_mem_drop hx), by have := HKK.out; omega, hbN1, fun ad e h => farN ad e (by have := HKK.out; omega)⟩, Fr.setCell (S := fun k => k = b) FR.out (.inl rfl) _⟩
        rw [hl]
        exact blk_put HB1.out 0 _ rfl
  · have HT : Aside0 (textR xs n ys e1 = (⟨#[]⟩, xs, e1)) := ⟨by unfold textR; rw [if_pos he]⟩
    have t1 : (e1 != 0) = true := by simpa using he
    have t2 : (e1 == 0) = false := by simpa using he
    clear hb1 hc1 hC1 hne1 hby1 hl1 hbN1 hAN1 hval he
    go_wp2
    go_ret
    rw [HT.out]
    refine ⟨rfl, BACK.out _ _ ?_ (Fr.setCell (S := fun k => k = b) FR.out (.inl rfl) _), Fr.setCell (S := fun k => k = b) FR.out (.inl rfl) _⟩
    rw [← HL.out]
    exact blk_put HB1.out 0 _ rfl
set_option maxHeartbeats 4000000 in
set_option maxRecDepth 100000 in
theorem rtext_any (N b : Nat) (w : World) (zs : List Int) (er : Int) (h : RDec w N b zs er) :
    Calls Tryz.prog 111 #[.pointer (some ⟨b, 0, none⟩)] w fun e w' => e = .returned (.string (decT zs er).1) ∧ RDec w' N b (decT zs er).2.1 (decT zs er).2.2 ∧ Fr (fun k => k = b) w w' := by
  obtain ⟨A, c, xs, a, hx⟩ := h
  have HP := Aside0.mk (rnumber_x N b w A c xs a zs er hx)
  obtain ⟨hblk, hc, hC, hne, hzs, ha, hby, hlx, hbN, hAN⟩ := hx
  have hval := stepD_val zs er (by rw [hzs]; exact fun x hx => hby x (List.mem_of_mem_drop hx))
  unfold decT
  obtain ⟨⟨n, ys, e1⟩, hd⟩ : ∃ d, d = stepD zs er := ⟨_, rfl⟩
  rw [← hd] at HP hval ⊢
  simp only at HP hval ⊢
  clear hd
  have c1 := blk_cell hblk 1
  simp at c1
  have HZS := Aside0.mk (And.intro hzs ha)
  clear hblk hc hC hne hzs ha hby hlx hbN hAN
  go_enter Tryz.func111, Tryz.ntmps111
  go_wp2_with fail
  refine HP.out.mono ?_
  rintro e w1 ⟨rfl, ⟨a', hx1, hback⟩, fr⟩
  have FR := Aside0.mk fr
  have HLEFT := Aside0.mk (rleft_any N b w1 ys e1 ⟨A, c, xs, a', hx1⟩)
  obtain ⟨hb1, hc1, hC1, hne1, hys1, ha1, hby1, hl1, hbN1, hAN1⟩ := hx1
  have HB1 := Aside0.mk hb1
  have x0 := blk_cell hb1 0
  have x1 := blk_cell hb1 1
  have x2 := blk_cell hb1 2
  have f1 := blk_frozen hb1 1
  have f2 := blk_frozen hb1 2
  simp at x0 x1 x2
  have HC1 := Aside0.mk hC1
  have HYS := Aside0.mk hys1
  have HX := Aside0.mk (And.intro hc1 (And.intro hne1 (And.intro ha1 (And.intro hby1 (And.intro hl1 (And.intro hbN1 hAN1))))))
  have HBK := Aside0.mk hback
  -- at a place, under whatever error
  have back : ∀ (a2 : Nat) (e2 : Int) (W : World), a2 ≤ xs.length → W.heap[b]? = some (.cells #[.slice A xs.length c, .int .i64 (a2 : Int), .int .i64 e2] 139 (0, 0)) → Fr (fun k => k = b) w1 W → RDec W N b (xs.drop a2) e2 := by
    intro a2 e2 W h2 hW hf
    obtain ⟨hc, hne, ha, hby, hl, hbN, hAN⟩ := HX.out
    exact ⟨A, c, xs, a2, hW, hc, hf.C HC1.out (fun ad e hp => hne ad e hp), hne, rfl, h2, hby, hl, hbN, hAN⟩
  have BACK := Aside0.mk back
  obtain ⟨L, hL⟩ : ∃ L, L = xs.length := ⟨_, rfl⟩
  have HL := Aside0.mk hL
  rw [← hL] at x0
  clear c1 HP back fr hb1 hC1 hne1 hys1 hby1 hl1 hbN1 hAN1 hback
  by_cases he : e1 = 0
  · have t1 : (e1 != 0) = false := by simpa using he
    have t2 : (e1 == 0) = true := by simpa using he
    subst he
    obtain ⟨m, hm⟩ : ∃ m : Nat, (m : Int) = n := ⟨n.toNat, by omega⟩
    subst hm
    by_cases h1 : 65536 < m
    · have HT : Aside0 (textR zs (m : Int) ys 0 = (⟨#[]⟩, zs, 21)) := ⟨by unfold textR; rw [if_neg (by simp), if_pos (by omega)]⟩
      have h1z : (65536 : Int) < (m : Int) := by omega
      clear hval hL hc1 ha1
      go_wp2
      go_ret
      rw [HT.out, HZS.out.1]
      refine ⟨rfl, BACK.out _ _ _ HZS.out.2 ?_ (Fr.setCell (S := fun k => k = b) (Fr.setCell (S := fun k => k = b) (Fr.refl _ _) (.inl rfl) _) (.inl rfl) _), Fr.setCell (S := fun k => k = b) (Fr.setCell (S := fun k => k = b) FR.out (.inl rfl) _) (.inl rfl) _⟩
      exact blk_put (blk_put HB1.out 2 _ rfl) 1 _ rfl
    · have h1z : ¬ (65536 : Int) < (m : Int) := by omega
      obtain ⟨K, hK⟩ : ∃ K, K = ys.length := ⟨_, rfl⟩
      have HKK := Aside0.mk hK
      have HLE := HLEFT.out
      rw [← hK] at HLE
      have HLEFT2 := Aside0.mk HLE
      clear HLE hK
      by_cases h2 : K < m
      · have HT : Aside0 (textR zs (m : Int) ys 0 = (⟨#[]⟩, zs, 20)) := ⟨by unfold textR; rw [if_neg (by simp), if_neg (by omega), if_pos (by have := HKK.out; omega)]⟩
        have h2z : (K : Int) < (m : Int) := by omega
        clear hval hL hc1 ha1
        go_wp2_with fail
        refine HLEFT2.out.mono ?_
        rintro e w2 ⟨rfl, nd, rfl⟩
        go_wp2
        go_ret
        rw [HT.out, HZS.out.1]
        refine ⟨rfl, BACK.out _ _ _ HZS.out.2 ?_ (Fr.setCell (S := fun k => k = b) (Fr.setCell (S := fun k => k = b) ((Fr.refl _ _).drewN _) (.inl rfl) _) (.inl rfl) _), Fr.setCell (S := fun k => k = b) (Fr.setCell (S := fun k => k = b) (FR.out.drewN _) (.inl rfl) _) (.inl rfl) _⟩
        exact blk_put (blk_put (blk_drewN HB1.out _) 2 _ rfl) 1 _ rfl
      · have h2z : ¬ (K : Int) < (m : Int) := by omega
        have hyl : K = L - a' := by rw [HKK.out, HYS.out, List.length_drop, HL.out]
        have ha2 : a' ≤ L := by rw [hL]; exact ha1
        have hxm := HX.out.2.2.2.2.1
        have HT : Aside0 (textR zs (m : Int) ys 0 = (strOfNums (ys.take m), ys.drop m, 0)) := ⟨by unfold textR; rw [if_neg (by simp), if_neg (by omega), if_neg (by have := HKK.out; omega), Int.toNat_natCast]⟩
        obtain ⟨p, hp⟩ : ∃ p : Nat, (a' : Int) + (m : Int) = (p : Int) := ⟨a' + m, by omega⟩
        have hsub : IntKind.i64.wrap ((p : Int) - (m : Int)) = (a' : Int) := by rw [i64_w, Go.IntWalk.wrap64_in _ (by omega)]; omega
        have hsub2 : (p : Int) - (m : Int) = (a' : Int) := by omega
        have hwa : IntKind.i64.wrap (a' : Int) = (a' : Int) := by rw [i64_w, Go.IntWalk.wrap64_in _ (by omega)]
        have hpL : p ≤ L := by omega
        have hpa : p = a' + m := by omega
        obtain ⟨i0, hi0, _, hsz, _⟩ := info_parts info5'
        have hD := Kd.C_drop (m := a') HC1.out ha1 hc1
        have hTk := Kd.C_take (m := m) hD (by rw [List.length_drop]; omega)
        have htl : ((xs.drop a').take m).length = m := by rw [List.length_take, List.length_drop]; omega
        obtain ⟨A', hA'⟩ : ∃ A', A' = (if c = a' then A else A.map fun x => x.add (a' * 1)) := ⟨_, rfl⟩
        have e : (if c = a' then A else A.map (fun x => x.add (a' * (Kd.int .u8).sz))) = A' := by rw [hA']; rfl
        rw [e] at hTk
        have hmid := cut_mid (P := Tryz.prog) 48 5 .i64 .i64 Tryz.underlying48 hi0 1 hsz A L c (a' : Int) (p : Int) (by omega) (by omega) (by omega) (by omega)
        rw [Int.toNat_natCast, Int.toNat_natCast, ← hA'] at hmid
        have hpm : p - a' = m := by omega
        rw [hpm] at hmid
        obtain ⟨S, hS⟩ : ∃ S, S = strOfNums (ys.take m) := ⟨_, rfl⟩
        have HS := Aside0.mk hS
        have hyt : (xs.drop a').take m = ys.take m := by rw [HYS.out]
        rw [hyt] at hTk htl
        have HTK := Aside0.mk hTk
        have HA' := Aside0.mk hA'
        have HTL := Aside0.mk htl
        have HPA := Aside0.mk hpa
        have HPL := Aside0.mk hpL
        have hp0 : (0 : Int) ≤ (p : Int) := by omega
        have hpw : wrap64 (p : Int) = (p : Int) := by unfold wrap64; omega
        clear hval hL hc1 ha1 hyl ha2 hxm hD hTk htl hyt e hS hpa hpL hpm hA'
        go_wp2_with fail
        refine HLEFT2.out.mono ?_
        rintro e w2 ⟨rfl, nd, rfl⟩
        go_upto_region 11 with fail
        obtain ⟨w3, hw3⟩ : ∃ w3, w3 = (w1.drewN nd).setCell ⟨b, 1, none⟩ (.int .i64 (p : Int)) := ⟨_, rfl⟩
        rw [← hw3]
        have HB3 : Aside0 (w3.heap[b]? = some (.cells #[.slice A xs.length c, .int .i64 (p : Int), .int .i64 0] 139 (0, 0))) := ⟨by rw [hw3]; exact blk_put (blk_drewN HB1.out _) 1 _ rfl⟩
        have HF3 : Aside0 (Fr (fun k => k = b) w1 w3) := ⟨by rw [hw3]; exact Fr.setCell (S := fun k => k = b) ((Fr.refl _ _).drewN _) (.inl rfl) _⟩
        have y0 := blk_cell HB3.out 0
        have y1 := blk_cell HB3.out 1
        simp at y0 y1
        rw [← HL.out] at y0
        have hT3 : (Kd.int .u8).C w3 A' (ys.take m).length (ys.take m) := HF3.out.C HTK.out (fun ad e h => by
          have hk := HTL.out
          have hy := congrArg List.length HYS.out
          rw [List.length_drop] at hy
          rw [hk] at h
          have := HKK.out
          exact far_P (Q := fun k => k ≠ b) HA'.out HX.out.2.1 ad e (by omega))
        have hcv := fun q => Kd.C_string (P := Tryz.prog) (c := c - a') Tryz.underlying48 Tryz.underlying5 Tryz.underlying9 (Kd.C_drewN hT3 q)
        rw [HTL.out, ← HS.out] at hcv
        clear hT3 hw3 x0 x1 x2 f1 f2
        go_quiet (fail)
        go_wp2
        go_ret
        rw [HT.out, ← HS.out]
        refine ⟨rfl, ?_, (FR.out.trans HF3.out).drewN _⟩
        have hb4 := BACK.out p 0 (w3.drewN nq) (by rw [← HL.out]; exact HPL.out) (blk_drewN HB3.out _) (HF3.out.drewN _)
        have hys2 : xs.drop p = ys.drop m := by rw [HYS.out, List.drop_drop, HPA.out]
        rw [hys2] at hb4
        exact hb4
  · have HT : Aside0 (textR zs n ys e1 = (⟨#[]⟩, zs, e1)) := ⟨by unfold textR; rw [if_pos he]⟩
    have t1 : (e1 != 0) = true := by simpa using he
    have t2 : (e1 == 0) = false := by simpa using he
    clear hval hL hc1 ha1 he
    go_wp2
    go_ret
    rw [HT.out, HZS.out.1]
    refine ⟨rfl, BACK.out _ _ _ HZS.out.2 ?_ (Fr.setCell (S := fun k => k = b) (Fr.refl _ _) (.inl rfl) _), Fr.setCell (S := fun k => k = b) FR.out (.inl rfl) _⟩
    exact blk_put HB1.out 1 _ rfl
end Go.Proofs.YtgafnjgiikdofaaGreatDoor.Dt
