/- The law CacheBounds, walked. -/
import Derived.Test.YteiejkkgckdihaaCx
import Derived.Test.YteiejkkgckdihaaRo
import Derived.Deep.DeepCutAuto
import Derived.Deep.CutBlock
namespace Go.Proofs.Yteiejkkgckdihaa.Bo
set_option linter.unusedVariables false
open Go.Proofs.Yteiejkkgckdihaa.Dw Go.RowKit Go.Proofs.YteiejkkgckdihaaW.PrintWords Go.Proofs.YteiejkkgckdihaaW.PrintLast Go.Proofs.YteiejkkgckdihaaW.PrintMore Go.Proofs.Yteiejkkgckdihaa.Fr Go.Proofs.Yteiejkkgckdihaa.Rg Go.Proofs.Yteiejkkgckdihaa.Rk Go.Proofs.Yteiejkkgckdihaa.Mp Go.Proofs.Yteiejkkgckdihaa.Ca Go.Proofs.Yteiejkkgckdihaa.Dr Go.Proofs.Yteiejkkgckdihaa.Cl Go.Proofs.Yteiejkkgckdihaa.Pe Go.Proofs.Yteiejkkgckdihaa.Pk Go.Proofs.Yteiejkkgckdihaa.Pu Go.Proofs.Yteiejkkgckdihaa.Ge Go.Proofs.Yteiejkkgckdihaa.Kn Go.Proofs.Yteiejkkgckdihaa.Cx Go.Proofs.Yteiejkkgckdihaa.Ro
theorem lim_is (x : Int) : ∃ l : Int, wrap64 (1 + (wrap64 (x.tmod 200 + 200)).tmod 200) = l ∧ 1 ≤ l ∧ l ≤ 200 := by
  refine ⟨_, rfl, ?_⟩
  have h1 := Int.tmod_lt_of_pos x (b := 200) (by omega)
  have h2 := Int.lt_tmod_of_pos x (b := 200) (by omega)
  obtain ⟨y, hy⟩ : ∃ y, y = x.tmod 200 := ⟨_, rfl⟩
  rw [← hy] at h1 h2 ⊢
  have e : wrap64 (y + 200) = y + 200 := by unfold wrap64; omega
  rw [e, Int.tmod_eq_emod_of_nonneg (by omega)]
  unfold wrap64
  omega
theorem op_at {w : World} {A : Option Addr} {ops : List (Int × ByteArray × List Int)} (h : OpK.C w A ops.length ops) (k : Nat) (hk : k < ops.length) :
    ∃ kd s vs Av cv ad, A = some ad ∧ (kd, s, vs) ∈ ops ∧ w.cell? (ad.add (k * 3)) = some (.int .i64 kd) ∧ w.cell? ⟨(ad.add (k * 3)).block, (ad.add (k * 3)).off + 1, none⟩ = some (.string s) ∧ w.cell? ⟨(ad.add (k * 3)).block, (ad.add (k * 3)).off + 2, none⟩ = some (.slice Av vs.length cv) ∧ vs.length ≤ cv ∧ (Kd.int .u8).C w Av vs.length vs := by
  obtain ⟨ad, e, hc⟩ := h.2.2 (by omega)
  obtain ⟨c, hs, hr, hcell⟩ := hc k _ (List.getElem?_eq_getElem hk)
  obtain ⟨c0, c1, rfl, e0, c2, c3, rfl, e2, Av, cv, rfl, hcv, hC⟩ := hr
  have e0' : c0 = [.int .i64 ops[k].1] := e0
  have e2' : c2 = [.string ops[k].2.1] := e2
  subst e0' e2'
  refine ⟨ops[k].1, ops[k].2.1, ops[k].2.2, Av, cv, ad, e, List.getElem_mem hk, ?_, ?_, ?_, hcv, hC⟩
  · exact hcell 0 _ rfl
  · have h1 := hcell 1 _ rfl
    rw [show ad.add (k * OpK.sz + 1) = ⟨(ad.add (k * 3)).block, (ad.add (k * 3)).off + 1, none⟩ from (Addr.add_add ad (k * 3) 1).symm] at h1
    exact h1
  · have h2 := hcell 2 _ rfl
    rw [show ad.add (k * OpK.sz + 2) = ⟨(ad.add (k * 3)).block, (ad.add (k * 3)).off + 2, none⟩ from (Addr.add_add ad (k * 3) 2).symm] at h2
    exact h2

/-- a look at an element that is there -/
theorem peek_at {w : World} {c m r B k : Nat} {lim hi mi : Int} {X Y : List Ent} {x : Ent} (h : CX w c m r B lim k hi mi (X ++ x :: Y)) :
    Calls Try.prog 11 #[PT c, .string x.key] w fun e w' => ∃ v, e = .returned (.tuple #[v, .bool true]) ∧ Kd.R (Kd.int .u8) 5 w' w.heap.size (fun _ => True) v x.val ∧ Below w.heap.size w w' := by
  obtain ⟨nn, h, _⟩ := h
  exact peek_hit c m r nn lim hi mi X Y x w h
theorem cx_base {w : World} {c m r B k : Nat} {lim hi mi : Int} {L : List Ent} (h : CX w c m r B lim k hi mi L) : ∀ j, Own c m r L j → B ≤ j := by
  obtain ⟨nn, _, _, _, _, _, h⟩ := h
  exact h
theorem fr_below {B : Nat} {S : Nat → Prop} {w w1 w2 : World} (h : Below B w w1) (hB : B ≤ w.heap.size) (hf : Fr S w1 w2) (hS : ∀ j, S j → B ≤ j) : Below B w w2 :=
  h.trans (hf.below (Nat.le_trans hB h.size) hS)
theorem look_last {L : List Ent} {x : Ent} (h : ((L ++ [x]).map (·.key)).Nodup) {s : ByteArray} (hs : x.key = s) : (lookE (L ++ [x]) s).isSome = true := by
  subst hs
  rw [look_mid (X := L) (Y := []) h]
  rfl
theorem key_at {w : World} {A : Option Addr} {l : List ByteArray} (h : Kd.string.C w A l.length l) (k : Nat) (hk : k < l.length) : ∃ ad, A = some ad ∧ w.cell? (ad.add k) = some (.string l[k]) := by
  obtain ⟨_, _, h3⟩ := Kd.reads_of_C (d := ByteArray.empty) h
  obtain ⟨ad, e, hc⟩ := h3 (by omega)
  refine ⟨ad, e, ?_⟩
  have := hc k hk
  rw [List.getD_eq_getElem?_getD, List.getElem?_eq_getElem hk] at this
  exact this
theorem used_take {L : List Ent} {j : Nat} (hj : j < L.length) : Ca.used (L.take (j + 1)) = Ca.used (L.take j) + (L[j].key.size + L[j].val.length) := by
  rw [List.take_succ_eq_append_getElem hj, used_app]
  simp [Ca.used, esz]
theorem used_take_le {L : List Ent} (j : Nat) : Ca.used (L.take j) ≤ Ca.used L := by
  have := used_app (L.take j) (L.drop j)
  rw [List.take_append_drop] at this
  omega
set_option maxHeartbeats 4000000 in
set_option maxRecDepth 100000 in
theorem walk (lim : Int) (A : Option Addr) (c : Nat) (ops : List (Int × ByteArray × List Int)) (w : World) (hlim : (Lit.int .i64 lim).wf = true) (hC : OpK.C w A ops.length ops) (hc : ops.length ≤ c) (hl : ∀ o ∈ ops, o.2.1.size + o.2.2.length ≤ 1048576) :
    Calls Try.prog 3 #[.int .i64 lim, .slice A ops.length c] w fun e w' => e = .returned (.bool true) ∧ Below w.heap.size w w' := by
  have HC := Aside0.mk hC
  have HLE := Aside0.mk hc
  have HL := Aside0.mk hl
  obtain ⟨n, hn⟩ : ∃ n, n = ops.length := ⟨_, rfl⟩
  rw [← hn]
  have HN := Aside0.mk hn
  clear hC hc hl hn
  go_enter Try.func3, Try.ntmps3
  obtain ⟨lv, hlv, l1, l2⟩ := lim_is lim
  go_wp2_with fail
  rw [hlv]
  have HL1 := Aside0.mk l1
  have HL2 := Aside0.mk l2
  refine (new_is lv w l1 (by omega)).mono ?_
  rintro e w1 ⟨cb, m, r, rfl, h1, b1, o1⟩
  have hX1 : Aside0 (CX w1 cb m r w.heap.size lv 0 0 0 []) := Aside0.mk ⟨0, h1, by omega, by simp, by omega, by omega, o1⟩
  have B1 := Aside0.mk b1
  have hnm := num_is 0 w1
  have hkn := knows_true w1
  clear h1 b1 o1 l1 l2 hlv
  go_wp2_with fail
  refine hnm.mono ?_
  rintro e w2 ⟨rfl, rfl⟩
  go_wp2_with fail
  refine hkn.mono ?_
  rintro e w3 ⟨rfl, hb⟩
  have X3 := Aside0.mk (hX1.out.below hb)
  have B3 := Aside0.mk (below_step B1.out hb)
  clear hb hkn hnm hX1 B1
  go_wp2
  go_loopg [7] (301) (fun g s7 wx => ∃ (k : Nat) (hi mi : Int) (L : List Ent), s7 = .int .i64 (k : Int) ∧ Aside0 (k + g = 301 ∧ k ≤ 300) ∧ Aside0 (CX wx cb m r w.heap.size lv k hi mi L) ∧ Aside0 (Below w.heap.size w wx))
  case atStart => exact ⟨0, 0, 0, [], rfl, ⟨by omega, by omega⟩, X3, B3⟩
  case round =>
    obtain ⟨k, hi, mi, L, rfl, HK, HX, HB⟩ := hrel
    by_cases hgo : (k : Int) < n ∧ (k : Int) < 300
    · obtain ⟨g1, g2⟩ := hgo
      have hkl : k < ops.length := by have := HN.out; omega
      obtain ⟨kd, sk, vs, Av, cv, ad, hA, hop, a0, a1, a2, hcv, hCv⟩ := op_at (Kd.C_below HC.out HB.out) k hkl
      have HOP := Aside0.mk hop
      have HCV := Aside0.mk hCv
      have HCC := Aside0.mk hcv
      clear hop hCv hcv hkl
      subst hA
      obtain ⟨nv, hnv⟩ : ∃ nv, nv = vs.length := ⟨_, rfl⟩
      rw [← hnv] at a2
      have HNV := Aside0.mk hnv
      clear hnv
      go_upto_block 2 with fail
      obtain ⟨W1, hW1⟩ : ∃ W1, W1 = wr.alloc (.cells #[.int .i64 kd, .string sk, .slice Av nv cv] 31) := ⟨_, rfl⟩
      rw [← hW1]
      have b0 : W1.cell? ⟨wr.heap.size, 0, none⟩ = some (.int .i64 kd) := by rw [hW1]; go_simp
      have b1 : W1.cell? ⟨wr.heap.size, 1, none⟩ = some (.string sk) := by rw [hW1]; go_simp
      have b2 : W1.cell? ⟨wr.heap.size, 2, none⟩ = some (.slice Av nv cv) := by rw [hW1]; go_simp
      have BB : Below wr.heap.size wr W1 := by rw [hW1]; exact below_alloc (Below.refl _ _) _
      have HX1 : Aside0 (CX W1 cb m r w.heap.size lv k hi mi L) := ⟨HX.out.below BB⟩
      have HB1 : Aside0 (Below w.heap.size w W1) := ⟨below_step HB.out BB⟩
      have HC1 : Aside0 ((Kd.int .u8).C W1 Av vs.length vs) := ⟨Kd.C_below HCV.out BB⟩
      have HSZ := Aside0.mk (HL.out _ HOP.out)
      have HO : Aside0 (¬ Own cb m r L wr.heap.size) := ⟨fun h => by have := HX.out.own_lt h; omega⟩
      obtain ⟨bx, hbx⟩ : ∃ bx, bx = wr.heap.size := ⟨_, rfl⟩
      rw [← hbx] at b0 b1 b2 HO ⊢
      clear BB hbx hW1 a0 a1 a2 HX HB HCV
      have HWS : Aside0 (w.heap.size ≤ W1.heap.size) := ⟨HB1.out.size⟩
      go_cut [] (fun wx => ∃ (hi' mi' : Int) (L' : List Ent), Aside0 (CX wx cb m r w.heap.size lv (k + 1) hi' mi' L') ∧ Aside0 (Below w.heap.size w wx))
      case first =>
        by_cases h0 : kd = 0
        · subst h0
          have hs1 : sk.size + vs.length ≤ 9223372036854775807 := by have := HSZ.out; simp only at this; omega
          have hput := HX1.out.put (by have := HK.out; omega) HWS.out sk Av cv vs hs1 HC1.out HCC.out (by have := HSZ.out; simp only at this; omega)
          rw [← HNV.out] at hput
          clear hs1
          go_wp2_with fail
          refine hput.mono ?_
          rintro e w4 h
          rcases h with ⟨rfl, hbig, hx4, hb4⟩ | ⟨rfl, hfit, x, kx, vx, gx, hx4, hf4⟩
          · have c1 := (hb4.cell (p := ⟨bx, 1, none⟩) (World.block_lt_of_cell? _ _ b1)).trans b1
            have c2 := (hb4.cell (p := ⟨bx, 2, none⟩) (World.block_lt_of_cell? _ _ b2)).trans b2
            have HX4 := Aside0.mk hx4
            have HB4 := Aside0.mk (below_step HB1.out hb4)
            have hnm := num_is 6 w4
            have hpk := hx4.peek sk (by have := HSZ.out; simp only [maxLen] at this ⊢; omega)
            have d1 : decide ((sk.size : Int) + nv ≤ lv) = false := by simp; omega
            have d2 : IntKind.i64.wrap ((sk.size : Int) + nv) = (sk.size : Int) + nv := by
              have h1 := HSZ.out
              have h2 := HNV.out
              try simp only at h1
              rw [i64_w]
              unfold wrap64
              omega
            have D1 := Aside0.mk d1
            have D2 := Aside0.mk d2
            clear hput b0 b1 b2 hx4 hb4 hbig d1 d2
            go_wp2_with fail
            refine hnm.mono ?_
            rintro e w5 ⟨rfl, rfl⟩
            go_wp2_with fail
            refine hpk.mono ?_
            rintro e w6 ⟨v6, xs6, rfl, hR, hb6, _⟩
            have e1 := (hb6.cell (p := ⟨bx, 1, none⟩) (World.block_lt_of_cell? _ _ c1)).trans c1
            have e2 := (hb6.cell (p := ⟨bx, 2, none⟩) (World.block_lt_of_cell? _ _ c2)).trans c2
            have HX6 := Aside0.mk (HX4.out.below hb6)
            have HB6 := Aside0.mk (below_step HB4.out hb6)
            have d1 := D1.out
            have d2 := D2.out
            clear hpk hnm c1 c2 hR hb6
            go_wp2
            go_meet
            exact ⟨hi, mi, L, ⟨HX6.out.mono (by omega)⟩, HB6⟩
          · have hap := hx4.apart
            have HX4 := Aside0.mk hx4
            have HB4 := Aside0.mk (fr_below HB1.out (Nat.le_refl _) hf4 (cx_base HX1.out))
            have hnm := num_is 0 w4
            have hpk := hx4.peek sk (by have := HSZ.out; simp only [maxLen] at this ⊢; omega)
            rw [look_last hap kx] at hpk
            clear hput b0 b2 hap hfit kx vx
            have c1 : w4.cell? ⟨bx, 1, none⟩ = some (.string sk) := hf4.cell b1 HO.out
            clear b1 hf4 hx4
            go_wp2_with fail
            refine hnm.mono ?_
            rintro e w5 ⟨rfl, rfl⟩
            go_wp2_with fail
            refine hpk.mono ?_
            rintro e w6 ⟨v6, xs6, rfl, hR, hb6, _⟩
            have HX6 := Aside0.mk (HX4.out.below hb6)
            have HB6 := Aside0.mk (below_step HB4.out hb6)
            clear hpk hnm hR hb6
            go_wp2
            go_meet
            exact ⟨hi, mi, _, HX6, HB6⟩
        · by_cases h1 : kd = 1
          · subst h1
            have hget := HX1.out.get (by have := HK.out; omega) sk (by have := HSZ.out; simp only [maxLen] at this ⊢; omega)
            clear b0 b2
            go_wp2_with fail
            refine hget.mono ?_
            rintro e w4 h
            rcases h with ⟨hl4, rfl, hx4, hf4⟩ | ⟨X, n4, Y, v4, hL4, hk4, rfl, hR, hx4, hf4⟩
            · have HX4 := Aside0.mk hx4
              have HB4 := Aside0.mk (fr_below HB1.out (Nat.le_refl _) hf4 (cx_base HX1.out))
              clear hget hl4 hx4 hf4
              go_wp2
              go_meet
              exact ⟨_, _, _, HX4, HB4⟩
            · have HX4 := Aside0.mk hx4
              have HB4 := Aside0.mk (fr_below HB1.out (Nat.le_refl _) hf4 (cx_base HX1.out))
              clear hget hL4 hk4 hR hx4 hf4
              go_wp2
              go_meet
              exact ⟨_, _, _, HX4, HB4⟩
          · by_cases h3 : kd = 3
            · subst h3
              have hdr := HX1.out.drop sk (by have := HSZ.out; simp only [maxLen] at this ⊢; omega)
              clear b0 b2
              go_wp2_with fail
              refine hdr.mono ?_
              rintro e w4 ⟨rfl, hx4, hf4⟩
              have HX4 := Aside0.mk hx4
              have HB4 := Aside0.mk (fr_below HB1.out (Nat.le_refl _) hf4 (cx_base HX1.out))
              clear hdr hx4 hf4
              go_wp2
              go_meet
              exact ⟨_, _, _, ⟨HX4.out.mono (by omega)⟩, HB4⟩
            · have q0 : (kd == 0) = false := by simpa using h0
              have q1 : (kd == 1) = false := by simpa using h1
              have q3 : (kd == 3) = false := by simpa using h3
              clear h0 h1 h3 b0 b1 b2
              go_wp2
              go_meet
              exact ⟨_, _, _, ⟨HX1.out.mono (by omega)⟩, HB1⟩
      case rest =>
        obtain ⟨hi', mi', L', HX2, HB2⟩ := hcut
        clear b0 b1 b2 HX1 HB1 HC1 HO HWS
        have hks := HX2.out.keys (by have := HK.out; omega)
        go_wp2_with fail
        refine hks.mono ?_
        rintro e w5 ⟨vk, rfl, hR, hb5⟩
        obtain ⟨Ak, ck, rfl, hck, hCk⟩ := Kd.R_reads hR
        have HX5 := Aside0.mk (HX2.out.below hb5)
        have HB5 := Aside0.mk (below_step HB2.out hb5)
        have HCK := Aside0.mk hCk
        obtain ⟨nk, hnk⟩ : ∃ nk, nk = (keysOf L').length := ⟨_, rfl⟩
        rw [← hnk] at hck ⊢
        have HNK := Aside0.mk hnk
        have HCC2 := Aside0.mk hck
        have HLO : Aside0 ((Ca.used L' : Int) ≤ lv) := ⟨HX5.out.low⟩
        have hLK : nk ≤ 1000000 := by
          obtain ⟨_, _, _, h2, _⟩ := HX5.out
          have := HK.out
          rw [hnk]
          simp only [keysOf, List.length_map]
          omega
        have HLK := Aside0.mk hLK
        clear hks hR hb5 hCk hnk hck hLK
        obtain ⟨ga, rfl⟩ : ∃ ga, ga = gk := ⟨_, rfl⟩
        obtain ⟨wo, rfl⟩ : ∃ wo, wo = wr := ⟨_, rfl⟩
        go_wp2
        go_loopg [12, 14] nk (fun g s12 s14 wx => ∃ j : Nat, s14 = .int .i64 (j : Int) ∧ s12 = .int .i64 ((Ca.used (L'.take j) : Nat) : Int) ∧ Aside0 (j + g = nk) ∧ Aside0 (CX wx cb m r w.heap.size lv (k + 1) hi' mi' L') ∧ Aside0 (Below w5.heap.size w5 wx))
        case atStart => exact ⟨0, rfl, by simp [Ca.used], ⟨by omega⟩, HX5, ⟨Below.refl _ _⟩⟩
        case round =>
          obtain ⟨j, rfl, rfl, HJ, HXr, HBr⟩ := hrel
          have hjn : j ≤ nk := by have := HJ.out; omega
          have hmx : nk ≤ 1000000 := HLK.out
          obtain ⟨tot, htot⟩ : ∃ tot : Int, tot = (Ca.used (L'.take j) : Nat) := ⟨_, rfl⟩
          have ht0 : 0 ≤ tot := by omega
          have ht1 : tot ≤ 200 := by
            have h1 := used_take_le (L := L') j
            have h2 := HLO.out
            have h3 := HL2.out
            omega
          rw [← htot]
          by_cases hlt : (j : Int) < nk
          · have hlL : j < L'.length := by
              have h2 := HNK.out
              simp only [keysOf, List.length_map] at h2
              omega
            have hsp : L' = L'.take j ++ L'[j] :: L'.drop (j + 1) := by
              rw [← List.drop_eq_getElem_cons hlL, List.take_append_drop]
            have hpk : Calls Try.prog 11 #[PT cb, .string L'[j].key] wr fun e w' => ∃ v, e = .returned (.tuple #[v, .bool true]) ∧ Kd.R (Kd.int .u8) 5 w' wr.heap.size (fun _ => True) v L'[j].val ∧ Below wr.heap.size wr w' := by
              have hx := HXr.out
              rw [hsp] at hx
              exact peek_at hx
            obtain ⟨ak, hAk, hck⟩ := key_at HCK.out j (by have h2 := HNK.out; omega)
            have hkj : (keysOf L')[j]'(by have h2 := HNK.out; omega) = L'[j].key := by simp [keysOf]
            rw [hkj] at hck
            obtain ⟨kj, hkj2⟩ : ∃ kj, kj = L'[j].key := ⟨_, rfl⟩
            obtain ⟨vj, hvj⟩ : ∃ vj, vj = L'[j].val := ⟨_, rfl⟩
            have hut := used_take hlL
            have hul := used_take_le (L := L') (j + 1)
            rw [← hkj2] at hpk hck hut
            rw [← hvj] at hpk hut
            have c1 : wr.cell? (ak.add j) = some (.string kj) := (HBr.out.cell (World.block_lt_of_cell? _ _ hck)).trans hck
            have HUT := Aside0.mk hut
            have HUL := Aside0.mk hul
            have HT := Aside0.mk htot
            subst hAk
            clear hkj hkj2 hvj hsp hlL hut hul htot
            have c0 := HCK.out
            clear c0
            go_wp2_with fail
            refine hpk.mono ?_
            rintro e w7 ⟨v7, rfl, hR7, hb7⟩
            obtain ⟨A7, c7, rfl, hc7, hC7⟩ := Kd.R_reads hR7
            have e1 : w7.cell? (ak.add j) = some (.string kj) := (hb7.cell (World.block_lt_of_cell? _ _ c1)).trans c1
            have HX7 := Aside0.mk (HXr.out.below hb7)
            have HB7 := Aside0.mk (below_then HBr.out HBr.out.size hb7)
            obtain ⟨n7, hn7⟩ : ∃ n7, n7 = vj.length := ⟨_, rfl⟩
            have hs7 : tot + kj.size + n7 ≤ 200 := by
              have h1 := HUT.out
              have h2 := HUL.out
              have h3 := HLO.out
              have h4 := HL2.out
              have h5 := HT.out
              omega
            rw [← hn7]
            have HN7 := Aside0.mk hn7
            clear hpk c1 hck hR7 hb7 hC7 hc7 hn7
            go_wp2
            go_roundg (gk - 1)
            case measure => have := HJ.out; omega
            case rel =>
              refine ⟨j + 1, by go_num, ?_, ⟨by have := HJ.out; omega⟩, HX7, HB7⟩
              congr 1
              have h1 := HUT.out
              have h5 := HT.out
              have h7 := HN7.out
              omega
          · have hjk : j = nk := by omega
            have htk : tot = (Ca.used L' : Nat) := by
              rw [htot, List.take_of_length_le]
              have h2 := HNK.out
              simp only [keysOf, List.length_map] at h2
              omega
            have hus := HXr.out.used
            have hlo := HLO.out
            rw [← htk] at hus hlo
            have HB9 := Aside0.mk (below_then HB5.out HB5.out.size HBr.out)
            have HT := Aside0.mk htk
            clear hjk htk htot
            go_wp2_with fail
            refine hus.mono ?_
            rintro e w8 ⟨rfl, rfl⟩
            go_wp2
            go_roundg (ga - 1)
            case measure => have := HK.out; omega
            case rel => exact ⟨k + 1, hi', mi', L', by go_num, ⟨by have := HK.out; omega, by have := HK.out; omega⟩, HXr, HB9⟩
    · have hstop : (decide ((k : Int) < n) && decide ((k : Int) < 300)) = false := by
        by_cases h1 : (k : Int) < n
        · have h2 : ¬ (k : Int) < 300 := fun h => hgo ⟨h1, h⟩
          simp [h2]
        · simp [h1]
      by_cases h1 : (k : Int) < n
      · have h2 : ¬ (k : Int) < 300 := fun h => hgo ⟨h1, h⟩
        clear hstop hgo
        go_wp2
        go_ret
        exact ⟨rfl, HB.out⟩
      · clear hstop hgo
        go_wp2
        go_ret
        exact ⟨rfl, HB.out⟩
end Go.Proofs.Yteiejkkgckdihaa.Bo
