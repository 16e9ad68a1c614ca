/- The law CachePlays, walked. -/
import Derived.Test.YteiejkkgckdihaaSp
import Derived.Test.YteiejkkgckdihaaRo
namespace Go.Proofs.Yteiejkkgckdihaa.Pl
set_option linter.unusedVariables false
set_option linter.unusedSimpArgs false
open Go.Proofs.Yteiejkkgckdihaa.Sp Go.Proofs.Yteiejkkgckdihaa.Ro Go.Proofs.Yteiejkkgckdihaa.Ps Go.Proofs.Yteiejkkgckdihaa.Pk Go.Proofs.Yteiejkkgckdihaa.Kn Go.Proofs.Yteiejkkgckdihaa.Sy Go.Proofs.Yteiejkkgckdihaa.Rt Go.Proofs.Yteiejkkgckdihaa.Rq Go.Proofs.Yteiejkkgckdihaa.Rc Go.Proofs.Yteiejkkgckdihaa.Dw Go.RowKit Go.Proofs.YteiejkkgckdihaaW.PrintWords Go.Proofs.YteiejkkgckdihaaW.PrintLast Go.Proofs.YteiejkkgckdihaaW.PrintMore Go.Proofs.Yteiejkkgckdihaa.Fr Go.Proofs.Yteiejkkgckdihaa.Rg Go.Proofs.Yteiejkkgckdihaa.Mp Go.Proofs.Yteiejkkgckdihaa.Ca Go.Proofs.Yteiejkkgckdihaa.Dr Go.Proofs.Yteiejkkgckdihaa.Pu Go.Proofs.Yteiejkkgckdihaa.Ge Go.Proofs.Yteiejkkgckdihaa.Cx Go.Proofs.Yteiejkkgckdihaa.Bo Go.Proofs.Yteiejkkgckdihaa.Mv
/-- a call of the list, in a later world -/
theorem op_now {w wr : World} {A : Option Addr} {ops : List (Int × ByteArray × List Int)} (h : OpK.C w A ops.length ops) (hl : ∀ o ∈ ops, o.2.1.size + o.2.2.length ≤ 1048576) (hb : Below w.heap.size w wr) (k : Nat) (hk : k < ops.length) :
    ∃ kd s vs Av cv ad, A = some ad ∧ s.size + vs.length ≤ 1048576 ∧ wr.cell? (ad.add (k * 3)) = some (.int .i64 kd) ∧ wr.cell? ⟨(ad.add (k * 3)).block, (ad.add (k * 3)).off + 1, none⟩ = some (.string s) ∧ wr.cell? ⟨(ad.add (k * 3)).block, (ad.add (k * 3)).off + 2, none⟩ = some (.slice Av vs.length cv) ∧ vs.length ≤ cv ∧ (Kd.int .u8).C wr Av vs.length vs ∧
      (∀ a, Av = some a → 0 < vs.length → a.block < w.heap.size) := by
  obtain ⟨kd, sk, vs, Av, cv, ad, hA, hop, a0, a1, a2, hcv, hCv⟩ := op_at h k hk
  refine ⟨kd, sk, vs, Av, cv, ad, hA, hl _ hop, (hb.cell (World.block_lt_of_cell? _ _ a0)).trans a0, (hb.cell (p := ⟨(ad.add (k * 3)).block, (ad.add (k * 3)).off + 1, none⟩) (World.block_lt_of_cell? _ _ a1)).trans a1,
    (hb.cell (p := ⟨(ad.add (k * 3)).block, (ad.add (k * 3)).off + 2, none⟩) (World.block_lt_of_cell? _ _ a2)).trans a2, hcv, Kd.C_below hCv hb, fun a e hp => ?_⟩
  obtain ⟨_, _, h3⟩ := Kd.reads_of_C (d := (0 : Int)) hCv
  obtain ⟨a', e', hc⟩ := h3 hp
  rw [e] at e'
  injection e' with e'
  subst e'
  have := World.block_lt_of_cell? _ _ (hc 0 hp)
  have hbk : (a.add 0).block = a.block := by unfold Addr.add; split <;> rfl
  rw [hbk] at this
  exact this
theorem start_ps {w w1 : World} {c m r q B : Nat} {lim : Int} (h1 : CX w1 c m r B lim 0 0 0 []) (h2 : RL w1 q q lim 0 0 (.slice none 0 0) []) (hB : B ≤ q) : PS w1 c m r q B lim 0 0 0 [] [] (.slice none 0 0) :=
  ⟨h1, ⟨h2.blk, hB, Kd.Q_nil _ _ _ _ _, by simp, by simp⟩, fun x hx => by simp at hx, rfl⟩
theorem fp_nil {c m r q j : Nat} (h : Fp c m r q [] [] (.slice none 0 0) j) : j = c ∨ j = m ∨ j = r ∨ j = q := by
  rcases h with (h | h) | ⟨x, hx, _⟩ | ⟨x, hx, _⟩
  · rcases h with h | h | h | ⟨x, hx, _⟩
    · exact .inl h
    · exact .inr (.inl h)
    · exact .inr (.inr (.inl h))
    · simp at hx
  · rcases h with h | h
    · exact .inr (.inr (.inr h))
    · simp [Value.ownBlock] at h
  · simp at hx
  · simp at hx
/-- a step of one beside the other -/
theorem beside {w w' : World} {c m r q B k : Nat} {lim hi mi : Int} {L M : List Ent} {S : Value} {c2 m2 r2 q2 B2 k2 : Nat} {lim2 hi2 mi2 : Int} {L2 M2 : List Ent} {S2 : Value} (h1 : PS w c m r q B lim k hi mi L M S) (h2 : PS w c2 m2 r2 q2 B2 lim2 k2 hi2 mi2 L2 M2 S2)
    (hd : ∀ j, Fp c m r q L M S j → ¬ Fp c2 m2 r2 q2 L2 M2 S2 j) (hp : Post w w' c m r q B lim k hi mi L M S) :
    ∃ (hi' mi' : Int) (L' M' : List Ent) (S' : Value), PS w' c m r q B lim (k + 1) hi' mi' L' M' S' ∧ PS w' c2 m2 r2 q2 B2 lim2 k2 hi2 mi2 L2 M2 S2 ∧ (∀ j, Fp c m r q L' M' S' j → ¬ Fp c2 m2 r2 q2 L2 M2 S2 j) ∧ Fr (fun j => B ≤ j) w w' := by
  obtain ⟨hi', mi', L', M', S', hps, hfr, hfp⟩ := hp
  refine ⟨hi', mi', L', M', S', hps, h2.fr hfr (fun j hj hw => hd j (.inl hw) hj), fun j hj hj2 => ?_, hfr.mono (fun j hj => (h1.fp_lt (.inl hj)).1)⟩
  rcases hfp j hj with h | h
  · exact hd j h hj2
  · have := (h2.fp_lt hj2).2
    omega
theorem ps_mono {w : World} {c m r q B k k' : Nat} {lim hi mi : Int} {L M : List Ent} {S : Value} (h : PS w c m r q B lim k hi mi L M S) (hk : k ≤ k') : PS w c m r q B lim k' hi mi L M S := h.mono hk
theorem num_ref (w : World) (x : Int) : Calls Try.prog 8 #[.int .i64 x] w fun e w' => e = .returned (.int .i64 x) ∧ w' = w := num_is x w
set_option maxHeartbeats 8000000 in
set_option maxRecDepth 100000 in
theorem walk (lim : Int) (A1 : Option Addr) (cc1 : Nat) (ops1 : List (Int × ByteArray × List Int)) (A2 : Option Addr) (cc2 : Nat) (ops2 : List (Int × ByteArray × List Int)) (w : World) (hlim : (Lit.int .i64 lim).wf = true)
    (hC1 : OpK.C w A1 ops1.length ops1) (hc1 : ops1.length ≤ cc1) (hl1 : (∀ o ∈ ops1, o.2.1.size + o.2.2.length ≤ 1048576) ∧ ops1.length ≤ 800000) (hC2 : OpK.C w A2 ops2.length ops2) (hc2 : ops2.length ≤ cc2) (hl2 : (∀ o ∈ ops2, o.2.1.size + o.2.2.length ≤ 1048576) ∧ ops2.length ≤ 800000) :
    Calls Try.prog 5 #[.int .i64 lim, .slice A1 ops1.length cc1, .slice A2 ops2.length cc2] w fun e w' => e = .returned (.bool true) ∧ Below w.heap.size w w' := by
  have HC1 := Aside0.mk hC1
  have HC2 := Aside0.mk hC2
  have HL1 := Aside0.mk hl1
  have HL2 := Aside0.mk hl2
  obtain ⟨n1, hn1⟩ : ∃ n1, n1 = ops1.length := ⟨_, rfl⟩
  obtain ⟨n2, hn2⟩ : ∃ n2, n2 = ops2.length := ⟨_, rfl⟩
  rw [← hn1, ← hn2]
  have HN1 := Aside0.mk hn1
  have HN2 := Aside0.mk hn2
  have b1 : n1 ≤ 800000 := by rw [hn1]; exact hl1.2
  have b2 : n2 ≤ 800000 := by rw [hn2]; exact hl2.2
  clear hC1 hC2 hl1 hl2 hc1 hc2 hn1 hn2
  by_cases hgood : 1 ≤ lim ∧ lim ≤ 1048576
  · obtain ⟨g1, g2⟩ := hgood
    have hnew := new_is lim w g1 g2
    have G1 := Aside0.mk g1
    have G2 := Aside0.mk g2
    clear g1 g2
    go_enter Try.func5, Try.ntmps5
    go_wp2_with fail
    refine hnew.mono ?_
    rintro e w1 ⟨c, m, r, rfl, h1, bb1, o1⟩
    have X1 : Aside0 (CX w1 c m r w.heap.size lim 0 0 0 []) := ⟨0, h1, by omega, by simp, by omega, by omega, o1⟩
    have BB1 := Aside0.mk bb1
    clear hnew h1 bb1 o1
    go_wp2_with fail
    refine (new_is 9 w1 (by omega) (by omega)).mono ?_
    rintro e w2 ⟨d, m2, r2, rfl, h2, bb2, o2⟩
    have X2 : Aside0 (CX w2 d m2 r2 w.heap.size 9 0 0 0 []) := ⟨0, h2, by omega, by simp, by omega, by omega, fun j hj => Nat.le_trans BB1.out.size (o2 j hj)⟩
    have O2 := Aside0.mk o2
    have BB2 := Aside0.mk bb2
    clear h2 bb2 o2
    go_wp2_with fail
    refine (rnew_yes lim w2 G1.out G2.out).mono ?_
    rintro e w3 ⟨rfl, bb3, hr3⟩
    have BB3 := Aside0.mk bb3
    have R3 := Aside0.mk hr3
    clear bb3 hr3
    go_wp2_with fail
    refine (rnew_yes 9 w3 (by omega) (by omega)).mono ?_
    rintro e w4 ⟨rfl, bb4, hr4⟩
    have P1 : Aside0 (PS w4 c m r w2.heap.size w.heap.size lim 0 0 0 [] [] (.slice none 0 0)) := ⟨start_ps (w := w) (((X1.out.below BB2.out).below BB3.out).below bb4) (R3.out.below bb4) (Nat.le_trans BB1.out.size BB2.out.size)⟩
    have P2 : Aside0 (PS w4 d m2 r2 w3.heap.size w.heap.size 9 0 0 0 [] [] (.slice none 0 0)) := ⟨start_ps (w := w) ((X2.out.below BB3.out).below bb4) hr4 (Nat.le_trans (Nat.le_trans BB1.out.size BB2.out.size) BB3.out.size)⟩
    have HD : Aside0 (∀ j, Fp c m r w2.heap.size [] [] (.slice none 0 0) j → ¬ Fp d m2 r2 w3.heap.size [] [] (.slice none 0 0) j) := ⟨fun j hj hj2 => by
      have s1 := BB2.out.size
      have s2 := R3.out.q_lt
      have hc := X1.out.own_lt (j := c) (.inl rfl)
      have hm := X1.out.own_lt (j := m) (.inr (.inl rfl))
      have hr := X1.out.own_lt (j := r) (.inr (.inr (.inl rfl)))
      have hd := O2.out d (.inl rfl)
      have hm2 := O2.out m2 (.inr (.inl rfl))
      have hr2 := O2.out r2 (.inr (.inr (.inl rfl)))
      have hd' := X2.out.own_lt (j := d) (.inl rfl)
      have hm2' := X2.out.own_lt (j := m2) (.inr (.inl rfl))
      have hr2' := X2.out.own_lt (j := r2) (.inr (.inr (.inl rfl)))
      rcases fp_nil hj with h | h | h | h <;> rcases fp_nil hj2 with h' | h' | h' | h' <;> omega⟩
    have BB4 : Aside0 (Below w.heap.size w w4) := ⟨below_step (below_step (below_step BB1.out BB2.out) BB3.out) bb4⟩
    obtain ⟨q1, hq1⟩ : ∃ q1, q1 = w2.heap.size := ⟨_, rfl⟩
    obtain ⟨q2, hq2⟩ : ∃ q2, q2 = w3.heap.size := ⟨_, rfl⟩
    rw [← hq1] at P1 HD ⊢
    rw [← hq2] at P2 HD ⊢
    have hkn := knows_true w4
    have hnm := num_is 0 w4
    clear bb4 hr4 hq1 hq2 X1 X2 BB1 O2 BB2 BB3 R3
    go_wp2_with fail
    refine hnm.mono ?_
    rintro e wt ⟨rfl, hwt⟩
    rw [hwt]
    clear hwt wt
    go_wp2_with fail
    refine hnm.mono ?_
    rintro e wt ⟨rfl, hwt⟩
    rw [hwt]
    clear hwt wt
    go_wp2_with fail
    refine hnm.mono ?_
    rintro e wt ⟨rfl, hwt⟩
    rw [hwt]
    clear hwt wt
    go_wp2_with fail
    refine hkn.mono ?_
    rintro e w5 ⟨rfl, hb5⟩
    have HP1' := Aside0.mk (P1.out.below hb5)
    have HP2' := Aside0.mk (P2.out.below hb5)
    have HB5 := Aside0.mk (below_step BB4.out hb5)
    clear hb5 hkn hnm P1 P2 BB4
    go_wp2
    go_loopg [13] (n1 + n2 + 1) (fun g s13 wx => ∃ (k : Nat) (hi mi : Int) (L M : List Ent) (S : Value) (hi2 mi2 : Int) (L2 M2 : List Ent) (S2 : Value), s13 = .int .i64 (k : Int) ∧ Aside0 (k + g = n1 + n2 + 1 ∧ k ≤ 800000) ∧ Aside0 (PS wx c m r q1 w.heap.size lim k hi mi L M S) ∧ Aside0 (PS wx d m2 r2 q2 w.heap.size 9 k hi2 mi2 L2 M2 S2) ∧ Aside0 (∀ j, Fp c m r q1 L M S j → ¬ Fp d m2 r2 q2 L2 M2 S2 j) ∧ Aside0 (Below w.heap.size w wx))
    case atStart => exact ⟨0, 0, 0, [], [], _, 0, 0, [], [], _, rfl, ⟨by omega, by omega⟩, HP1', HP2', HD, HB5⟩
    case round =>
      obtain ⟨k, hi, mi, L, M, S, hi2, mi2, L2, M2, S2, rfl, HK, HP1, HP2, HD2, HB⟩ := hrel
      have hk8 : k ≤ 800000 := HK.out.2
      clear HP1' HP2' HD HB5
      by_cases h1 : (k : Int) < n1
      · by_cases h2 : (k : Int) < n2
        · have hkg : 1 ≤ gk := by have := HK.out; omega
          obtain ⟨kd, s, vs, Av, cv, ad, hA, hsz, a0, a1, a2, hcv, hCv, hfar⟩ := op_now HC1.out HL1.out.1 HB.out k (by have := HN1.out; omega)
          have hst := step_is wr c m r q1 w.heap.size k lim hi mi L M S HP1.out (by omega) HB.out.size kd s Av cv vs hCv hcv hsz hfar
          obtain ⟨nv, hnv⟩ : ∃ nv, nv = vs.length := ⟨_, rfl⟩
          rw [← hnv] at hst a2
          subst hA
          clear hcv hCv hfar hsz hnv
          go_wp2_with fail
          refine hst.mono ?_
          rintro e wA ⟨rfl, hpo⟩
          obtain ⟨hi', mi', L', M', S', hp1, hp2, hd, hfr⟩ := beside HP1.out HP2.out HD2.out hpo
          have HPA := Aside0.mk hp1
          have HPB := Aside0.mk hp2
          have HDA := Aside0.mk hd
          have HBA := Aside0.mk (fr_below HB.out (Nat.le_refl _) hfr (fun j hj => hj))
          clear hst a0 a1 a2 hpo hp1 hp2 hd hfr
          obtain ⟨kd2, s2, vs2, Av2, cv2, ad2, hA2, hsz2, a0, a1, a2, hcv2, hCv2, hfar2⟩ := op_now HC2.out HL2.out.1 HBA.out k (by have := HN2.out; omega)
          have hst := step_is wA d m2 r2 q2 w.heap.size k 9 hi2 mi2 L2 M2 S2 HPB.out (by omega) HBA.out.size kd2 s2 Av2 cv2 vs2 hCv2 hcv2 hsz2 hfar2
          obtain ⟨nv2, hnv2⟩ : ∃ nv2, nv2 = vs2.length := ⟨_, rfl⟩
          rw [← hnv2] at hst a2
          subst hA2
          clear hcv2 hCv2 hfar2 hsz2 hnv2
          go_wp2_with fail
          refine hst.mono ?_
          rintro e wB ⟨rfl, hpo⟩
          obtain ⟨hi3, mi3, L3, M3, S3, hp1, hp2, hd, hfr⟩ := beside HPB.out HPA.out (fun j h2 h1 => HDA.out j h1 h2) hpo
          have HPC := Aside0.mk hp1
          have HPD := Aside0.mk hp2
          have HDB : Aside0 (∀ j, Fp c m r q1 L' M' S' j → ¬ Fp d m2 r2 q2 L3 M3 S3 j) := ⟨fun j h1 h2 => hd j h2 h1⟩
          have HBB := Aside0.mk (fr_below HBA.out (Nat.le_refl _) hfr (fun j hj => hj))
          clear hst a0 a1 a2 hpo hp1 hp2 hd hfr
          go_wp2
          go_roundg (gk - 1)
          case measure => have := HK.out; omega
          case rel => exact ⟨k + 1, _, _, _, _, _, _, _, _, _, _, by go_num, ⟨by have := HK.out; omega, by omega⟩, HPD, HPC, HDB, HBB⟩
        · have hkg : 1 ≤ gk := by have := HK.out; omega
          obtain ⟨kd, s, vs, Av, cv, ad, hA, hsz, a0, a1, a2, hcv, hCv, hfar⟩ := op_now HC1.out HL1.out.1 HB.out k (by have := HN1.out; omega)
          have hst := step_is wr c m r q1 w.heap.size k lim hi mi L M S HP1.out (by omega) HB.out.size kd s Av cv vs hCv hcv hsz hfar
          obtain ⟨nv, hnv⟩ : ∃ nv, nv = vs.length := ⟨_, rfl⟩
          rw [← hnv] at hst a2
          subst hA
          clear hcv hCv hfar hsz hnv
          go_wp2_with fail
          refine hst.mono ?_
          rintro e wA ⟨rfl, hpo⟩
          obtain ⟨hi', mi', L', M', S', hp1, hp2, hd, hfr⟩ := beside HP1.out HP2.out HD2.out hpo
          have HPA := Aside0.mk hp1
          have HPB := Aside0.mk hp2
          have HDA := Aside0.mk hd
          have HBA := Aside0.mk (fr_below HB.out (Nat.le_refl _) hfr (fun j hj => hj))
          clear hst a0 a1 a2 hpo hp1 hp2 hd hfr
          go_wp2
          go_roundg (gk - 1)
          case measure => have := HK.out; omega
          case rel => exact ⟨k + 1, _, _, _, _, _, _, _, _, _, _, by go_num, ⟨by have := HK.out; omega, by omega⟩, HPA, ⟨ps_mono HPB.out (by omega)⟩, HDA, HBA⟩
      · by_cases h2 : (k : Int) < n2
        · have hkg : 1 ≤ gk := by have := HK.out; omega
          obtain ⟨kd2, s2, vs2, Av2, cv2, ad2, hA2, hsz2, a0, a1, a2, hcv2, hCv2, hfar2⟩ := op_now HC2.out HL2.out.1 HB.out k (by have := HN2.out; omega)
          have hst := step_is wr d m2 r2 q2 w.heap.size k 9 hi2 mi2 L2 M2 S2 HP2.out (by omega) HB.out.size kd2 s2 Av2 cv2 vs2 hCv2 hcv2 hsz2 hfar2
          obtain ⟨nv2, hnv2⟩ : ∃ nv2, nv2 = vs2.length := ⟨_, rfl⟩
          rw [← hnv2] at hst a2
          subst hA2
          clear hcv2 hCv2 hfar2 hsz2 hnv2
          go_wp2_with fail
          refine hst.mono ?_
          rintro e wB ⟨rfl, hpo⟩
          obtain ⟨hi3, mi3, L3, M3, S3, hp1, hp2, hd, hfr⟩ := beside HP2.out HP1.out (fun j h2 h1 => HD2.out j h1 h2) hpo
          have HPC := Aside0.mk hp1
          have HPD := Aside0.mk hp2
          have HDB : Aside0 (∀ j, Fp c m r q1 L M S j → ¬ Fp d m2 r2 q2 L3 M3 S3 j) := ⟨fun j h1 h2 => hd j h2 h1⟩
          have HBB := Aside0.mk (fr_below HB.out (Nat.le_refl _) hfr (fun j hj => hj))
          clear hst a0 a1 a2 hpo hp1 hp2 hd hfr
          go_wp2
          go_roundg (gk - 1)
          case measure => have := HK.out; omega
          case rel => exact ⟨k + 1, _, _, _, _, _, _, _, _, _, _, by go_num, ⟨by have := HK.out; omega, by omega⟩, ⟨ps_mono HPD.out (by omega)⟩, HPC, HDB, HBB⟩
        · clear HP1 HP2 HD2
          go_wp2
          go_ret
          exact ⟨rfl, HB.out⟩
  · have hnew := new_no lim w (by omega)
    have hrn := fun W => rnew_no lim W (by omega)
    have hbad : ¬ (1 ≤ lim ∧ lim ≤ 1048576) := hgood
    clear hbad hgood
    go_enter Try.func5, Try.ntmps5
    go_wp2_with fail
    refine hnew.mono ?_
    rintro e wt ⟨rfl, hwt⟩
    rw [hwt]
    clear hwt wt hnew
    go_wp2_with fail
    refine (new_is 9 w (by omega) (by omega)).mono ?_
    rintro e w2 ⟨d, m2, r2, rfl, h2, bb2, o2⟩
    have X2 : Aside0 (CX w2 d m2 r2 w.heap.size 9 0 0 0 []) := ⟨0, h2, by omega, by simp, by omega, by omega, o2⟩
    have BB2 := Aside0.mk bb2
    have hr2 := hrn w2
    clear h2 bb2 o2 hrn
    go_wp2_with fail
    refine hr2.mono ?_
    rintro e wt ⟨rfl, hwt⟩
    rw [hwt]
    clear hwt wt hr2
    go_wp2_with fail
    refine (rnew_yes 9 w2 (by omega) (by omega)).mono ?_
    rintro e w4 ⟨rfl, bb4, hr4⟩
    have P2 : Aside0 (PS w4 d m2 r2 w2.heap.size w.heap.size 9 0 0 0 [] [] (.slice none 0 0)) := ⟨start_ps (w := w) (X2.out.below bb4) hr4 BB2.out.size⟩
    have BB4 : Aside0 (Below w.heap.size w w4) := ⟨below_step BB2.out bb4⟩
    obtain ⟨q2, hq2⟩ : ∃ q2, q2 = w2.heap.size := ⟨_, rfl⟩
    rw [← hq2] at P2 ⊢
    have hkn := knows_true w4
    have hn1 := num_is 1 w4
    have hn0 := num_is 0 w4
    clear bb4 hr4 hq2 X2 BB2
    go_wp2_with fail
    refine hn1.mono ?_
    rintro e wt ⟨rfl, hwt⟩
    rw [hwt]
    clear hwt wt
    go_wp2_with fail
    refine hn1.mono ?_
    rintro e wt ⟨rfl, hwt⟩
    rw [hwt]
    clear hwt wt
    go_wp2_with fail
    refine hn1.mono ?_
    rintro e wt ⟨rfl, hwt⟩
    rw [hwt]
    clear hwt wt
    go_wp2_with fail
    refine hn0.mono ?_
    rintro e wt ⟨rfl, hwt⟩
    rw [hwt]
    clear hwt wt
    go_wp2_with fail
    refine hkn.mono ?_
    rintro e w5 ⟨rfl, hb5⟩
    have HP2' := Aside0.mk (P2.out.below hb5)
    have HB5 := Aside0.mk (below_step BB4.out hb5)
    clear hb5 hkn hn1 hn0 P2 BB4
    go_wp2
    go_loopg [13] (n1 + n2 + 1) (fun g s13 wx => ∃ (k : Nat) (hi2 mi2 : Int) (L2 M2 : List Ent) (S2 : Value), s13 = .int .i64 (k : Int) ∧ Aside0 (k + g = n1 + n2 + 1 ∧ k ≤ 800000) ∧ Aside0 (PS wx d m2 r2 q2 w.heap.size 9 k hi2 mi2 L2 M2 S2) ∧ Aside0 (Below w.heap.size w wx))
    case atStart => exact ⟨0, 0, 0, [], [], _, rfl, ⟨by omega, by omega⟩, HP2', HB5⟩
    case round =>
      obtain ⟨k, hi2, mi2, L2, M2, S2, rfl, HK, HP2, HB⟩ := hrel
      have hk8 : k ≤ 800000 := HK.out.2
      clear HP2' HB5
      by_cases h2 : (k : Int) < n2
      · have hkg : 1 ≤ gk := by have := HK.out; omega
        obtain ⟨kd2, s2, vs2, Av2, cv2, ad2, hA2, hsz2, a0, a1, a2, hcv2, hCv2, hfar2⟩ := op_now HC2.out HL2.out.1 HB.out k (by have := HN2.out; omega)
        have hst := step_is wr d m2 r2 q2 w.heap.size k 9 hi2 mi2 L2 M2 S2 HP2.out (by omega) HB.out.size kd2 s2 Av2 cv2 vs2 hCv2 hcv2 hsz2 hfar2
        obtain ⟨nv2, hnv2⟩ : ∃ nv2, nv2 = vs2.length := ⟨_, rfl⟩
        rw [← hnv2] at hst a2
        subst hA2
        clear hcv2 hCv2 hfar2 hsz2 hnv2
        by_cases h1 : (k : Int) < n1
        all_goals
          go_wp2_with fail
          refine hst.mono ?_
          rintro e wB ⟨rfl, hpo⟩
          obtain ⟨hi3, mi3, L3, M3, S3, hp1, hfr, hfp⟩ := hpo
          have HPC := Aside0.mk hp1
          have HBB := Aside0.mk (fr_below HB.out (Nat.le_refl _) (hfr.mono (T := fun j => w.heap.size ≤ j) (fun j hj => (HP2.out.fp_lt (.inl hj)).1)) (fun j hj => hj))
          clear hst a0 a1 a2 hp1 hfr hfp
          go_wp2
          go_roundg (gk - 1)
          case measure => have := HK.out; omega
          case rel => exact ⟨k + 1, _, _, _, _, _, by go_num, ⟨by have := HK.out; omega, by omega⟩, HPC, HBB⟩
      · by_cases h1 : (k : Int) < n1
        · have hkg : 1 ≤ gk := by have := HK.out; omega
          go_wp2
          go_roundg (gk - 1)
          case measure => have := HK.out; omega
          case rel => exact ⟨k + 1, hi2, mi2, L2, M2, S2, by go_num, ⟨by have := HK.out; omega, by omega⟩, ⟨HP2.out.mono (by omega)⟩, HB⟩
        · go_wp2
          go_ret
          exact ⟨rfl, HB.out⟩
end Go.Proofs.Yteiejkkgckdihaa.Pl
