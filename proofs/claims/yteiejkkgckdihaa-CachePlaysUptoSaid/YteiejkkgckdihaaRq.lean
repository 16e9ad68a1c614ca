/- The reference's cache: Put, Get, New. -/
import Derived.Test.YteiejkkgckdihaaRp
import Derived.Test.YteiejkkgckdihaaSy
namespace Go.Proofs.Yteiejkkgckdihaa.Rq
set_option linter.unusedVariables false
set_option linter.unusedSimpArgs false
open Go.Proofs.Yteiejkkgckdihaa.Sy Go.Proofs.Yteiejkkgckdihaa.Rp Go.Proofs.Yteiejkkgckdihaa.Rc Go.Proofs.Yteiejkkgckdihaa.Tk Go.Proofs.Yteiejkkgckdihaa.Dw Go.RowKit Go.Proofs.YteiejkkgckdihaaW.PrintWords Go.Proofs.YteiejkkgckdihaaW.PrintLast Go.Proofs.YteiejkkgckdihaaW.PrintMore Go.Proofs.Yteiejkkgckdihaa.Fr Go.Proofs.Yteiejkkgckdihaa.Rg Go.Proofs.Yteiejkkgckdihaa.Mp Go.Proofs.Yteiejkkgckdihaa.Ca Go.Proofs.Yteiejkkgckdihaa.Dr Go.Proofs.Yteiejkkgckdihaa.Pk Go.Proofs.Yteiejkkgckdihaa.Pu Go.Proofs.Yteiejkkgckdihaa.Ge Go.Proofs.Yteiejkkgckdihaa.Kn Go.Proofs.Yteiejkkgckdihaa.Cx Go.Proofs.Yteiejkkgckdihaa.Bo Go.Proofs.Yteiejkkgckdihaa.Mv
theorem info5 : (Try.prog.info? 5).map (fun i => (i.zero, i.size, i.bytes)) = some (some (.int .u8 0), 1, 1) := by kernel_rfl
theorem rnew_no (lim : Int) (w : World) (h : lim < 1 ∨ 1048576 < lim) : Calls Try.prog 16 #[.int .i64 lim] w fun e w' => e = .returned (.pointer none) ∧ w' = w := by
  by_cases h1 : lim < 1
  · have d1 : decide (lim < 1) = true := decide_eq_true h1
    clear h
    go_enter Try.func16, Try.ntmps16
    go_wp2
    go_ret
    exact ⟨rfl, rfl⟩
  · have d1 : decide (lim < 1) = false := decide_eq_false h1
    have d2 : decide ((1048576 : Int) < lim) = true := decide_eq_true (by omega)
    have h2 : (1048576 : Int) < lim := by omega
    clear h
    go_enter Try.func16, Try.ntmps16
    go_wp2
    go_ret
    exact ⟨rfl, rfl⟩
theorem rnew_yes (lim : Int) (w : World) (h1 : 1 ≤ lim) (h2 : lim ≤ 1048576) : Calls Try.prog 16 #[.int .i64 lim] w fun e w' => e = .returned (PT w.heap.size) ∧ Below w.heap.size w w' ∧ RL w' w.heap.size w.heap.size lim 0 0 (.slice none 0 0) [] := by
  have d1 : decide (lim < 1) = false := decide_eq_false (by omega)
  have d2 : decide ((1048576 : Int) < lim) = false := decide_eq_false (by omega)
  go_enter Try.func16, Try.ntmps16
  go_wp2
  go_ret
  exact ⟨rfl, below_alloc (Below.refl _ _) _, blk_new _ _, Nat.le_refl _, Kd.Q_nil _ _ _ _ _, by simp, by simp⟩
/-- New of the program's cache refuses such limits, too -/
theorem new_no (lim : Int) (w : World) (h : lim < 1 ∨ 1048576 < lim) : Calls Try.prog 7 #[.int .i64 lim] w fun e w' => e = .returned (.tuple #[.pointer none, .int .i64 1]) ∧ w' = w := by
  by_cases h1 : lim < 1
  · have d1 : decide (lim < 1) = true := decide_eq_true h1
    clear h
    go_enter Try.func7, Try.ntmps7
    go_wp2
    go_ret2
    exact ⟨rfl, rfl⟩
  · have d1 : decide (lim < 1) = false := decide_eq_false h1
    have d2 : decide ((1048576 : Int) < lim) = true := decide_eq_true (by omega)
    have h2 : (1048576 : Int) < lim := by omega
    clear h
    go_enter Try.func7, Try.ntmps7
    go_wp2
    go_ret2
    exact ⟨rfl, rfl⟩
theorem used_but (s : ByteArray) : ∀ M : List Ent, used (but s M) ≤ used M
  | [] => by simp [but]
  | x :: M => by
    have h := used_but s M
    unfold but at h ⊢
    rw [List.filter_cons, used_cons]
    split
    · rw [used_cons]; omega
    · omega
theorem rdrop (w : World) (q B : Nat) (lim hi mi : Int) (S : Value) (M : List Ent) (s : ByteArray) (h : RL w q B lim hi mi S M) (hn : (M.map (·.key)).Nodup) (hl : M.length ≤ 1048576) (hB : B ≤ w.heap.size) :
    Calls Try.prog 31 #[PT q, .string s] w fun e w' => e = .returned (.bool (lookE M s).isSome) ∧ ∃ S', RL w' q B lim hi mi S' (but s M) ∧ Fr (fun k => k = q) w w' ∧ (∀ k, Wr q S' k → Wr q S k ∨ w.heap.size ≤ k) := by
  cases hk : lookE M s with
  | none =>
    have hno := look_no (L := M) (s := s) (by rw [hk]; rfl)
    refine (rdrop_miss w q B lim hi mi S M s h hno hl).mono ?_
    rintro e w' ⟨rfl, rfl⟩
    exact ⟨rfl, S, by rw [but_none hk]; exact h, Fr.refl _ _, fun k hk => .inl hk⟩
  | some b =>
    obtain ⟨X, x, Y, rfl, rfl, rfl, hX⟩ := look_split hk
    refine (rdrop_hit w q B lim hi mi S X Y x h hX hl hB).mono ?_
    rintro e w' ⟨rfl, S', h', hf, hS'⟩
    refine ⟨rfl, S', by rw [but_mid hn]; exact h', hf, fun k hk => ?_⟩
    rcases hk with hk | hk
    · exact .inl (.inl hk)
    · rcases hS' with hS' | ⟨g, hg, hle⟩
      · rw [hS'] at hk; cases hk
      · rw [hg] at hk; injection hk with hk; exact .inr (by omega)
/-- the values' blocks -/
def Vb (M : List Ent) (k : Nat) : Prop := ∃ x ∈ M, ∃ ad, x.A = some ad ∧ 0 < x.val.length ∧ ad.block = k
theorem rput_big (w : World) (q B : Nat) (lim hi mi : Int) (S : Value) (M : List Ent) (s : ByteArray) (A : Option Addr) (c n : Nat) (h : RL w q B lim hi mi S M) (hs : s.size + n ≤ 1048576) (hbig : lim < (s.size : Int) + n) :
    Calls Try.prog 27 #[PT q, .string s, .slice A n c] w fun e w' => e = .returned (.int .i64 6) ∧ w' = w := by
  have c0 := blk_cell h.blk 0
  simp at c0
  clear h
  go_enter Try.func27, Try.ntmps27
  go_wp2
  go_ret
  exact ⟨rfl, rfl⟩
theorem ev_suffix {lim : Int} {sz : Nat} {x : Ent} {M : List Ent} (h : ¬ lim < (used (x :: M) : Int) + sz) : evict lim sz (x :: M) = x :: M := evict_stop h
theorem used_ev (lim : Int) (sz : Nat) (hsz : (sz : Int) ≤ lim) : ∀ M : List Ent, (used (evict lim sz M) : Int) + sz ≤ lim
  | [] => by simp [evict, used]; exact hsz
  | x :: M => by
    unfold evict
    split
    · exact used_ev lim sz hsz M
    · omega

set_option maxHeartbeats 4000000 in
theorem rput_fit (w : World) (q B : Nat) (lim hi mi : Int) (S : Value) (M : List Ent) (s : ByteArray) (A : Option Addr) (c : Nat) (xs : List Int) (h : RL w q B lim hi mi S M) (hnd : (M.map (·.key)).Nodup) (hl : M.length ≤ 1000000) (hB : B ≤ w.heap.size) (hs : s.size + xs.length ≤ 1048576) (hfit : ¬ lim < (s.size : Int) + xs.length)
    (hlim : 1 ≤ lim ∧ lim ≤ 1048576) (hus : (used M : Int) ≤ lim) (hC : (Kd.int .u8).C w A xs.length xs) (hc : xs.length ≤ c) (hA : ∀ ad, A = some ad → 0 < xs.length → ¬ Wr q S ad.block) :
    Calls Try.prog 27 #[PT q, .string s, .slice A xs.length c] w fun e w' => e = .returned (.int .i64 0) ∧ ∃ S' x, x.key = s ∧ x.val = xs ∧ (∀ ad, x.A = some ad → w.heap.size ≤ ad.block) ∧ RL w' q B lim hi mi S' (evict lim (s.size + xs.length) (but s M) ++ [x]) ∧ Fr (Wr q S) w w' ∧ (∀ k, Wr q S' k → Wr q S k ∨ w.heap.size ≤ k) := by
  have c0 := blk_cell h.blk 0
  have hq : q < w.heap.size := h.q_lt
  simp at c0
  have hdr0 := rdrop w q B lim hi mi S M s h hnd (by omega) hB
  have H := Aside0.mk h
  have HC := Aside0.mk hC
  have HCC := Aside0.mk hc
  have HA := Aside0.mk hA
  obtain ⟨n, hn⟩ : ∃ n, n = xs.length := ⟨_, rfl⟩
  rw [← hn] at hs hfit hc ⊢
  have HN := Aside0.mk hn
  have hbl : (but s M).length ≤ 1000000 := Nat.le_trans (but_len s M) hl
  have hbu : (used (but s M) : Int) ≤ lim := by
    have := used_but s M
    omega
  obtain ⟨lim1, lim2⟩ := hlim
  have HBL := Aside0.mk hbl
  have HBU := Aside0.mk hbu
  have HBB := Aside0.mk hB
  clear h hC hA hn hl hus hnd hbl hbu hB
  go_enter Try.func27, Try.ntmps27
  go_wp2_with fail
  refine hdr0.mono ?_
  rintro e w1 ⟨rfl, S1, h1, f1, o1⟩
  have H1 := Aside0.mk h1
  have F1 := Aside0.mk (f1.mono (T := Wr q S) (fun k hk => .inl hk))
  have O1 := Aside0.mk o1
  have HW1 := Aside0.mk f1.size
  clear h1 f1 o1 hdr0 c0 hq
  go_wp2_with fail
  go_loopg [] (but s M).length (fun g wx => ∃ (S2 : Value) (M2 : List Ent), Aside0 (RL wx q B lim hi mi S2 M2) ∧ Aside0 (evict lim (s.size + n) M2 = evict lim (s.size + n) (but s M)) ∧ Aside0 (M2.length = g) ∧ Aside0 (M2.length ≤ 1000000 ∧ (used M2 : Int) ≤ lim) ∧ Aside0 (Fr (Wr q S) w wx) ∧ Aside0 (∀ k, Wr q S2 k → Wr q S k ∨ w.heap.size ≤ k))
  case atStart => exact ⟨S1, but s M, H1, ⟨rfl⟩, ⟨rfl⟩, ⟨HBL.out, HBU.out⟩, F1, O1⟩
  case round =>
    obtain ⟨S2, M2, H2, HE, HG, HM, HF, HOW⟩ := hrel
    clear H1 F1 O1 HBL HBU
    have hus := fun j => (rused (wr.drewN j) q B lim hi mi S2 M2 (H2.out.drewN j) (by have := HM.out.1; omega) (by have := HM.out.2; omega))
    have c0 : ∀ j, (wr.drewN j).cell? ⟨q, 0, none⟩ = some (.int .i64 lim) := fun j => by
      have := blk_cell H2.out.blk 0
      simp at this
      exact this
    obtain ⟨us, husd⟩ : ∃ us : Nat, us = used M2 := ⟨_, rfl⟩
    rw [← husd] at hus
    have HUS := Aside0.mk husd
    have u0 : (us : Int) ≤ lim := by rw [husd]; exact HM.out.2
    have uw : IntKind.i64.wrap ((us : Int) + ((s.size : Int) + n)) = (us : Int) + ((s.size : Int) + n) := by rw [i64_w]; unfold wrap64; omega
    have hq : q < wr.heap.size := H2.out.q_lt
    clear husd
    by_cases hgo : lim < (us : Int) + ((s.size : Int) + n)
    · have hd : decide (lim < (us : Int) + ((s.size : Int) + n)) = true := decide_eq_true hgo
      clear hgo
      go_wp2_with fail
      go_quiet ((go_at_call 32; exact Calls.quiet_of (hus _)))
      cases M2 with
      | nil =>
        exfalso
        have h1 := HUS.out
        have h2 := of_decide_eq_true hd
        simp [used] at h1
        omega
      | cons y M2 =>
        obtain ⟨A2, cap, hS2, hcap⟩ := S_form H2.out
        subst hS2
        simp only [List.length_cons] at hcap
        have c3 : (wr.drewN nq).cell? ⟨q, 3, none⟩ = some (.slice A2 (M2.length + 1) cap) := by
          have := blk_cell H2.out.blk 3
          simp at this
          exact this
        have f3 : (wr.drewN nq).frozen? ⟨q, 3, none⟩ = false := blk_frozen H2.out.blk 3
        obtain ⟨ad, hA2, _, _⟩ := item_at H2.out 0 (by simp)
        subst hA2
        obtain ⟨n2, hn2⟩ : ∃ n2, n2 = M2.length := ⟨_, rfl⟩
        rw [← hn2] at c3 hcap
        have q2 := Kd.Q_drop (Kd.Q_tight (by rfl) H2.out.row) (k := 1) (by simp)
        by_cases hc1 : cap = 1
        · subst hc1
          obtain rfl : n2 = 0 := by omega
          replace q2 : KI.Q 70 wr B (fun k => some k = (Value.slice (some ad) (y :: M2).length 1).ownBlock) (.slice (some ad) 0 0) (M2.map hdr) := by
            rw [if_pos rfl] at q2
            simp only [List.length_cons] at q2
            rw [← hn2] at q2
            exact q2
          have HQ2 := Aside0.mk q2
          have hcl : 1 ≤ 0 + 1 := by omega
          have HGO := Aside0.mk (of_decide_eq_true hd)
          clear q2 hus uw u0 hd
          have HN2 := Aside0.mk hn2
          clear hn2
          go_wp2_with fail
          go_roundg M2.length
          case measure => have := HG.out; simp at this; omega
          case rel =>
            have hfw : Fr (Wr q (.slice (some ad) (y :: M2).length 1)) (wr.drewN nq) ((wr.drewN nq).setCell ⟨q, 3, none⟩ (.slice (some ad) 0 0)) := (Fr.refl _ _).setCell (p := ⟨q, 3, none⟩) (.inl (.inl rfl)) _
            refine ⟨.slice (some ad) 0 0, M2, ⟨(H2.out.drewN nq).turn hfw (blk_put (H2.out.drewN nq).blk 3 _ rfl) ?_ (fun z hz => List.mem_cons_of_mem _ hz)⟩, ⟨?_⟩, ⟨rfl⟩, ⟨?_, ?_⟩, ⟨(HF.out.drewN nq).setCell (p := ⟨q, 3, none⟩) (.inl (.inl rfl)) _⟩, ⟨fun k hk => HOW.out k ?_⟩⟩
            · refine Kd.Q_mono (Kd.Q_far (p := ⟨q, 3, none⟩) (Kd.Q_drewN HQ2.out nq) (fun k hk e => ?_) _) (fun _ _ => trivial)
              simp [Value.ownBlock] at hk e
              obtain ⟨cells, h2⟩ := Kd.Q_typed H2.out.row ad.block rfl
              rw [← hk, e] at h2
              exact absurd (cells_ty H2.out.blk h2) (by decide)
            · rw [← HE.out]
              refine (evict_go ?_).symm
              have h1 := HUS.out
              have h2 := HGO.out
              rw [← h1]
              push_cast
              omega
            · have := HM.out.1
              simp at this
              omega
            · have h1 := HM.out.2
              have h2 := used_cons y M2
              omega
            · rcases hk with hk | hk
              · exact .inl hk
              · exact .inr hk
        · replace q2 : KI.Q 70 wr B (fun k => some k = (Value.slice (some ad) (y :: M2).length cap).ownBlock) (.slice (some ⟨ad.block, ad.off + 2, none⟩) n2 (cap - 1)) (M2.map hdr) := by
            rw [if_neg hc1] at q2
            simp only [List.length_cons] at q2
            rw [← hn2] at q2
            exact q2
          have HQ2 := Aside0.mk q2
          have hcl : 1 ≤ n2 + 1 := by omega
          have HGO := Aside0.mk (of_decide_eq_true hd)
          clear q2 hus uw u0 hd
          have HN2 := Aside0.mk hn2
          clear hn2
          go_wp2_with fail
          go_roundg M2.length
          case measure => have := HG.out; simp at this; omega
          case rel =>
            have hfw : Fr (Wr q (.slice (some ad) (y :: M2).length cap)) (wr.drewN nq) ((wr.drewN nq).setCell ⟨q, 3, none⟩ (.slice (some ⟨ad.block, ad.off + 2, none⟩) n2 (cap - 1))) := (Fr.refl _ _).setCell (p := ⟨q, 3, none⟩) (.inl (.inl rfl)) _
            refine ⟨.slice (some ⟨ad.block, ad.off + 2, none⟩) n2 (cap - 1), M2, ⟨(H2.out.drewN nq).turn hfw (blk_put (H2.out.drewN nq).blk 3 _ rfl) ?_ (fun z hz => List.mem_cons_of_mem _ hz)⟩, ⟨?_⟩, ⟨rfl⟩, ⟨?_, ?_⟩, ⟨(HF.out.drewN nq).setCell (p := ⟨q, 3, none⟩) (.inl (.inl rfl)) _⟩, ⟨fun k hk => HOW.out k ?_⟩⟩
            · refine Kd.Q_mono (Kd.Q_far (p := ⟨q, 3, none⟩) (Kd.Q_drewN HQ2.out nq) (fun k hk e => ?_) _) (fun _ _ => trivial)
              simp [Value.ownBlock] at hk e
              obtain ⟨cells, h2⟩ := Kd.Q_typed H2.out.row ad.block rfl
              rw [← hk, e] at h2
              exact absurd (cells_ty H2.out.blk h2) (by decide)
            · rw [← HE.out]
              refine (evict_go ?_).symm
              have h1 := HUS.out
              have h2 := HGO.out
              rw [← h1]
              push_cast
              omega
            · have := HM.out.1
              simp at this
              omega
            · have h1 := HM.out.2
              have h2 := used_cons y M2
              omega
            · rcases hk with hk | hk
              · exact .inl hk
              · exact .inr hk
    · have hd : decide (lim < (us : Int) + ((s.size : Int) + n)) = false := decide_eq_false hgo
      have HST : Aside0 (evict lim (s.size + n) (but s M) = M2) := ⟨by rw [← HE.out]; exact evict_stop (by rw [← HUS.out]; omega)⟩
      clear hgo
      go_wp2_with fail
      go_quiet ((go_at_call 32; exact Calls.quiet_of (hus _)))
      go_upto_region 7 with fail
      obtain ⟨A2, cap2, hS2, hcap2⟩ := S_form H2.out
      subst hS2
      have hr := H2.out.drewN nq
      obtain ⟨W0, hW0⟩ : ∃ W0, W0 = wr.drewN nq := ⟨_, rfl⟩
      rw [← hW0] at hr ⊢
      have HFW : Aside0 (Fr (Wr q S) w W0) := ⟨by rw [hW0]; exact HF.out.drewN nq⟩
      have HR := Aside0.mk hr
      have HBW : Aside0 (B ≤ W0.heap.size) := ⟨Nat.le_trans HBB.out HFW.out.size⟩
      have hq : q < W0.heap.size := hr.q_lt
      have c3 := blk_cell hr.blk 3
      have fz : W0.frozen? ⟨q, 3, none⟩ = false := blk_frozen hr.blk 3
      simp at c3
      obtain ⟨n2, hn2⟩ : ∃ n2, n2 = M2.length := ⟨_, rfl⟩
      rw [← hn2] at c3 hcap2
      have HC0 : Aside0 ((Kd.int .u8).C W0 A n xs) := ⟨by rw [HN.out]; exact HFW.out.C HC.out HA.out⟩
      have HN2 := Aside0.mk hn2
      have HR' : Aside0 (KI.Q 70 W0 B (fun _ => True) (.slice A2 n2 cap2) (M2.map hdr)) := ⟨by rw [hn2]; exact hr.row⟩
      rw [← hn2] at HR HOW
      clear hr hW0 hn2 hus c0 uw u0 hd H2
      refine start_ (S := fun W => W.cell? ⟨q, 3, none⟩ = some (.slice A2 n2 cap2)) (ds := [14]) #[false, false, false, false, false, false, false, false, false, false, false, false, false, false, false] (by kernel_rfl) rfl rfl c3 (fun hHeld => ?_)
      refine take_ (i := 0) (N := (some 39)) #[true, false, false, false, false, false, false, false, false, false, false, false, false, false, false] rfl rfl (by kernel_rfl) (fun _ _ _ h => h) (.inl ⟨by rfl, by (intro w hSw; (try dsimp only at hSw); go_simp <;> with_reducible rfl)⟩) hHeld rfl ?_
      (try simp only [Act.put, List.setIfInBounds_toArray, List.set_cons_zero, List.set_cons_succ])
      refine take_ (i := 1) (N := (some 40)) #[true, true, false, false, false, false, false, false, false, false, false, false, false, false, false] rfl rfl (by kernel_rfl) (fun _ _ _ h => h) (.inl ⟨by rfl, by (intro w hSw; (try dsimp only at hSw); go_simp <;> with_reducible rfl)⟩) hHeld rfl ?_
      (try simp only [Act.put, List.setIfInBounds_toArray, List.set_cons_zero, List.set_cons_succ])
      refine take_ (i := 2) (N := (some 41)) #[true, true, true, false, false, false, false, false, false, false, false, false, false, false, false] rfl rfl (by kernel_rfl) (fun _ _ _ h => h) (.inl ⟨by rfl, by (intro w hSw; (try dsimp only at hSw); go_simp <;> with_reducible rfl)⟩) hHeld rfl ?_
      (try simp only [Act.put, List.setIfInBounds_toArray, List.set_cons_zero, List.set_cons_succ])
      refine take_ (i := 3) (N := (some 42)) #[true, true, true, true, false, false, false, false, false, false, false, false, false, false, false] rfl rfl (by kernel_rfl) (fun _ _ _ h => h) (.inl ⟨by rfl, by (intro w hSw; (try dsimp only at hSw); go_simp <;> with_reducible rfl)⟩) hHeld rfl ?_
      (try simp only [Act.put, List.setIfInBounds_toArray, List.set_cons_zero, List.set_cons_succ])
      refine take_ (i := 4) (N := (some 43)) #[true, true, true, true, true, false, false, false, false, false, false, false, false, false, false] rfl rfl (by kernel_rfl) (fun _ _ _ h => h) (.inl ⟨by rfl, by (intro w hSw; (try dsimp only at hSw); go_simp <;> with_reducible rfl)⟩) hHeld rfl ?_
      (try simp only [Act.put, List.setIfInBounds_toArray, List.set_cons_zero, List.set_cons_succ])
      refine take_ (i := 5) (N := (some 44)) #[true, true, true, true, true, true, false, false, false, false, false, false, false, false, false] rfl rfl (by kernel_rfl) (fun _ _ _ h => h) (.inl ⟨by rfl, by (intro w hSw; (try dsimp only at hSw); go_simp <;> with_reducible rfl)⟩) hHeld rfl ?_
      (try simp only [Act.put, List.setIfInBounds_toArray, List.set_cons_zero, List.set_cons_succ])
      refine take_ (i := 7) (N := (some 46)) #[true, true, true, true, true, true, false, true, false, false, false, false, false, false, false] rfl rfl (by kernel_rfl) (fun _ _ _ h => h) (.inl ⟨by rfl, by (intro w hSw; (try dsimp only at hSw); go_simp <;> with_reducible rfl)⟩) hHeld rfl ?_
      (try simp only [Act.put, List.setIfInBounds_toArray, List.set_cons_zero, List.set_cons_succ])
      refine one_ (i := 6) (N := (some 45)) #[true, true, true, true, true, true, true, true, false, false, false, false, false, false, false] rfl rfl (by kernel_rfl) (by simp) (fun K hK => ?_)
      refine Kd.R_lit_step (Kd.int .u8) (w0 := W0) W0.heap.size 5 ?hw0 (N := 45) ?hN0 (xs := ([] : List Int)) (inner := []) (ok := fun _ => True) (okp := fun _ => True) ?hr0 (Reps.none _ _) (fun _ hk => hk) trivial ?hb0 ?hs0 (by simp) ?_
      (case hw0 => rfl)
      (case hN0 => rfl)
      (case hr0 => first | (go_simp; done) | (go_simp; rfl))
      (case hb0 => exact below_drew (Below.refl _ _))
      (case hs0 => exact Nat.le_refl _)
      intro v45 w2 ho hb hg hat
      have hHeld : w2.cell? ⟨q, 3, none⟩ = some (.slice A2 n2 cap2) := (hb.cell (p := ⟨q, 3, none⟩) hq).trans c3
      have HO2 := Aside0.mk ho
      have HB2 := Aside0.mk hb
      clear ho hb hg hat
      refine hK.out _ _ hHeld (fun hHeld => ?_)
      clear hK K
      (try simp only [Act.put, List.setIfInBounds_toArray, List.set_cons_zero, List.set_cons_succ])
      refine one_ (i := 8) (N := (some 47)) #[true, true, true, true, true, true, true, true, true, false, false, false, false, false, false] rfl rfl (by kernel_rfl) (by simp) (fun K hK => ?_)
      refine Kd.R_append_rows_step (Kd.int .u8) (w0 := W0) W0.heap.size ?hw1 (.tmp 45) (.tmp 46) 29 5 (.int .u8 0) 1 ?ho1 Try.underlying29 info5 ?hz1 (by decide) (by omega) v45 [] xs A n c (fun _ => True) (fun _ => False) ?hs1 ?hx1 HO2.out (Kd.C_below HC0.out HB2.out) (fun _ _ h => h) (fun _ h => h.elim) (fun _ _ => trivial) HB2.out HB2.out.size ?hl1 ?_
      (case hw1 => rfl)
      (case ho1 => rfl)
      (case hz1 => rfl)
      (case hs1 => rfl)
      (case hx1 => rfl)
      (case hl1 => simp only [List.length_nil]; omega)
      intro v47 w3 ho hb hg hat
      have hHeld : w3.cell? ⟨q, 3, none⟩ = some (.slice A2 n2 cap2) := (hb.cell (p := ⟨q, 3, none⟩) hq).trans c3
      simp only [List.nil_append] at ho
      obtain ⟨A5, c5, rfl⟩ := Kd.R_slice ho
      have HO3 := Aside0.mk ho
      have HB3 := Aside0.mk hb
      rw [← HN.out]
      clear ho hb hg hat
      refine hK.out _ _ hHeld (fun hHeld => ?_)
      clear hK K
      (try simp only [Act.put, List.setIfInBounds_toArray, List.set_cons_zero, List.set_cons_succ])
      refine take_ (i := 9) (N := (some 48)) #[true, true, true, true, true, true, true, true, true, true, false, false, false, false, false] rfl rfl (by kernel_rfl) (fun _ _ _ h => h) (.inl ⟨by rfl, by (intro w hSw; (try dsimp only at hSw); go_simp <;> with_reducible rfl)⟩) hHeld rfl ?_
      (try simp only [Act.put, List.setIfInBounds_toArray, List.set_cons_zero, List.set_cons_succ])
      refine one_ (i := 10) (N := (some 49)) #[true, true, true, true, true, true, true, true, true, true, true, false, false, false, false] rfl rfl (by kernel_rfl) (by simp) (fun K hK => ?_)
      go_simp
      have hHeld : (w3.alloc (.cells #[.string s, .slice A5 n c5] 70)).cell? ⟨q, 3, none⟩ = some (.slice A2 n2 cap2) := (World.cell?_alloc_some _ _ _ (by rw [hHeld]; rfl)).trans hHeld
      refine hK.out _ _ hHeld (fun hHeld => ?_)
      clear hK K
      (try simp only [Act.put, List.setIfInBounds_toArray, List.set_cons_zero, List.set_cons_succ])
      refine one_ (i := 11) (N := (some 50)) #[true, true, true, true, true, true, true, true, true, true, true, true, false, false, false] rfl rfl (by kernel_rfl) (by simp) (fun K hK => ?_)
      refine Kd.Q_append_step KI (w0 := w3) (W := w3) B ?hw2 (.tmp 43) (.tmp 49) 64 70 (.agg #[.string ByteArray.empty, .slice none 0 0]) 40 ?ho2 Try.underlying64 info70 ?hz2 (by decide) (by omega) (.slice A2 n2 cap2) (M2.map hdr) (s, (A5, n, c5)) [.string s, .slice A5 n c5] (fun _ => True) (fun _ => False) ?hs2 ?hx2 ⟨[.string s], [.slice A5 n c5], rfl, rfl, rfl⟩ (fun _ h => h.elim) (fun _ _ => trivial) (Kd.Q_below HR.out.row HB3.out) (Below.refl _ _) (Nat.le_trans HBW.out HB3.out.size) ?hl2 ?_
      (case hw2 => rfl)
      (case ho2 => rfl)
      (case hz2 => rfl)
      (case hs2 => rfl)
      (case hx2 => rfl)
      (case hl2 => simp only [List.length_map]; have := HM.out.1; omega)
      intro v50 w4 ho hb hg hat
      have hf4 := grown_fr hg
      have hq3 : q < w3.heap.size := Nat.lt_of_lt_of_le hq HB3.out.size
      have hqo : ¬ (Value.slice A2 n2 cap2).ownBlock = some q := fun e => by
        obtain ⟨cells, h2⟩ := Kd.Q_typed HR.out.row q e
        exact absurd (cells_ty HR.out.blk h2) (by decide)
      have hb4 : w4.heap[q]? = W0.heap[q]? := (hf4.block q hq3 hqo).trans (HB3.out.block q hq)
      have hHeld : w4.cell? ⟨q, 3, none⟩ = some (.slice A2 n2 cap2) := (World.cell?_of_block (w := W0) (a := ⟨q, 3, none⟩) hb4).trans c3
      have hfz : w4.frozen? ⟨q, 3, none⟩ = false := (World.frozen?_of_block (w := W0) (a := ⟨q, 3, none⟩) hb4).trans fz
      obtain ⟨A6, c6, rfl, _⟩ := Kd.Q_slice ho
      have HO4 := Aside0.mk ho
      have HF4 := Aside0.mk hf4
      have HB4 := Aside0.mk hb4
      have HAT := Aside0.mk hat
      clear ho hb hg hat hf4 hb4 hqo hq3
      refine hK.out _ _ hHeld (fun hHeld => ?_)
      clear hK K
      (try simp only [Act.put, List.setIfInBounds_toArray, List.set_cons_zero, List.set_cons_succ])
      refine take_ (i := 12) (N := (some 51)) #[true, true, true, true, true, true, true, true, true, true, true, true, true, false, false] rfl rfl (by kernel_rfl) (fun _ _ _ h => h) (.inl ⟨by rfl, by (intro w hSw; (try dsimp only at hSw); go_simp <;> with_reducible rfl)⟩) hHeld rfl ?_
      (try simp only [Act.put, List.setIfInBounds_toArray, List.set_cons_zero, List.set_cons_succ])
      refine take_ (i := 13) (N := (some 52)) #[true, true, true, true, true, true, true, true, true, true, true, true, true, true, false] rfl rfl (by kernel_rfl) (fun _ _ _ h => h) (.inl ⟨by rfl, by (intro w hSw; (try dsimp only at hSw); go_simp <;> with_reducible rfl)⟩) hHeld rfl ?_
      (try simp only [Act.put, List.setIfInBounds_toArray, List.set_cons_zero, List.set_cons_succ])
      refine last_ (i := 14) (N := none) #[true, true, true, true, true, true, true, true, true, true, true, true, true, true, true] rfl rfl (by kernel_rfl) (by simp) (fun K hK => ?_)
      
      go_simp
      refine hK.out _ _ ?_
      clear hK K
      (try simp only [Act.put, List.setIfInBounds_toArray, List.set_cons_zero, List.set_cons_succ])
      refine done_ (by kernel_rfl) ?_
      go_wp2
      go_ret
      have hl4 : (M2.map hdr ++ [(s, (A5, n, c5))]).length = M2.length + 1 := by simp
      have ho4 := HO4.out
      have hat := HAT.out
      have ho3 := HO3.out
      rw [hl4] at ho4 hat
      rw [← HN.out] at ho3
      have hap := fun k hk => HR.out.wr_lt (k := k) hk
      have hf04 : Fr (Wr q (.slice A2 n2 cap2)) W0 w4 := (Fr.of_below HB3.out _).trans (HF4.out.mono (fun k hk => .inr hk))
      have hf05 : Fr (Wr q (.slice A2 n2 cap2)) W0 (w4.setCell ⟨q, 3, none⟩ (.slice A6 (M2.length + 1) c6)) := hf04.setCell (p := ⟨q, 3, none⟩) (.inl (.inl rfl)) _
      have hf35 : Fr (Wr q (.slice A2 n2 cap2)) w3 (w4.setCell ⟨q, 3, none⟩ (.slice A6 (M2.length + 1) c6)) := (HF4.out.mono (fun k hk => .inr hk)).setCell (p := ⟨q, 3, none⟩) (.inl (.inl rfl)) _
      have hbA : ∀ ad, A5 = some ad → W0.heap.size ≤ ad.block := Go.Proofs.Yteiejkkgckdihaa.Pu.R_far ho3 rfl
      have hno : ∀ ad, A5 = some ad → ¬ Wr q (.slice A2 n2 cap2) ad.block := fun ad e hk => by
        have h1 := hbA ad e
        have h2 := hap _ hk
        omega
      refine ⟨rfl, .slice A6 (M2.length + 1) c6, ⟨0, s, A5, c5, xs⟩, rfl, rfl, fun ad e => ?_, ?_, ?_, fun k hk => ?_⟩
      · exact Nat.le_trans HFW.out.size (hbA ad e)
      · rw [HST.out]
        refine HR.out.more hf05 (blk_put (HB4.out.trans HR.out.blk) 3 _ rfl) ?_ (fun y hy => ?_)
        · have e : (M2 ++ [(⟨0, s, A5, c5, xs⟩ : Ent)]).map hdr = M2.map hdr ++ [(s, (A5, n, c5))] := by rw [HN.out]; simp [hdr]
          rw [e]
          refine Kd.Q_mono (Kd.Q_far (p := ⟨q, 3, none⟩) (Kd.Q_tight (by rfl) ho4) (fun k hk e => ?_) _) (fun _ _ => trivial)
          obtain ⟨cells, h2⟩ := Kd.Q_typed ho4 k hk.symm
          simp only at e
          rw [e, HB4.out] at h2
          exact absurd (cells_ty HR.out.blk h2) (by decide)
        · rcases List.mem_append.1 hy with hy | hy
          · exact .inl hy
          · simp only [List.mem_singleton] at hy
            subst hy
            refine .inr ⟨?_, ?_, fun ad e hp => ⟨Nat.le_trans HBW.out (hbA ad e), ?_⟩⟩
            · exact hf35.C (Kd.R_reads' ho3).2.2 (fun ad e _ => hno ad e)
            · rw [← HN.out]
              exact (Kd.R_reads' ho3).2.1
            · obtain ⟨cells, h2⟩ := Kd.R_typed ho3 ad.block (by simp only at e; rw [e]; rfl)
              exact ⟨cells, (0, 0), (hf35.block ad.block (blk_lt h2) (hno ad e)).trans h2⟩
      · exact HFW.out.trans' hf05 (fun k hk => HOW.out k hk)
      · rcases hk with hk | hk
        · exact .inl (.inl hk)
        · rcases hat with hat | ⟨b, hb, hle⟩
          · rw [hat] at hk
            exact HOW.out k (.inr hk)
          · rw [hb] at hk
            injection hk with hk
            have h1 := HB3.out.size
            have h2 := HFW.out.size
            exact .inr (by omega)
end Go.Proofs.Yteiejkkgckdihaa.Rq
