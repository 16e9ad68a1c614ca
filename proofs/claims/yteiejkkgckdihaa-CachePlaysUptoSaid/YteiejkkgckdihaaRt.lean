/- The reference's cache: Get. -/
import Derived.Test.YteiejkkgckdihaaRq
namespace Go.Proofs.Yteiejkkgckdihaa.Rt
set_option linter.unusedVariables false
set_option linter.unusedSimpArgs false
open Go.Proofs.Yteiejkkgckdihaa.Sy Go.Proofs.Yteiejkkgckdihaa.Rq Go.Proofs.Yteiejkkgckdihaa.Rp Go.Proofs.Yteiejkkgckdihaa.Rc Go.Proofs.Yteiejkkgckdihaa.Tk Go.Proofs.Yteiejkkgckdihaa.Dw Go.RowKit Go.Proofs.YteiejkkgckdihaaW.PrintWords Go.Proofs.YteiejkkgckdihaaW.PrintLast Go.Proofs.YteiejkkgckdihaaW.PrintMore Go.Proofs.Yteiejkkgckdihaa.Fr Go.Proofs.Yteiejkkgckdihaa.Rg Go.Proofs.Yteiejkkgckdihaa.Mp Go.Proofs.Yteiejkkgckdihaa.Ca Go.Proofs.Yteiejkkgckdihaa.Dr Go.Proofs.Yteiejkkgckdihaa.Pk Go.Proofs.Yteiejkkgckdihaa.Pu Go.Proofs.Yteiejkkgckdihaa.Ge Go.Proofs.Yteiejkkgckdihaa.Kn Go.Proofs.Yteiejkkgckdihaa.Cx Go.Proofs.Yteiejkkgckdihaa.Bo Go.Proofs.Yteiejkkgckdihaa.Mv
theorem RL.count {w : World} {q B : Nat} {lim hi mi : Int} {S : Value} {M : List Ent} (h : RL w q B lim hi mi S M) (j : Nat) (u : Value) (hi' mi' : Int)
    (hj : #[Value.int .i64 lim, .int .i64 hi, .int .i64 mi, S].setIfInBounds j u = #[.int .i64 lim, .int .i64 hi', .int .i64 mi', S]) : RL (w.setCell ⟨q, j, none⟩ u) q B lim hi' mi' S M ∧ Fr (fun k => k = q) w (w.setCell ⟨q, j, none⟩ u) := by
  have hf : Fr (fun k => k = q) w (w.setCell ⟨q, j, none⟩ u) := (Fr.refl (fun k => k = q) w).setCell (p := ⟨q, j, none⟩) (.inl rfl) _
  refine ⟨h.turn (hf.mono (fun k hk => .inl hk)) (blk_put h.blk j u hj) ?_ (fun x hx => hx), hf⟩
  refine Kd.Q_mono (Kd.Q_far (p := ⟨q, j, none⟩) (Kd.Q_tight (by rfl) h.row) (fun k hk e => ?_) _) (fun _ _ => trivial)
  obtain ⟨cells, h2⟩ := Kd.Q_typed h.row k hk.symm
  simp only at e
  rw [e] at h2
  exact absurd (cells_ty h.blk h2) (by decide)
theorem rget_miss (w : World) (q B : Nat) (lim hi mi : Int) (S : Value) (M : List Ent) (s : ByteArray) (h : RL w q B lim hi mi S M) (hX : ∀ y ∈ M, y.key ≠ s) (hl : M.length ≤ 1048576) (hmi : 0 ≤ mi ∧ mi ≤ 4611686018427387904) :
    Calls Try.prog 29 #[PT q, .string s] w fun e w' => e = .returned (.tuple #[.slice none 0 0, .bool false]) ∧ RL w' q B lim hi (mi + 1) S M ∧ Fr (fun k => k = q) w w' := by
  have hpk := rpeek_miss w q B lim hi mi S M s h hX hl
  have H := Aside0.mk h
  obtain ⟨m1, m2⟩ := hmi
  have c2 := blk_cell h.blk 2
  have f2 := blk_frozen h.blk 2
  simp at c2
  clear h hX hl
  go_enter Try.func29, Try.ntmps29
  go_wp2_with fail
  refine hpk.mono ?_
  rintro e w1 ⟨rfl, rfl⟩
  clear hpk
  go_wp2
  go_ret2
  obtain ⟨h1, h2⟩ := RL.count H.out 2 (.int .i64 (mi + 1)) hi (mi + 1) rfl
  exact ⟨rfl, h1, h2⟩
theorem not_own {w : World} {q B n : Nat} {lim hi mi : Int} {A : Option Addr} {cap : Nat} {M : List Ent} (h : RL w q B lim hi mi (.slice A M.length cap) M) (hn : n = M.length) : ¬ (Value.slice A n cap).ownBlock = some q := by
  subst hn
  intro e
  obtain ⟨cells, h2⟩ := Kd.Q_typed h.row q e
  exact absurd (cells_ty h.blk h2) (by decide)
set_option maxHeartbeats 4000000 in
theorem rget_hit (w : World) (q B : Nat) (lim hi mi : Int) (S : Value) (X Y : List Ent) (x : Ent) (h : RL w q B lim hi mi S (X ++ x :: Y)) (hX : ∀ y ∈ X, y.key ≠ x.key) (hl : (X ++ x :: Y).length ≤ 1000000) (hB : B ≤ w.heap.size) (hhi : 0 ≤ hi ∧ hi ≤ 4611686018427387904) :
    Calls Try.prog 29 #[PT q, .string x.key] w fun e w' => e = .returned (.tuple #[.slice x.A x.val.length x.c, .bool true]) ∧ ∃ S', RL w' q B lim (hi + 1) mi S' (X ++ Y ++ [x]) ∧ Fr (Wr q S) w w' ∧ (∀ k, Wr q S' k → Wr q S k ∨ w.heap.size ≤ k) := by
  have hpk := rpeek_hit w q B lim hi mi S X Y x h hX (by omega)
  have H := Aside0.mk h
  obtain ⟨m1, m2⟩ := hhi
  have c1 := blk_cell h.blk 1
  have f1 := blk_frozen h.blk 1
  simp at c1
  obtain ⟨h1, f01⟩ := RL.count h 1 (.int .i64 (hi + 1)) (hi + 1) mi rfl
  obtain ⟨w1, hw1⟩ : ∃ w1, w1 = w.setCell ⟨q, 1, none⟩ (.int .i64 (hi + 1)) := ⟨_, rfl⟩
  rw [← hw1] at h1 f01
  have hdr := rdrop_hit w1 q B lim (hi + 1) mi S X Y x h1 hX (by omega) (Nat.le_trans hB f01.size)
  have HW1 := Aside0.mk hw1
  have F01 := Aside0.mk f01
  have HB := Aside0.mk hB
  have HL := Aside0.mk hl
  obtain ⟨key, hkey⟩ : ∃ key, key = x.key := ⟨_, rfl⟩
  obtain ⟨n, hn⟩ : ∃ n, n = x.val.length := ⟨_, rfl⟩
  rw [← hkey] at hpk hdr ⊢
  rw [← hn] at hpk ⊢
  have HK := Aside0.mk hkey
  have HN := Aside0.mk hn
  obtain ⟨Ax, hAx⟩ : ∃ Ax, Ax = x.A := ⟨_, rfl⟩
  obtain ⟨cx, hcx⟩ : ∃ cx, cx = x.c := ⟨_, rfl⟩
  rw [← hAx, ← hcx] at hpk ⊢
  have HAx := Aside0.mk hAx
  have HCx := Aside0.mk hcx
  clear h hX hl h1 hw1 f01 hB hkey hn hAx hcx
  go_enter Try.func29, Try.ntmps29
  go_wp2_with fail
  refine hpk.mono ?_
  rintro e w0 ⟨rfl, rfl⟩
  clear hpk
  go_wp2_with fail
  rw [← HW1.out]
  refine hdr.mono ?_
  rintro e w2 ⟨rfl, S1, h2, f12, o2⟩
  clear hdr c1 f1
  obtain ⟨A2, cap2, hS2, hcap2⟩ := S_form h2
  subst hS2
  have H2 := Aside0.mk h2
  have F12 := Aside0.mk f12
  have O2 := Aside0.mk o2
  have hq : q < w2.heap.size := h2.q_lt
  have c3 := blk_cell h2.blk 3
  have fz : w2.frozen? ⟨q, 3, none⟩ = false := blk_frozen h2.blk 3
  simp at c3
  obtain ⟨n2, hn2⟩ : ∃ n2, n2 = (X ++ Y).length := ⟨_, rfl⟩
  have c3' : w2.cell? ⟨q, 3, none⟩ = some (.slice A2 n2 cap2) := by rw [hn2]; simpa using c3
  have HR : Aside0 (KI.Q 70 w2 B (fun _ => True) (.slice A2 n2 cap2) ((X ++ Y).map hdr)) := ⟨by rw [hn2]; exact h2.row⟩
  have HL2 : Aside0 (n2 ≤ 1000000) := ⟨by have := HL.out; simp at this hn2; omega⟩
  have HN2 := Aside0.mk hn2
  have HBW : Aside0 (B ≤ w2.heap.size) := ⟨Nat.le_trans HB.out (Nat.le_trans F01.out.size f12.size)⟩
  clear h2 f12 o2 c3 hn2 hcap2
  go_wp2_with (first | ((with_reducible refine gate_builtin (b := .append) (xs := #[.tmp 37, .tmp 41]) rfl ?_); at_builtin; refine Kd.Q_append KI (w0 := w2) (W := w2) B rfl (.tmp 37) (.tmp 41) 64 70 (.agg #[.string ByteArray.empty, .slice none 0 0]) 40 rfl Try.underlying64 info70 rfl (by decide) (by omega) (.slice A2 n2 cap2) ((X ++ Y).map hdr) (key, (Ax, n, cx)) [.string key, .slice Ax n cx] (fun _ => True) (fun _ => False) ?aS ?aX ⟨[.string key], [.slice Ax n cx], rfl, rfl, rfl⟩ (fun _ h => h.elim) (fun _ _ => trivial) HR.out (Below.refl _ _) HBW.out ?aL ?_; (case aS => rfl); (case aX => rfl); (case aL => have h1 := HL2.out; have h2 := HN2.out; rw [List.length_map, ← h2]; omega); intro v50 w4 ho hb hg hat; have hf4 := grown_fr hg; have hqo : ¬ (Value.slice A2 n2 cap2).ownBlock = some q := not_own H2.out HN2.out; have hb4 : w4.heap[q]? = w2.heap[q]? := hf4.block q hq hqo; have hHeld : w4.cell? ⟨q, 3, none⟩ = some (.slice A2 n2 cap2) := (World.cell?_of_block (w := w2) (a := ⟨q, 3, none⟩) hb4).trans c3'; have hfz : w4.frozen? ⟨q, 3, none⟩ = false := (World.frozen?_of_block (w := w2) (a := ⟨q, 3, none⟩) hb4).trans fz; obtain ⟨A6, c6, rfl, _⟩ := Kd.Q_slice ho; have HO4 := Aside0.mk ho; have HF4 := Aside0.mk hf4; have HB4 := Aside0.mk hb4; have HAT := Aside0.mk hat; clear ho hb hg hat hf4 hb4 hqo))
  go_ret2
  have hl4 : ((X ++ Y).map hdr ++ [(key, (Ax, n, cx))]).length = X.length + Y.length + 1 := by simp; omega
  have ho4 := HO4.out
  have hat := HAT.out
  rw [hl4] at ho4 hat
  have hr := H2.out
  rw [← HN2.out] at hr
  have hf : Fr (Wr q (.slice A2 n2 cap2)) w2 (w4.setCell ⟨q, 3, none⟩ (.slice A6 (X.length + Y.length + 1) c6)) := (HF4.out.mono (fun k hk => .inr hk)).setCell (p := ⟨q, 3, none⟩) (.inl (.inl rfl)) _
  have hs0 : w0.heap.size ≤ w1.heap.size := F01.out.size
  have hs2 : w1.heap.size ≤ w2.heap.size := F12.out.size
  have hO : ∀ k, (Value.slice A2 n2 cap2).ownBlock = some k → w0.heap.size ≤ k := fun k hk => by
    have h1 := O2.out
    rw [← HN2.out] at h1
    rcases h1 with h1 | ⟨g, hg, hle⟩
    · rw [h1] at hk; cases hk
    · rw [hg] at hk; injection hk with hk; omega
  refine ⟨rfl, .slice A6 (X.length + Y.length + 1) c6, hr.more hf (blk_put (HB4.out.trans H2.out.blk) 3 _ rfl) ?_ (fun y hy => ?_), ?_, fun k hk => ?_⟩
  · have e : (X ++ Y ++ [x]).map hdr = (X ++ Y).map hdr ++ [(key, (Ax, n, cx))] := by rw [HN.out, HK.out, HAx.out, HCx.out]; simp [hdr]
    rw [e]
    refine Kd.Q_mono (Kd.Q_far (p := ⟨q, 3, none⟩) (Kd.Q_tight (by rfl) ho4) (fun k hk e => ?_) _) (fun _ _ => trivial)
    obtain ⟨cells, h2⟩ := Kd.Q_typed ho4 k hk.symm
    simp only at e
    rw [e, HB4.out] at h2
    exact absurd (cells_ty hr.blk h2) (by decide)
  · rcases List.mem_append.1 hy with hy | hy
    · exact .inl hy
    · simp only [List.mem_singleton] at hy
      subst hy
      have f02 : Fr (fun k => k = q) w0 w2 := F01.out.trans F12.out
      have hx := H.out.val y (by simp)
      have hfar := H.out.far y (by simp)
      have hap := H.out.apart y (by simp)
      have hnq : ∀ ad, y.A = some ad → 0 < y.val.length → ¬ ad.block = q := fun ad e hp hb => hap ad e hp (.inl hb)
      have hnw : ∀ ad, y.A = some ad → 0 < y.val.length → ¬ Wr q (.slice A2 n2 cap2) ad.block := fun ad e hp hb => by
        rcases hb with hb | hb
        · exact hnq ad e hp hb
        · have h1 := hO _ hb
          obtain ⟨_, cs, fz, hc⟩ := hfar ad e hp
          have := blk_lt hc
          omega
      refine .inr ⟨hf.C (f02.C hx.1 hnq) hnw, hx.2, fun ad e hp => ?_⟩
      obtain ⟨hb, cs, fz, hc⟩ := hfar ad e hp
      have hc2 := (f02.block ad.block (blk_lt hc) (hnq ad e hp)).trans hc
      exact ⟨hb, cs, fz, (hf.block ad.block (blk_lt hc2) (hnw ad e hp)).trans hc2⟩
  · refine ((F01.out.trans F12.out).mono (T := Wr q S) (fun k hk => .inl hk)).trans' hf (fun k hk => ?_)
    rcases hk with hk | hk
    · exact .inl (.inl hk)
    · exact .inr (hO k hk)
  · rcases hk with hk | hk
    · exact .inl (.inl hk)
    · rcases hat with hat | ⟨b, hb, hle⟩
      · rw [hat] at hk
        exact .inr (hO k hk)
      · rw [hb] at hk
        injection hk with hk
        exact .inr (by omega)
end Go.Proofs.Yteiejkkgckdihaa.Rt
