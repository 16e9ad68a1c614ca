/- The document's Pack, walked. -/
import Derived.Test.YtdohacnjngkkiaaEp
import Derived.Test.YtdohacnjngkkiaaLk
namespace Go.Proofs.Ytdohacnjngkkiaa.Rq
open Go.RowKit Go.Proofs.Ytdohacnjngkkiaa.A Go.Proofs.Ytdohacnjngkkiaa.Pm Go.Proofs.Ytdohacnjngkkiaa.Pq Go.Proofs.Ytdohacnjngkkiaa.Sr Go.Proofs.Ytdohacnjngkkiaa.Kn Go.Proofs.Ytdohacnjngkkiaa.Wp Go.Proofs.Ytdohacnjngkkiaa.Jp Go.Proofs.Ytdohacnjngkkiaa.Ep
set_option linter.unusedVariables false
def Srt (t : List S40) : Prop := t.Pairwise fun x y => ¬ lessM y x
theorem ins_sorted {t : List S40} {y : S40} {kk : Nat} (h : Srt t) (hk : kk ≤ t.length) (hg : ∀ x ∈ t.drop kk, lessM y x) (hl : ∀ p (hp : p < t.length), p + 1 = kk → ¬ lessM y t[p]) :
    Srt (t.take kk ++ [y] ++ t.drop kk) := by
  unfold Srt at *
  have hp := List.pairwise_iff_getElem.1 h
  have htk : ∀ x ∈ t.take kk, ¬ lessM y x := by
    intro x hx
    obtain ⟨p, hp1, rfl⟩ := List.getElem_of_mem hx
    rw [List.length_take] at hp1
    rw [List.getElem_take]
    by_cases e : p + 1 = kk
    · exact hl p (by omega) e
    · have h1 := hl (kk - 1) (by omega) (by omega)
      have h2 := hp p (kk - 1) (by omega) (by omega) (by omega)
      unfold lessM at *
      omega
  rw [List.append_assoc, List.pairwise_append]
  have h0 : (t.take kk ++ t.drop kk).Pairwise fun x y => ¬ lessM y x := by rw [List.take_append_drop]; exact h
  rw [List.pairwise_append] at h0
  refine ⟨h0.1, ?_, ?_⟩
  · rw [List.singleton_append, List.pairwise_cons]
    refine ⟨fun x hx => ?_, h0.2.1⟩
    have := hg x hx
    unfold lessM at *
    omega
  · intro a ha b hb
    rw [List.singleton_append] at hb
    rcases List.mem_cons.1 hb with rfl | hb
    · exact htk a ha
    · exact h0.2.2 a ha b hb
theorem ins_perm {α : Type} (t : List α) (y : α) (kk : Nat) : (t.take kk ++ [y] ++ t.drop kk).Perm (t ++ [y]) := by
  have h1 : (t.take kk ++ [y] ++ t.drop kk).Perm (t.take kk ++ (t.drop kk ++ [y])) := by
    rw [List.append_assoc]
    exact List.Perm.append_left _ List.perm_append_comm
  refine h1.trans ?_
  rw [← List.append_assoc, List.take_append_drop]
theorem run_iff {lv mx : Int} : ∀ (r : List S40) (t : Int), (∀ x ∈ r, 0 ≤ x.f6) → (runOk lv mx t r = true ↔ (∀ x ∈ r, x.f7 = lv) ∧ (r ≠ [] → t + sumI (r.map (·.f6)) ≤ mx))
  | [], t, _ => by unfold runOk; simp
  | y :: r, t, h => by
    have ih := run_iff (lv := lv) (mx := mx) r (t + y.f6) (fun x hx => h x (List.mem_cons_of_mem _ hx))
    have hs : 0 ≤ sumI (r.map (·.f6)) := by
      have : ∀ (l : List S40), (∀ x ∈ l, 0 ≤ x.f6) → 0 ≤ sumI (l.map (·.f6)) := by
        intro l
        induction l with
        | nil => intro _; simp [sumI]
        | cons a t ih => intro hh; rw [List.map_cons, sum_cons]; have := ih (fun x hx => hh x (List.mem_cons_of_mem _ hx)); have := hh a (List.mem_cons_self); omega
      exact this r (fun x hx => h x (List.mem_cons_of_mem _ hx))
    unfold runOk
    simp only [Bool.and_eq_true, decide_eq_true_eq, ih, List.map_cons, sum_cons]
    constructor
    · rintro ⟨h1, h2, h3, h4⟩
      refine ⟨fun x hx => ?_, fun _ => ?_⟩
      · rcases List.mem_cons.1 hx with rfl | hx
        · exact h1
        · exact h3 x hx
      · cases r with
        | nil => simp [sumI]; omega
        | cons a b => have := h4 (by simp); omega
    · rintro ⟨h1, h2⟩
      have h3 := h2 (by simp)
      exact ⟨h1 y (List.mem_cons_self), by omega, fun x hx => h1 x (List.mem_cons_of_mem _ hx), fun _ => by omega⟩
end Go.Proofs.Ytdohacnjngkkiaa.Rq
namespace Go.Proofs.Ytdohacnjngkkiaa.Rk
set_option linter.unusedVariables false
set_option linter.unusedSimpArgs false
open Go.Proofs.Ytdohacnjngkkiaa.Rq Go.Proofs.Ytdohacnjngkkiaa.Ep Go.Proofs.Ytdohacnjngkkiaa.Jp Go.Proofs.Ytdohacnjngkkiaa.Wp Go.Proofs.Ytdohacnjngkkiaa.Lk Go.Proofs.Ytdohacnjngkkiaa.Kn Go.Proofs.Ytdohacnjngkkiaa.Rl Go.Proofs.Ytdohacnjngkkiaa.Sm Go.Proofs.Ytdohacnjngkkiaa.Sr Go.Proofs.Ytdohacnjngkkiaa.Pk Go.Proofs.Ytdohacnjngkkiaa.Pq Go.Proofs.Ytdohacnjngkkiaa.Pw Go.Shelf Go.RowKit Go.Proofs.YtdohacnjngkkiaaW.PrintWords Go.Proofs.YtdohacnjngkkiaaW.PrintLast Go.Proofs.YtdohacnjngkkiaaW.PrintMore Go.Proofs.Ytdohacnjngkkiaa.Fr Go.Proofs.Ytdohacnjngkkiaa.A Go.Proofs.Ytdohacnjngkkiaa.Pm Go.Proofs.Ytdohacnjngkkiaa.Pf Go.Proofs.Ytdohacnjngkkiaa.Pi Go.Proofs.Ytdohacnjngkkiaa.Pc Go.Proofs.Ytdohacnjngkkiaa.Pd
theorem info44 : (Try.prog.info? 44).map (fun i => (i.zero, i.size, i.bytes)) = some (some (.agg #[.int .i64 0, .int .i64 0, .int .i64 0, .int .i64 0, .int .i64 0, .int .i64 0, .int .i64 0, .int .i64 0]), 8, 64) := by kernel_rfl
def cells44 (x : S44) : List Value := [.int .i64 x.f0, .int .i64 x.f1, .int .i64 x.f2, .int .i64 x.f3, .int .i64 x.f4, .int .i64 x.f5, .int .i64 x.f6, .int .i64 x.f7]
/-- the cells of an element -/
theorem el44 {w : World} {A : Option Addr} {n : Nat} {l : List S44} (h : k44.C w A n l) (i : Nat) (hi : i < l.length) : ∃ ad, A = some ad ∧
    w.cell? (ad.add (i * 8)) = some (.int .i64 l[i].f0) ∧ w.cell? ⟨(ad.add (i * 8)).block, (ad.add (i * 8)).off + 1, none⟩ = some (.int .i64 l[i].f1) ∧ w.cell? ⟨(ad.add (i * 8)).block, (ad.add (i * 8)).off + 2, none⟩ = some (.int .i64 l[i].f2) ∧
    w.cell? ⟨(ad.add (i * 8)).block, (ad.add (i * 8)).off + 3, none⟩ = some (.int .i64 l[i].f3) ∧ w.cell? ⟨(ad.add (i * 8)).block, (ad.add (i * 8)).off + 4, none⟩ = some (.int .i64 l[i].f4) ∧ w.cell? ⟨(ad.add (i * 8)).block, (ad.add (i * 8)).off + 5, none⟩ = some (.int .i64 l[i].f5) ∧
    w.cell? ⟨(ad.add (i * 8)).block, (ad.add (i * 8)).off + 6, none⟩ = some (.int .i64 l[i].f6) ∧ w.cell? ⟨(ad.add (i * 8)).block, (ad.add (i * 8)).off + 7, none⟩ = some (.int .i64 l[i].f7) := by
  have hl := Kd.C_len h
  have h1 := at_T44 h (i : Int) (by omega) (by omega)
  have e : rd_T44 l (i : Int) = l[i] := by unfold rd_T44; simp [List.getD_eq_getElem?_getD, List.getElem?_eq_getElem hi]
  rw [e] at h1
  simpa using h1
theorem lit44 {w : World} {b : Nat} {y : S44} (h : w.heap[b]? = some (.cells (cells44 y).toArray 44 (0, 0))) : k44.C w (some ⟨b, 0, none⟩) 1 [y] := by
  have hR : k44.R 44 w 0 (fun _ => True) (.slice (some ⟨b, 0, none⟩) 1 1) [y] := by
    refine ⟨fun _ _ => trivial, cells44 y, ⟨rfl, .inr ⟨b, 1, _, rfl, Nat.zero_le _, h, Nat.le_refl _, by simp [maxLen], rfl, rfl⟩⟩, ?_⟩
    exact (Reps.none _ _).snoc (k44_mkM _ _ _ y) rfl
  exact (Kd.R_reads' hR).2.2
def LC (ad : Addr) (i : Nat) (y : S44) (W : World) : Prop := W.cell? (ad.add (i * 8)) = some (.int .i64 y.f0) ∧ W.cell? ⟨(ad.add (i * 8)).block, (ad.add (i * 8)).off + 1, none⟩ = some (.int .i64 y.f1) ∧ W.cell? ⟨(ad.add (i * 8)).block, (ad.add (i * 8)).off + 2, none⟩ = some (.int .i64 y.f2) ∧ W.cell? ⟨(ad.add (i * 8)).block, (ad.add (i * 8)).off + 3, none⟩ = some (.int .i64 y.f3) ∧ W.cell? ⟨(ad.add (i * 8)).block, (ad.add (i * 8)).off + 4, none⟩ = some (.int .i64 y.f4) ∧ W.cell? ⟨(ad.add (i * 8)).block, (ad.add (i * 8)).off + 5, none⟩ = some (.int .i64 y.f5) ∧ W.cell? ⟨(ad.add (i * 8)).block, (ad.add (i * 8)).off + 6, none⟩ = some (.int .i64 y.f6) ∧ W.cell? ⟨(ad.add (i * 8)).block, (ad.add (i * 8)).off + 7, none⟩ = some (.int .i64 y.f7)
theorem LC_below {ad : Addr} {i : Nat} {y : S44} {w W : World} (h : LC ad i y w) (hb : Below w.heap.size w W) : LC ad i y W := by
  obtain ⟨c0, c1, c2, c3, c4, c5, c6, c7⟩ := h
  exact ⟨(hb.cell (World.block_lt_of_cell? w _ c0)).trans c0, (hb.cell (World.block_lt_of_cell? w _ c1)).trans c1, (hb.cell (World.block_lt_of_cell? w _ c2)).trans c2, (hb.cell (World.block_lt_of_cell? w _ c3)).trans c3, (hb.cell (World.block_lt_of_cell? w _ c4)).trans c4, (hb.cell (World.block_lt_of_cell? w _ c5)).trans c5, (hb.cell (World.block_lt_of_cell? w _ c6)).trans c6, (hb.cell (World.block_lt_of_cell? w _ c7)).trans c7⟩
theorem grown_far {w w1 : World} {row : Option Nat} {b : Nat} {o : Obj} (hg : w.grownBy w1 row) (h : w.heap[b]? = some o) (hne : some b ≠ row) : w1.heap[b]? = some o := (hg.block b (blk_lt h) hne).trans h
theorem lit_step {ops : Array Oper} {o : Oper} {a : Act} {Q : Exit → Act → World → Prop} {W : World} {Kc : Act → World → Prop} (hw : Region.wanted o (yielded ops a.tmps) = true) {N : Tmp} (_hd : o.dst = some N) {cs : Array Value} {t : TypeId}
    (hrun : (execOp a.eval o).run Try.prog W = .ok (.value (.slice (some ⟨W.heap.size, 0, none⟩) 1 1)) (W.alloc (.cells cs t (0, 0))))
    (h : ∀ g, g = W.heap.size → ∀ w1, w1.heap[g]? = some (.cells cs t (0, 0)) → Below W.heap.size W w1 → Kc (a.put o.dst (.slice (some ⟨g, 0, none⟩) 1 1)) w1) : if Region.wanted o (yielded ops a.tmps) = true then Oper.wp Try.prog o a W Kc Q else Kc (a.put o.dst undef) W :=
  event_step hw hrun (h _ rfl _ (blk_new W _) (below_alloc (Below.refl _ _) _))
theorem rfine_calls (A : Option Addr) (c : Nat) (l : List S44) (w : World) (hC : k44.C w A l.length l) (hc : l.length ≤ c) (hl : l.length ≤ 1048576) :
    Calls Try.prog 27 #[.slice A l.length c] w fun e w' => e = .returned (.bool (fineB (l.map cv))) ∧ Below w.heap.size w w' := by
  obtain ⟨K, hK⟩ := fine_is l hl
  exact icehouseref09_Fine.calls K A c l _ w hC hc (hK K (Nat.le_refl _))
theorem rover1 (x : S44) (keep now : Int) (w : World) : Calls Try.prog 38 #[.agg #[.int .i64 x.f0, .int .i64 x.f1, .int .i64 x.f2, .int .i64 x.f3, .int .i64 x.f4, .int .i64 x.f5, .int .i64 x.f6, .int .i64 x.f7], .int .i64 keep, .int .i64 now] w fun e w' => e = .returned (.bool (overB keep now (cv x))) ∧ Below w.heap.size w w' :=
  icehouseref09_over.calls x.f0 x.f1 x.f2 x.f3 x.f4 x.f5 x.f6 x.f7 keep now _ w (rover_is x keep now)
theorem below_low {B B' : Nat} {w w' : World} (h : Below B' w w') (hB : B ≤ B') : Below B w w' := ⟨h.os, h.tape, h.output, h.size, fun k hk => h.block k (by omega)⟩
def RPost (l : List S44) (fan mx keep now : Int) (w : World) (e : Ending) (w' : World) : Prop := ∃ v t, e = .returned v ∧ t.Perm ((l.map cv).filter (fun x => !overB keep now x)) ∧ (t.Pairwise fun x y => ¬ lessM y x) ∧
      (Kd.int .i64).R 3 w' w.heap.size (fun _ => True) v (packR (l.map cv) t fan mx keep) ∧ Below w.heap.size w w'
set_option maxHeartbeats 16000000 in
set_option maxRecDepth 100000 in
theorem rpack_calls (A : Option Addr) (c : Nat) (l : List S44) (fan mx keep now : Int) (w : World) (hC : k44.C w A l.length l) (hc : l.length ≤ c) (hl : l.length ≤ 1048576) :
    Calls Try.prog 22 #[.slice A l.length c, .agg #[.int .i64 fan, .int .i64 mx, .int .i64 keep], .int .i64 now] w fun e w' => RPost l fan mx keep now w e w' := by
  obtain ⟨w1, hw1⟩ : ∃ w1, w1 = w.alloc (.cells #[.int .i64 fan, .int .i64 mx, .int .i64 keep] 33) := ⟨_, rfl⟩
  have b1 : Below w.heap.size w w1 := by rw [hw1]; exact below_alloc (Below.refl _ _) _
  have k1 : w1.heap[w.heap.size]? = some (.cells #[.int .i64 fan, .int .i64 mx, .int .i64 keep] 33 (0, 0)) := by rw [hw1]; exact blk_new _ _
  have HB := Aside0.mk b1
  have HK1 := Aside0.mk k1
  have f0 := blk_cell k1 0
  have f1 := blk_cell k1 1
  have f2 := blk_cell k1 2
  simp at f0 f1 f2
  have hf := rfine_calls A c l w1 (Kd.C_below hC b1) hc hl
  obtain ⟨s0, hp0, hs0⟩ := srt_exists ((l.map cv).filter (fun x => !overB keep now x))
  have HP0 := Aside0.mk hp0
  have HS0 := Aside0.mk hs0
  have HC := Aside0.mk hC
  have HCC := Aside0.mk hc
  obtain ⟨n, hn⟩ : ∃ n, n = l.length := ⟨_, rfl⟩
  rw [← hn] at hf hl ⊢
  have HN := Aside0.mk hn
  have HL := Aside0.mk hl
  clear hp0 hs0 hC hc hn hl b1 k1
  by_cases g1 : fan < 2
  · have HZ : Aside0 (∀ s, packR (l.map cv) s fan mx keep = []) := ⟨fun s => by unfold packR; rw [if_pos (.inl g1)]⟩
    have d1 : decide (fan < 2) = true := by simpa using g1
    clear hf
    go_enter Try.func22, Try.ntmps22
    go_upto_region 1 with fail
    rw [← hw1]
    clear hw1
    go_wp2
    go_ret
    exact ⟨_, s0, rfl, HP0.out, HS0.out, by rw [HZ.out]; exact Kd.R_nil _ _ _ _ _, HB.out⟩
  by_cases g2 : 16 < fan
  · have HZ : Aside0 (∀ s, packR (l.map cv) s fan mx keep = []) := ⟨fun s => by unfold packR; rw [if_pos (.inr (.inl g2))]⟩
    have d1 : decide (fan < 2) = false := by simpa using g1
    have d2 : decide (16 < fan) = true := by simpa using g2
    clear hf
    go_enter Try.func22, Try.ntmps22
    go_upto_region 1 with fail
    rw [← hw1]
    clear hw1
    go_wp2
    go_ret
    exact ⟨_, s0, rfl, HP0.out, HS0.out, by rw [HZ.out]; exact Kd.R_nil _ _ _ _ _, HB.out⟩
  by_cases g3 : mx < 1
  · have HZ : Aside0 (∀ s, packR (l.map cv) s fan mx keep = []) := ⟨fun s => by unfold packR; rw [if_pos (.inr (.inr (.inl g3)))]⟩
    have d1 : decide (fan < 2) = false := by simpa using g1
    have d2 : decide (16 < fan) = false := by simpa using g2
    have d3 : decide (mx < 1) = true := by simpa using g3
    clear hf
    go_enter Try.func22, Try.ntmps22
    go_upto_region 1 with fail
    rw [← hw1]
    clear hw1
    go_wp2
    go_ret
    exact ⟨_, s0, rfl, HP0.out, HS0.out, by rw [HZ.out]; exact Kd.R_nil _ _ _ _ _, HB.out⟩
  by_cases g4 : keep < 1
  · have HZ : Aside0 (∀ s, packR (l.map cv) s fan mx keep = []) := ⟨fun s => by unfold packR; rw [if_pos (.inr (.inr (.inr (.inl g4))))]⟩
    have d1 : decide (fan < 2) = false := by simpa using g1
    have d2 : decide (16 < fan) = false := by simpa using g2
    have d3 : decide (mx < 1) = false := by simpa using g3
    have d4 : decide (keep < 1) = true := by simpa using g4
    clear hf
    go_enter Try.func22, Try.ntmps22
    go_upto_region 1 with fail
    rw [← hw1]
    clear hw1
    go_wp2
    go_ret
    exact ⟨_, s0, rfl, HP0.out, HS0.out, by rw [HZ.out]; exact Kd.R_nil _ _ _ _ _, HB.out⟩
  by_cases g5f : fineB (l.map cv) = false
  · have HZ : Aside0 (∀ s, packR (l.map cv) s fan mx keep = []) := ⟨fun s => by unfold packR; rw [if_pos (.inr (.inr (.inr (.inr g5f))))]⟩
    have d1 : decide (fan < 2) = false := by simpa using g1
    have d2 : decide (16 < fan) = false := by simpa using g2
    have d3 : decide (mx < 1) = false := by simpa using g3
    have d4 : decide (keep < 1) = false := by simpa using g4
    rw [g5f] at hf
    go_enter Try.func22, Try.ntmps22
    go_upto_region 1 with fail
    rw [← hw1]
    clear hw1
    go_wp2_with fail
    refine hf.mono ?_
    rintro e w3 ⟨rfl, hb3⟩
    have HB3 := Aside0.mk (below_step HB.out hb3)
    clear hf hb3
    go_wp2
    go_ret
    exact ⟨_, s0, rfl, HP0.out, HS0.out, by rw [HZ.out]; exact Kd.R_nil _ _ _ _ _, HB3.out⟩
  have g5 : fineB (l.map cv) = true := by simpa using g5f
  obtain ⟨F, rfl⟩ : ∃ F : Nat, fan = (F : Int) := ⟨fan.toNat, by omega⟩
  have HF : Aside0 (2 ≤ F ∧ F ≤ 16) := ⟨by omega⟩
  have HFL := Aside0.mk (fine_iff.1 g5)
  have HPR : Aside0 (∀ s, packR (l.map cv) s F mx keep = ((packS F mx s).getD []).map (·.f0)) := ⟨fun s => by unfold packR; rw [if_neg (by rintro (h | h | h | h | h); exact g1 h; exact g2 h; exact g3 h; exact g4 h; exact g5f h)]; rfl⟩
  have d1 : decide ((F : Int) < 2) = false := by simpa using g1
  have d2 : decide (16 < (F : Int)) = false := by simpa using g2
  have d3 : decide (mx < 1) = false := by simpa using g3
  have d4 : decide (keep < 1) = false := by simpa using g4
  rw [g5] at hf
  have HMX : Aside0 (1 ≤ mx) := ⟨by omega⟩
  obtain ⟨b4, hb4⟩ : ∃ b4, b4 = w.heap.size := ⟨_, rfl⟩
  rw [← hb4] at HK1 f0 f1 f2
  have HL4 : Aside0 (b4 < w1.heap.size) := ⟨blk_lt HK1.out⟩
  clear g1 g2 g3 g4 g5 g5f
  go_enter Try.func22, Try.ntmps22
  go_upto_region 1 with fail
  rw [← hw1, ← hb4]
  clear hw1 hb4
  go_wp2_with fail
  refine hf.mono ?_
  rintro e w3 ⟨rfl, hb3⟩
  have HB3 := Aside0.mk hb3
  clear hf hb3 d1 d2 d3 d4 f0 f1 f2
  go_wp2_with fail
  go_loopg [7, 8] n (fun g s7 s8 wx => ∃ (i m cs : Nat) (As : Option Addr) (s : List S44), s8 = .int .i64 (i : Int) ∧ s7 = .slice As m cs ∧ Aside0 (i + g = n) ∧ Aside0 (Below w1.heap.size w1 wx) ∧ Aside0 (k44.R 44 wx w1.heap.size (fun _ => True) (.slice As m cs) s) ∧ Aside0 (m = s.length ∧ m ≤ cs) ∧ Aside0 ((s.map cv).Perm (((l.take i).map cv).filter (fun x => !overB keep now x))) ∧ Aside0 (Srt (s.map cv)))
  case atStart => exact ⟨0, 0, 0, none, [], rfl, rfl, ⟨Nat.zero_add _⟩, HB3, ⟨Kd.R_nil _ _ _ _ _⟩, ⟨rfl, Nat.le_refl _⟩, ⟨List.Perm.nil⟩, ⟨List.Pairwise.nil⟩⟩
  case round =>
    obtain ⟨i, m, cs, As, s, rfl, rfl, HG, HBJ, HRJ, HM, HP, HSO⟩ := hrel
    by_cases hi : (i : Int) < n
    · have hil : i < l.length := by have := HN.out; omega
      have HCW := Aside0.mk (Kd.C_below HC.out (below_then HB.out HB.out.size HBJ.out))
      obtain ⟨ad, hA, c0, c1, c2, c3, c4, c5, c6, c7⟩ := el44 HCW.out i hil
      subst hA
      have HTK : Aside0 (((l.take (i + 1)).map cv).filter (fun x => !overB keep now x) = ((l.take i).map cv).filter (fun x => !overB keep now x) ++ (if overB keep now (cv l[i]) = true then [] else [cv l[i]])) := ⟨by
        rw [List.take_succ_eq_append_getElem hil, List.map_append, List.filter_append]
        by_cases h : overB keep now (cv l[i]) = true
        · rw [if_pos h]; simp [List.filter_cons, h]
        · rw [if_neg h]; simp [List.filter_cons, h]⟩
      obtain ⟨y, hy⟩ : ∃ y, y = l[i] := ⟨_, rfl⟩
      rw [← hy] at c0 c1 c2 c3 c4 c5 c6 c7 HTK
      have HY : Aside0 (∃ h : i < l.length, y = l[i]) := ⟨hil, hy⟩
      have HCELL : Aside0 (wr.cell? (ad.add (i * 8)) = some (.int .i64 y.f0) ∧ wr.cell? ⟨(ad.add (i * 8)).block, (ad.add (i * 8)).off + 1, none⟩ = some (.int .i64 y.f1) ∧ wr.cell? ⟨(ad.add (i * 8)).block, (ad.add (i * 8)).off + 2, none⟩ = some (.int .i64 y.f2) ∧ wr.cell? ⟨(ad.add (i * 8)).block, (ad.add (i * 8)).off + 3, none⟩ = some (.int .i64 y.f3) ∧ wr.cell? ⟨(ad.add (i * 8)).block, (ad.add (i * 8)).off + 4, none⟩ = some (.int .i64 y.f4) ∧ wr.cell? ⟨(ad.add (i * 8)).block, (ad.add (i * 8)).off + 5, none⟩ = some (.int .i64 y.f5) ∧ wr.cell? ⟨(ad.add (i * 8)).block, (ad.add (i * 8)).off + 6, none⟩ = some (.int .i64 y.f6) ∧ wr.cell? ⟨(ad.add (i * 8)).block, (ad.add (i * 8)).off + 7, none⟩ = some (.int .i64 y.f7)) := ⟨c0, c1, c2, c3, c4, c5, c6, c7⟩
      have hk4 := (HBJ.out.block b4 HL4.out).trans HK1.out
      have g2 := blk_cell hk4 2
      simp at g2
      have HG2 := Aside0.mk g2
      clear hy hil c0 c1 c2 c3 c4 c5 c6 c7 hk4 g2
      have hn20 : n ≤ 1048576 := HL.out
      have hncc : n ≤ c := by have := HCC.out; have := HN.out; omega
      go_upto_region 7 with fail
      have HBD : Aside0 (Below wr.heap.size wr wr.drew) := ⟨below_drew (Below.refl _ _)⟩
      refine start_ (S := fun W => W.cell? (ad.add (i * 8)) = some (.int .i64 y.f0) ∧ W.cell? ⟨(ad.add (i * 8)).block, (ad.add (i * 8)).off + 1, none⟩ = some (.int .i64 y.f1) ∧ W.cell? ⟨(ad.add (i * 8)).block, (ad.add (i * 8)).off + 2, none⟩ = some (.int .i64 y.f2) ∧ W.cell? ⟨(ad.add (i * 8)).block, (ad.add (i * 8)).off + 3, none⟩ = some (.int .i64 y.f3) ∧ W.cell? ⟨(ad.add (i * 8)).block, (ad.add (i * 8)).off + 4, none⟩ = some (.int .i64 y.f4) ∧ W.cell? ⟨(ad.add (i * 8)).block, (ad.add (i * 8)).off + 5, none⟩ = some (.int .i64 y.f5) ∧ W.cell? ⟨(ad.add (i * 8)).block, (ad.add (i * 8)).off + 6, none⟩ = some (.int .i64 y.f6) ∧ W.cell? ⟨(ad.add (i * 8)).block, (ad.add (i * 8)).off + 7, none⟩ = some (.int .i64 y.f7) ∧ W.cell? ⟨b4, 2, none⟩ = some (.int .i64 keep)) (ds := [7]) #[false, false, false, false, false, false, false, false] (by kernel_rfl) rfl rfl ⟨HCELL.out.1, HCELL.out.2.1, HCELL.out.2.2.1, HCELL.out.2.2.2.1, HCELL.out.2.2.2.2.1, HCELL.out.2.2.2.2.2.1, HCELL.out.2.2.2.2.2.2.1, HCELL.out.2.2.2.2.2.2.2, HG2.out⟩ (fun hHeld => ?_)
      refine pure_ (i := 0) (N := some 44) #[true, false, false, false, false, false, false, false] rfl rfl (by kernel_rfl) (fun _ _ _ h => h) (.inl ⟨by rfl, by (intro w; go_simp <;> with_reducible rfl)⟩) rfl ?_
      (try simp only [Act.put, List.setIfInBounds_toArray, List.set_cons_zero, List.set_cons_succ])
      refine pure_ (i := 1) (N := some 45) #[true, true, false, false, false, false, false, false] rfl rfl (by kernel_rfl) (fun _ _ _ h => h) (.inl ⟨by rfl, by (intro w; go_simp <;> with_reducible rfl)⟩) rfl ?_
      (try simp only [Act.put, List.setIfInBounds_toArray, List.set_cons_zero, List.set_cons_succ])
      refine pure_ (i := 2) (N := some 46) #[true, true, true, false, false, false, false, false] rfl rfl (by kernel_rfl) (fun _ _ _ h => h) (.inl ⟨by rfl, by (intro w; go_simp <;> with_reducible rfl)⟩) rfl ?_
      (try simp only [Act.put, List.setIfInBounds_toArray, List.set_cons_zero, List.set_cons_succ])
      refine pure_ (i := 4) (N := some 48) #[true, true, true, false, true, false, false, false] rfl rfl (by kernel_rfl) (fun _ _ _ h => h) (.inl ⟨by rfl, by (intro w; go_simp <;> with_reducible rfl)⟩) rfl ?_
      (try simp only [Act.put, List.setIfInBounds_toArray, List.set_cons_zero, List.set_cons_succ])
      refine pure_ (i := 6) (N := some 50) #[true, true, true, false, true, false, true, false] rfl rfl (by kernel_rfl) (fun _ _ _ h => h) (.inl ⟨by rfl, by (intro w; go_simp <;> with_reducible rfl)⟩) rfl ?_
      (try simp only [Act.put, List.setIfInBounds_toArray, List.set_cons_zero, List.set_cons_succ])
      refine take_ (i := 3) (N := some 47) #[true, true, true, true, true, false, true, false] rfl rfl (by kernel_rfl) (fun _ _ _ h => h) (.inl ⟨by rfl, by (intro w hSw; (try dsimp only at hSw); go_simp <;> with_reducible rfl)⟩) hHeld rfl ?_
      (try simp only [Act.put, List.setIfInBounds_toArray, List.set_cons_zero, List.set_cons_succ])
      refine take_ (i := 5) (N := some 49) #[true, true, true, true, true, true, true, false] rfl rfl (by kernel_rfl) (fun _ _ _ h => h) (.inl ⟨by rfl, by (intro w hSw; (try dsimp only at hSw); go_simp <;> with_reducible rfl)⟩) hHeld rfl ?_
      (try simp only [Act.put, List.setIfInBounds_toArray, List.set_cons_zero, List.set_cons_succ])
      refine last_ (i := 7) (N := some 51) #[true, true, true, true, true, true, true, true] rfl rfl (by kernel_rfl) (by simp) (fun K hK => ?_)
      refine goes_ Try.func38 (by kernel_rfl) rfl #[.agg #[.int .i64 y.f0, .int .i64 y.f1, .int .i64 y.f2, .int .i64 y.f3, .int .i64 y.f4, .int .i64 y.f5, .int .i64 y.f6, .int .i64 y.f7], .int .i64 keep, .int .i64 now] (by rfl) rfl rfl (by simp only [List.map_toArray, List.map_cons, List.map_nil]; rfl) ?_
      with_reducible refine (rover1 y keep now _).mono ?_
      rintro e wn7 ⟨rfl, hb⟩
      refine ⟨_, rfl, ?_⟩
      have HBE : Aside0 (Below wr.heap.size wr wn7) := ⟨below_step HBD.out hb⟩
      clear hb
      refine hK.out _ _ ?_
      clear hK K
      refine norm_ (a' := ?_) ?_ ?_
      rotate_left
      · show Act.put _ (some 51) _ = _
        simp only [Act.put, List.setIfInBounds_toArray, List.set_cons_zero, List.set_cons_succ]
        rfl
      refine done_ (by kernel_rfl) ?_
      have HBP := Aside0.mk (HBJ.out.trans (below_low HBE.out HBJ.out.size))
      have HRP := Aside0.mk (Kd.R_below HRJ.out HBE.out)
      obtain ⟨wP, hwP⟩ : ∃ wP, wP = wn7 := ⟨_, rfl⟩
      rw [← hwP] at HBP HRP ⊢
      clear hwP
      cases hov : overB keep now (cv y) with
      | true =>
        have HTK2 := HTK.out
        rw [if_pos hov, List.append_nil] at HTK2
        have HTK3 := Aside0.mk HTK2
        clear hov HTK2
        go_wp2
        go_roundg (gk - 1)
        case measure => have h1 := HG.out; omega
        case rel => exact ⟨i + 1, m, cs, As, s, by go_num, rfl, ⟨by have h1 := HG.out; omega⟩, HBP, HRP, HM, ⟨by rw [HTK3.out]; exact HP.out⟩, HSO⟩
      | false =>
        have HTK2 := HTK.out
        rw [if_neg (by rw [hov]; decide)] at HTK2
        have HTK3 := Aside0.mk HTK2
        clear hov HTK2
        obtain ⟨ga, rfl⟩ : ∃ ga, ga = gk := ⟨_, rfl⟩
        obtain ⟨wo, rfl⟩ : ∃ wo, wo = wr := ⟨_, rfl⟩
        have HCP := Aside0.mk (Kd.R_reads' HRP.out).2.2
        have HCL := Aside0.mk (Kd.C_below HC.out (below_then HB.out HB.out.size HBP.out))
        have hms : m ≤ 1048576 := by
          have h1 := HP.out.length_eq
          rw [List.length_map] at h1
          have h2 := List.length_filter_le (fun x => !overB keep now x) ((l.take i).map cv)
          rw [List.length_map, List.length_take] at h2
          have := HM.out.1
          have := HL.out
          have := HN.out
          omega
        have HMS := Aside0.mk hms
        go_wp2_with fail
        go_loopg [9] m (fun g s9 wx => ∃ k : Nat, s9 = .int .i64 (k : Int) ∧ Aside0 (k = g ∧ k ≤ m) ∧ Aside0 (Below wP.heap.size wP wx) ∧ Aside0 (∀ p (hp : p < s.length), k ≤ p → lessM (cv y) (cv s[p])))
        case atStart => exact ⟨m, rfl, ⟨rfl, Nat.le_refl _⟩, ⟨Below.refl _ _⟩, ⟨fun p hp h => by have := HM.out.1; omega⟩⟩
        case round =>
          obtain ⟨k, rfl, HGK, HBK, HGE⟩ := hrel
          obtain ⟨hil, hyl⟩ := HY.out
          obtain ⟨ad', hA, c0, c1, c2, c3, c4, c5, c6, c7⟩ := el44 (Kd.C_below HCL.out HBK.out) i hil
          injection hA with hA
          subst hA
          rw [← hyl] at c0 c1 c2 c3 c4 c5 c6 c7
          have HCELL2 : Aside0 (wr.cell? (ad.add (i * 8)) = some (.int .i64 y.f0) ∧ wr.cell? ⟨(ad.add (i * 8)).block, (ad.add (i * 8)).off + 1, none⟩ = some (.int .i64 y.f1) ∧ wr.cell? ⟨(ad.add (i * 8)).block, (ad.add (i * 8)).off + 2, none⟩ = some (.int .i64 y.f2) ∧ wr.cell? ⟨(ad.add (i * 8)).block, (ad.add (i * 8)).off + 3, none⟩ = some (.int .i64 y.f3) ∧ wr.cell? ⟨(ad.add (i * 8)).block, (ad.add (i * 8)).off + 4, none⟩ = some (.int .i64 y.f4) ∧ wr.cell? ⟨(ad.add (i * 8)).block, (ad.add (i * 8)).off + 5, none⟩ = some (.int .i64 y.f5) ∧ wr.cell? ⟨(ad.add (i * 8)).block, (ad.add (i * 8)).off + 6, none⟩ = some (.int .i64 y.f6) ∧ wr.cell? ⟨(ad.add (i * 8)).block, (ad.add (i * 8)).off + 7, none⟩ = some (.int .i64 y.f7)) := ⟨c0, c1, c2, c3, c4, c5, c6, c7⟩
          clear hyl
          by_cases hk : 0 < k
          · obtain ⟨j, hkj⟩ : ∃ j, k = j + 1 := ⟨k - 1, by omega⟩
            have hjs : j < s.length := by have := HGK.out.2; have := HM.out.1; omega
            obtain ⟨sa, hAs, a0, a1, a2, a3, a4, a5, a6, a7⟩ := el44 (Kd.C_below HCP.out HBK.out) j hjs
            have HAs := Aside0.mk hAs
            obtain ⟨x, hx⟩ : ∃ x, x = s[j] := ⟨_, rfl⟩
            rw [← hx] at a0 a1 a2 a3 a4 a5 a6 a7
            have HX : Aside0 (∃ h : j < s.length, x = s[j]) := ⟨hjs, hx⟩
            have q0 : (0 : Int) < (k : Int) := by omega
            have q1 : IntKind.i64.wrap ((k : Int) - 1) = (j : Int) := by rw [i64_w, Go.IntWalk.wrap64_in _ (by have := HGK.out.2; omega)]; omega
            have q2 : wrap64 ((k : Int) - 1) = (j : Int) := by rw [Go.IntWalk.wrap64_in _ (by have := HGK.out.2; omega)]; omega
            have q3 : ((j : Int)) < (m : Int) := by have := HGK.out.2; omega
            have q4 : (0 : Int) ≤ (j : Int) := by omega
            have q5 : (i : Int) < (n : Int) := hi
            have q6 : decide ((0 : Int) < (k : Int)) = true := decide_eq_true q0
            subst hAs
            have HKJ := Aside0.mk hkj
            have q7 : decide (0 < k) = true := decide_eq_true hk
            clear hkj hx hjs c1 c2 c4 c5 c6 c7 a1 a2 a4 a5 a6 a7 hil
            by_cases hf3 : y.f3 < x.f3
            · have t1 : decide (y.f3 < x.f3) = true := decide_eq_true hf3
              have HLS : Aside0 (lessM (cv y) (cv x)) := ⟨.inl hf3⟩
              clear hf3
              go_upto_region 9 with fail
              go_quiet (fail)
              go_wp2
              go_roundg (gk - 1)
              case measure => have h1 := HGK.out; have h2 := HKJ.out; omega
              case rel => exact ⟨j, by go_num, ⟨by have h1 := HGK.out; have h2 := HKJ.out; omega, by have h1 := HGK.out; have h2 := HKJ.out; omega⟩, ⟨pw_below_drewN HBK.out _⟩, ⟨fun p hp h => by
                rcases Nat.eq_or_lt_of_le h with rfl | h2
                · obtain ⟨_, hx⟩ := HX.out; rw [← hx]; exact HLS.out
                · exact HGE.out p hp (by have := HKJ.out; omega)⟩⟩
            · have t1 : decide (y.f3 < x.f3) = false := decide_eq_false hf3
              by_cases he : x.f3 = y.f3
              · have t2 : (x.f3 == y.f3) = true := by simpa using he
                by_cases h0 : y.f0 < x.f0
                · have t3 : decide (y.f0 < x.f0) = true := decide_eq_true h0
                  have HLS : Aside0 (lessM (cv y) (cv x)) := ⟨.inr ⟨he.symm, h0⟩⟩
                  clear hf3 he h0
                  go_upto_region 9 with fail
                  go_quiet (fail)
                  go_wp2
                  go_roundg (gk - 1)
                  case measure => have h1 := HGK.out; have h2 := HKJ.out; omega
                  case rel => exact ⟨j, by go_num, ⟨by have h1 := HGK.out; have h2 := HKJ.out; omega, by have h1 := HGK.out; have h2 := HKJ.out; omega⟩, ⟨pw_below_drewN HBK.out _⟩, ⟨fun p hp h => by
                    rcases Nat.eq_or_lt_of_le h with rfl | h2
                    · obtain ⟨_, hx⟩ := HX.out; rw [← hx]; exact HLS.out
                    · exact HGE.out p hp (by have := HKJ.out; omega)⟩⟩
                · have t3 : decide (y.f0 < x.f0) = false := decide_eq_false h0
                  have HNL : Aside0 (¬ lessM (cv y) (cv x)) := ⟨by unfold lessM cv; simp only; omega⟩
                  clear hf3 he h0
                  go_upto_region 9 with fail
                  go_quiet (fail)
                  go_upto_region 11 with fail
                  obtain ⟨wX, hwX⟩ : ∃ wX : World, wX = wr.drewN nq := ⟨_, rfl⟩
                  have HBX : Aside0 (Below wP.heap.size wP wX) := ⟨by rw [hwX]; exact pw_below_drewN HBK.out _⟩
                  have HLC : Aside0 (LC ad i y wX) := ⟨by rw [hwX]; exact HCELL2.out⟩
                  rw [← hwX]
                  clear hwX
                  have HKM : Aside0 (k ≤ m) := ⟨HGK.out.2⟩
                  have HS1 : Aside0 (k44.C wX (some sa) (k) (s.take (k))) := ⟨by
                    have h := Kd.C_take (Kd.C_below HCP.out HBX.out) (m := k) (by have := HKM.out; have := HM.out.1; omega)
                    rw [List.length_take, Nat.min_eq_left (by have := HKM.out; have := HM.out.1; omega)] at h
                    exact h⟩
                  have HS2 : Aside0 (k44.C wX (if cs = (k) then (some sa) else (some sa).map (·.add ((k) * 8))) (m - (k)) (s.drop (k))) := ⟨by
                    have h := Kd.C_drop (Kd.C_below HCP.out HBX.out) (m := k) (c := cs) (by have := HKM.out; have := HM.out.1; omega) (by have := HM.out; omega)
                    rw [List.length_drop, ← HM.out.1] at h
                    exact h⟩
                  have HFP : Aside0 ((([] ++ s.take k ++ [y] ++ s.drop k).map cv).Perm (((l.take (i + 1)).map cv).filter (fun x => !overB keep now x))) := ⟨by
                    rw [HTK3.out, List.nil_append]
                    exact ((ins_perm s y k).map cv).trans (by rw [List.map_append]; exact HP.out.append_right _)⟩
                  have HFS : Aside0 (Srt (([] ++ s.take k ++ [y] ++ s.drop k).map cv)) := ⟨by
                    have e : ([] ++ s.take k ++ [y] ++ s.drop k).map cv = (s.map cv).take k ++ [cv y] ++ (s.map cv).drop k := by simp
                    rw [e]
                    refine ins_sorted HSO.out (by rw [List.length_map]; have := HGK.out.2; have := HM.out.1; omega) (fun z hz => ?_) (fun p hp hpk => ?_)
                    · obtain ⟨p, hp, rfl⟩ := List.getElem_of_mem hz
                      rw [List.length_drop, List.length_map] at hp
                      rw [List.getElem_drop, List.getElem_map]
                      exact HGE.out (k + p) (by omega) (by omega)
                    · rw [List.length_map] at hp
                      rw [List.getElem_map]
                      obtain ⟨hjs, hxj⟩ := HX.out
                      have : p = j := by have := HKJ.out; omega
                      subst this
                      rw [← hxj]
                      exact HNL.out⟩
                  have p1 : (0 : Int) ≤ ((k : Nat) : Int) := by omega
                  have p2 : ((k : Nat) : Int) ≤ (m : Int) := by have := HKM.out; omega
                  have p3 : (m : Int) ≤ (cs : Int) := by have := HM.out.2; omega
                  have p4 : ((k : Nat) : Int) ≤ (cs : Int) := by omega
                  have p5 : (i : Int) < (n : Int) := hi
                  have hLt : (i + 1 : Nat) ≤ n := by omega
                  refine start_ (S := LC ad i y) (ds := []) #[false, false, false, false, false, false, false, false, false, false, false, false, false, false, false, false] (by kernel_rfl) rfl rfl HLC.out (fun hHeld => ?_)
                  have HBX0 : Aside0 (Below wX.heap.size wX wX.drew) := ⟨below_drew (Below.refl _ _)⟩
                  refine pure_ (i := 1) (N := some 101) #[false, true, false, false, false, false, false, false, false, false, false, false, false, false, false, false] rfl rfl (by kernel_rfl) (fun _ _ _ h => h) (.inl ⟨by rfl, by (intro w; go_simp <;> with_reducible rfl)⟩) rfl ?_
                  (try simp only [Act.put, List.setIfInBounds_toArray, List.set_cons_zero, List.set_cons_succ])
                  refine pure_ (i := 2) (N := some 102) #[false, true, true, false, false, false, false, false, false, false, false, false, false, false, false, false] rfl rfl (by kernel_rfl) (fun _ _ _ h => h) (.inl ⟨by rfl, by (intro w; go_simp <;> with_reducible rfl)⟩) rfl ?_
                  (try simp only [Act.put, List.setIfInBounds_toArray, List.set_cons_zero, List.set_cons_succ])
                  refine pure_ (i := 3) (N := some 103) #[false, true, true, true, false, false, false, false, false, false, false, false, false, false, false, false] rfl rfl (by kernel_rfl) (fun _ _ _ h => h) (.inl ⟨by rfl, by (intro w; go_simp <;> with_reducible rfl)⟩) rfl ?_
                  (try simp only [Act.put, List.setIfInBounds_toArray, List.set_cons_zero, List.set_cons_succ])
                  refine pure_ (i := 5) (N := some 105) #[false, true, true, true, false, true, false, false, false, false, false, false, false, false, false, false] rfl rfl (by kernel_rfl) (fun _ _ _ h => h) (.inl ⟨by rfl, by (intro w; go_simp <;> with_reducible rfl)⟩) rfl ?_
                  (try simp only [Act.put, List.setIfInBounds_toArray, List.set_cons_zero, List.set_cons_succ])
                  refine pure_ (i := 6) (N := some 106) #[false, true, true, true, false, true, true, false, false, false, false, false, false, false, false, false] rfl rfl (by kernel_rfl) (fun _ _ _ h => h) (.inl ⟨by rfl, by (intro w; go_simp <;> with_reducible rfl)⟩) rfl ?_
                  (try simp only [Act.put, List.setIfInBounds_toArray, List.set_cons_zero, List.set_cons_succ])
                  refine pure_ (i := 7) (N := some 107) #[false, true, true, true, false, true, true, true, false, false, false, false, false, false, false, false] rfl rfl (by kernel_rfl) (fun _ _ _ h => h) (.inl ⟨by rfl, by (intro w; go_simp <;> with_reducible rfl)⟩) rfl ?_
                  (try simp only [Act.put, List.setIfInBounds_toArray, List.set_cons_zero, List.set_cons_succ])
                  refine take_ (i := 8) (N := some 108) #[false, true, true, true, false, true, true, true, true, false, false, false, false, false, false, false] rfl rfl (by kernel_rfl) (fun _ _ _ h => h) (.inl ⟨by rfl, by (intro w hSw; unfold LC at hSw; go_simp <;> with_reducible rfl)⟩) hHeld rfl ?_
                  (try simp only [Act.put, List.setIfInBounds_toArray, List.set_cons_zero, List.set_cons_succ])
                  refine pure_ (i := 11) (N := some 111) #[false, true, true, true, false, true, true, true, true, false, false, true, false, false, false, false] rfl rfl (by kernel_rfl) (fun _ _ _ h => h) (.inl ⟨by rfl, by (intro w; go_simp <;> with_reducible rfl)⟩) rfl ?_
                  (try simp only [Act.put, List.setIfInBounds_toArray, List.set_cons_zero, List.set_cons_succ])
                  refine pure_ (i := 12) (N := some 112) #[false, true, true, true, false, true, true, true, true, false, false, true, true, false, false, false] rfl rfl (by kernel_rfl) (fun _ _ _ h => h) (.inl ⟨by rfl, by (intro w; go_simp <;> with_reducible rfl)⟩) rfl ?_
                  (try simp only [Act.put, List.setIfInBounds_toArray, List.set_cons_zero, List.set_cons_succ])
                  refine pure_ (i := 13) (N := some 113) #[false, true, true, true, false, true, true, true, true, false, false, true, true, true, false, false] rfl rfl (by kernel_rfl) (fun _ _ _ h => h) (.inl ⟨by rfl, by (intro w; go_simp <;> with_reducible rfl)⟩) rfl ?_
                  (try simp only [Act.put, List.setIfInBounds_toArray, List.set_cons_zero, List.set_cons_succ])
                  refine two_ (i := 0) (j := 9) (Ni := some 100) (Nj := some 109) #[true, true, true, true, false, true, true, true, true, false, false, true, true, true, false, false] #[false, true, true, true, false, true, true, true, true, true, false, true, true, true, false, false] rfl rfl rfl rfl (by kernel_rfl) (by simp) (by simp) (fun K hK => ?_) (fun K hK => ?_)
                  · skip
                    refine Kd.R_lit_step k44 (w0 := wX) wX.heap.size 44 ?hw_1 (N := 100) ?hN_1 (xs := ([] : List S44)) (inner := []) (ok := (fun _ => True)) (okp := fun _ => False) ?hr_1 (Reps.none _ _) (fun _ hk => hk.elim) trivial HBX0.out HBX0.out.size (by simp) ?_
                    (case hw_1 => rfl)
                    (case hN_1 => rfl)
                    (case hr_1 => first | (go_simp; done) | (go_simp; rfl))
                    intro v5 w2 ho hb hg hat
                    have HR4 := Aside0.mk ho
                    have HB3 := Aside0.mk hb
                    clear ho hb hg hat
                    refine hK.out _ _ (LC_below HLC.out HB3.out) (fun hHeld => ?_)
                    clear hK K
                    refine norm_ (a' := ?_) ?_ ?_
                    rotate_left
                    · show Act.put _ (some 100) _ = _
                      simp only [Act.put, List.setIfInBounds_toArray, List.set_cons_zero, List.set_cons_succ]
                      rfl
                    refine two_ (i := 4) (j := 9) (Ni := some 104) (Nj := some 109) #[true, true, true, true, true, true, true, true, true, false, false, true, true, true, false, false] #[true, true, true, true, false, true, true, true, true, true, false, true, true, true, false, false] rfl rfl rfl rfl (by kernel_rfl) (by simp) (by simp) (fun K hK => ?_) (fun K hK => ?_)
                    · skip
                      refine Kd.R_append_rows_step k44 (w0 := wX) wX.heap.size ?hw_6 (.tmp 100) (.tmp 103) 22 44 (.agg #[.int .i64 0, .int .i64 0, .int .i64 0, .int .i64 0, .int .i64 0, .int .i64 0, .int .i64 0, .int .i64 0]) 64 ?ho_6 Try.underlying22 info44 ?hz_6 (by decide) (by omega) v5 [] (s.take (k)) _ (k) cs (fun _ => True) (fun _ => False) ?hs_6 ?hx_6 HR4.out (Kd.C_below HS1.out HB3.out) (fun _ _ h => h) (fun _ h => h.elim) (fun _ _ => trivial) HB3.out HB3.out.size ?hl_6 ?_
                      (case hw_6 => rfl)
                      (case ho_6 => rfl)
                      (case hz_6 => rfl)
                      (case hs_6 => rfl)
                      (case hx_6 => rfl)
                      (case hl_6 => simp only [List.length_nil]; have := HMS.out; have := HKM.out; omega)
                      intro v10 w7 ho hb hg hat
                      have HR9 := Aside0.mk ho
                      have HB8 := Aside0.mk hb
                      clear ho hb hg hat
                      refine hK.out _ _ (LC_below HLC.out HB8.out) (fun hHeld => ?_)
                      clear hK K
                      refine norm_ (a' := ?_) ?_ ?_
                      rotate_left
                      · show Act.put _ (some 104) _ = _
                        simp only [Act.put, List.setIfInBounds_toArray, List.set_cons_zero, List.set_cons_succ]
                        rfl
                      refine one_ (i := 9) (N := some 109) #[true, true, true, true, true, true, true, true, true, true, false, true, true, true, false, false] rfl rfl (by kernel_rfl) (by simp) (fun K hK => ?_)
                      refine lit_step (by rfl) (N := 109) rfl (cs := (cells44 y).toArray) (t := 44) ?hr_11 ?h_11
                      (case hr_11 => first | (go_simp; done) | (go_simp; rfl))
                      case h_11 =>
                        intro b14 hbe w12 hk hbw
                        have HB13 : Aside0 (Below wX.heap.size wX w12) := ⟨below_then HB8.out HB8.out.size hbw⟩
                        have HZ15 := Aside0.mk hk
                        have HR16 := Aside0.mk (Kd.R_below (Kd.R_mono (Kd.R_elderB HR9.out b14 (by rw [hbe]; exact Nat.le_refl _)) (ok' := fun k => k ≠ b14) (fun _ h => h.2)) hbw)
                        clear hk hbw hbe
                        refine hK.out _ _ (LC_below HLC.out HB13.out) (fun hHeld => ?_)
                        clear hK K
                        refine norm_ (a' := ?_) ?_ ?_
                        rotate_left
                        · show Act.put _ (some 109) _ = _
                          simp only [Act.put, List.setIfInBounds_toArray, List.set_cons_zero, List.set_cons_succ]
                          rfl
                        refine one_ (i := 10) (N := some 110) #[true, true, true, true, true, true, true, true, true, true, true, true, true, true, false, false] rfl rfl (by kernel_rfl) (by simp) (fun K hK => ?_)
                        refine Kd.R_append_rows_step k44 (w0 := wX) wX.heap.size ?hw_17 (.tmp 104) (.tmp 109) 22 44 (.agg #[.int .i64 0, .int .i64 0, .int .i64 0, .int .i64 0, .int .i64 0, .int .i64 0, .int .i64 0, .int .i64 0]) 64 ?ho_17 Try.underlying22 info44 ?hz_17 (by decide) (by omega) v10 ([] ++ s.take (k)) [y] _ 1 1 (fun k => k ≠ b14) (fun _ => False) ?hs_17 ?hx_17 HR16.out (lit44 HZ15.out) (fun _ _ h => h) (fun _ h => h.elim) (fun k hk => by have := blk_lt HZ15.out; omega) HB13.out HB13.out.size ?hl_17 ?_
                        (case hw_17 => rfl)
                        (case ho_17 => rfl)
                        (case hz_17 => rfl)
                        (case hs_17 => rfl)
                        (case hx_17 => rfl)
                        (case hl_17 => simp only [List.length_append, List.length_nil, List.length_take]; have := HMS.out; have := HKM.out; omega)
                        intro v21 w18 ho hb hg hat
                        have HZ22 := Aside0.mk (grown_far hg HZ15.out (fun hh => HR16.out.1 _ hh.symm rfl))
                        have HR20 := Aside0.mk ho
                        have HB19 := Aside0.mk hb
                        clear ho hb hg hat
                        refine hK.out _ _ (LC_below HLC.out HB19.out) (fun hHeld => ?_)
                        clear hK K
                        refine norm_ (a' := ?_) ?_ ?_
                        rotate_left
                        · show Act.put _ (some 110) _ = _
                          simp only [Act.put, List.setIfInBounds_toArray, List.set_cons_zero, List.set_cons_succ]
                          rfl
                        refine one_ (i := 14) (N := some 114) #[true, true, true, true, true, true, true, true, true, true, true, true, true, true, true, false] rfl rfl (by kernel_rfl) (by simp) (fun K hK => ?_)
                        refine Kd.R_append_rows_step k44 (w0 := wX) wX.heap.size ?hw_23 (.tmp 110) (.tmp 113) 22 44 (.agg #[.int .i64 0, .int .i64 0, .int .i64 0, .int .i64 0, .int .i64 0, .int .i64 0, .int .i64 0, .int .i64 0]) 64 ?ho_23 Try.underlying22 info44 ?hz_23 (by decide) (by omega) v21 ([] ++ s.take (k) ++ [y]) (s.drop (k)) _ (m - (k)) (cs - (k)) (fun k => k ≠ b14) (fun _ => False) ?hs_23 ?hx_23 HR20.out (Kd.C_below HS2.out HB19.out) (fun _ _ h => h) (fun _ h => h.elim) (fun k hk => by have := blk_lt HZ22.out; omega) HB19.out HB19.out.size ?hl_23 ?_
                        (case hw_23 => rfl)
                        (case ho_23 => rfl)
                        (case hz_23 => rfl)
                        (case hs_23 => rfl)
                        (case hx_23 => rfl)
                        (case hl_23 => simp only [List.length_append, List.length_nil, List.length_take, List.length_singleton]; have := HMS.out; have := HKM.out; omega)
                        intro v27 w24 ho hb hg hat
                        obtain ⟨A9, c9, rfl, hc9⟩ := OwnRow.slice_ ho.2
                        obtain ⟨m9, hm9⟩ : ∃ m9, m9 = ([] ++ s.take k ++ [y] ++ s.drop k).length := ⟨_, rfl⟩
                        rw [← hm9]
                        rw [← hm9] at ho
                        have HM9 := Aside0.mk (show m9 = ([] ++ s.take k ++ [y] ++ s.drop k).length ∧ m9 ≤ c9 from ⟨hm9, by rw [hm9]; exact hc9⟩)
                        clear hm9 hc9
                        have HR26 := Aside0.mk ho
                        have HB25 := Aside0.mk hb
                        clear ho hb hg hat
                        refine hK.out _ _ (LC_below HLC.out HB25.out) (fun hHeld => ?_)
                        clear hK K
                        refine norm_ (a' := ?_) ?_ ?_
                        rotate_left
                        · show Act.put _ (some 114) _ = _
                          simp only [Act.put, List.setIfInBounds_toArray, List.set_cons_zero, List.set_cons_succ]
                          rfl
                        refine pure_ (i := 15) (N := some 7) #[true, true, true, true, true, true, true, true, true, true, true, true, true, true, true, true] rfl rfl (by kernel_rfl) (fun _ _ _ h => h) (.inl ⟨by rfl, by (intro w; go_simp <;> with_reducible rfl)⟩) rfl ?_
                        (try simp only [Act.put, List.setIfInBounds_toArray, List.set_cons_zero, List.set_cons_succ])
                        refine done_ (by kernel_rfl) ?_
                        have HBF := Aside0.mk (HBP.out.trans (below_low (HBX.out.trans (below_low HB25.out HBX.out.size)) HBP.out.size))
                        have HRF : Aside0 (k44.R 44 _ w1.heap.size (fun _ => True) (.slice A9 m9 c9) ([] ++ s.take k ++ [y] ++ s.drop k)) := ⟨Kd.R_mono (Kd.R_lower HR26.out (Nat.le_trans HBP.out.size HBX.out.size)) (fun _ _ => trivial)⟩
                        go_wp2
                        all_goals
                          go_roundg (ga - 1)
                          case measure => have h1 := HG.out; omega
                          case rel => exact ⟨i + 1, m9, c9, A9, _, by go_num, rfl, ⟨by have h1 := HG.out; omega⟩, HBF, HRF, HM9, HFP, HFS⟩
                    · skip
                      refine lit_step (by rfl) (N := 109) rfl (cs := (cells44 y).toArray) (t := 44) ?hr_28 ?h_28
                      (case hr_28 => first | (go_simp; done) | (go_simp; rfl))
                      case h_28 =>
                        intro b31 hbe w29 hk hbw
                        have HB30 : Aside0 (Below wX.heap.size wX w29) := ⟨below_then HB3.out HB3.out.size hbw⟩
                        have HZ32 := Aside0.mk hk
                        have HR33 := Aside0.mk (Kd.R_below (Kd.R_mono (Kd.R_elderB HR4.out b31 (by rw [hbe]; exact Nat.le_refl _)) (ok' := fun k => k ≠ b31) (fun _ h => h.2)) hbw)
                        clear hk hbw hbe
                        refine hK.out _ _ (LC_below HLC.out HB30.out) (fun hHeld => ?_)
                        clear hK K
                        refine norm_ (a' := ?_) ?_ ?_
                        rotate_left
                        · show Act.put _ (some 109) _ = _
                          simp only [Act.put, List.setIfInBounds_toArray, List.set_cons_zero, List.set_cons_succ]
                          rfl
                        refine one_ (i := 4) (N := some 104) #[true, true, true, true, true, true, true, true, true, true, false, true, true, true, false, false] rfl rfl (by kernel_rfl) (by simp) (fun K hK => ?_)
                        refine Kd.R_append_rows_step k44 (w0 := wX) wX.heap.size ?hw_34 (.tmp 100) (.tmp 103) 22 44 (.agg #[.int .i64 0, .int .i64 0, .int .i64 0, .int .i64 0, .int .i64 0, .int .i64 0, .int .i64 0, .int .i64 0]) 64 ?ho_34 Try.underlying22 info44 ?hz_34 (by decide) (by omega) v5 [] (s.take (k)) _ (k) cs (fun k => k ≠ b31) (fun _ => False) ?hs_34 ?hx_34 HR33.out (Kd.C_below HS1.out HB30.out) (fun _ _ h => h) (fun _ h => h.elim) (fun k hk => by have := blk_lt HZ32.out; omega) HB30.out HB30.out.size ?hl_34 ?_
                        (case hw_34 => rfl)
                        (case ho_34 => rfl)
                        (case hz_34 => rfl)
                        (case hs_34 => rfl)
                        (case hx_34 => rfl)
                        (case hl_34 => simp only [List.length_nil]; have := HMS.out; have := HKM.out; omega)
                        intro v38 w35 ho hb hg hat
                        have HZ39 := Aside0.mk (grown_far hg HZ32.out (fun hh => HR33.out.1 _ hh.symm rfl))
                        have HR37 := Aside0.mk ho
                        have HB36 := Aside0.mk hb
                        clear ho hb hg hat
                        refine hK.out _ _ (LC_below HLC.out HB36.out) (fun hHeld => ?_)
                        clear hK K
                        refine norm_ (a' := ?_) ?_ ?_
                        rotate_left
                        · show Act.put _ (some 104) _ = _
                          simp only [Act.put, List.setIfInBounds_toArray, List.set_cons_zero, List.set_cons_succ]
                          rfl
                        refine one_ (i := 10) (N := some 110) #[true, true, true, true, true, true, true, true, true, true, true, true, true, true, false, false] rfl rfl (by kernel_rfl) (by simp) (fun K hK => ?_)
                        refine Kd.R_append_rows_step k44 (w0 := wX) wX.heap.size ?hw_40 (.tmp 104) (.tmp 109) 22 44 (.agg #[.int .i64 0, .int .i64 0, .int .i64 0, .int .i64 0, .int .i64 0, .int .i64 0, .int .i64 0, .int .i64 0]) 64 ?ho_40 Try.underlying22 info44 ?hz_40 (by decide) (by omega) v38 ([] ++ s.take (k)) [y] _ 1 1 (fun k => k ≠ b31) (fun _ => False) ?hs_40 ?hx_40 HR37.out (lit44 HZ39.out) (fun _ _ h => h) (fun _ h => h.elim) (fun k hk => by have := blk_lt HZ39.out; omega) HB36.out HB36.out.size ?hl_40 ?_
                        (case hw_40 => rfl)
                        (case ho_40 => rfl)
                        (case hz_40 => rfl)
                        (case hs_40 => rfl)
                        (case hx_40 => rfl)
                        (case hl_40 => simp only [List.length_append, List.length_nil, List.length_take]; have := HMS.out; have := HKM.out; omega)
                        intro v44 w41 ho hb hg hat
                        have HZ45 := Aside0.mk (grown_far hg HZ39.out (fun hh => HR37.out.1 _ hh.symm rfl))
                        have HR43 := Aside0.mk ho
                        have HB42 := Aside0.mk hb
                        clear ho hb hg hat
                        refine hK.out _ _ (LC_below HLC.out HB42.out) (fun hHeld => ?_)
                        clear hK K
                        refine norm_ (a' := ?_) ?_ ?_
                        rotate_left
                        · show Act.put _ (some 110) _ = _
                          simp only [Act.put, List.setIfInBounds_toArray, List.set_cons_zero, List.set_cons_succ]
                          rfl
                        refine one_ (i := 14) (N := some 114) #[true, true, true, true, true, true, true, true, true, true, true, true, true, true, true, false] rfl rfl (by kernel_rfl) (by simp) (fun K hK => ?_)
                        refine Kd.R_append_rows_step k44 (w0 := wX) wX.heap.size ?hw_46 (.tmp 110) (.tmp 113) 22 44 (.agg #[.int .i64 0, .int .i64 0, .int .i64 0, .int .i64 0, .int .i64 0, .int .i64 0, .int .i64 0, .int .i64 0]) 64 ?ho_46 Try.underlying22 info44 ?hz_46 (by decide) (by omega) v44 ([] ++ s.take (k) ++ [y]) (s.drop (k)) _ (m - (k)) (cs - (k)) (fun k => k ≠ b31) (fun _ => False) ?hs_46 ?hx_46 HR43.out (Kd.C_below HS2.out HB42.out) (fun _ _ h => h) (fun _ h => h.elim) (fun k hk => by have := blk_lt HZ45.out; omega) HB42.out HB42.out.size ?hl_46 ?_
                        (case hw_46 => rfl)
                        (case ho_46 => rfl)
                        (case hz_46 => rfl)
                        (case hs_46 => rfl)
                        (case hx_46 => rfl)
                        (case hl_46 => simp only [List.length_append, List.length_nil, List.length_take, List.length_singleton]; have := HMS.out; have := HKM.out; omega)
                        intro v50 w47 ho hb hg hat
                        obtain ⟨A9, c9, rfl, hc9⟩ := OwnRow.slice_ ho.2
                        obtain ⟨m9, hm9⟩ : ∃ m9, m9 = ([] ++ s.take k ++ [y] ++ s.drop k).length := ⟨_, rfl⟩
                        rw [← hm9]
                        rw [← hm9] at ho
                        have HM9 := Aside0.mk (show m9 = ([] ++ s.take k ++ [y] ++ s.drop k).length ∧ m9 ≤ c9 from ⟨hm9, by rw [hm9]; exact hc9⟩)
                        clear hm9 hc9
                        have HR49 := Aside0.mk ho
                        have HB48 := Aside0.mk hb
                        clear ho hb hg hat
                        refine hK.out _ _ (LC_below HLC.out HB48.out) (fun hHeld => ?_)
                        clear hK K
                        refine norm_ (a' := ?_) ?_ ?_
                        rotate_left
                        · show Act.put _ (some 114) _ = _
                          simp only [Act.put, List.setIfInBounds_toArray, List.set_cons_zero, List.set_cons_succ]
                          rfl
                        refine pure_ (i := 15) (N := some 7) #[true, true, true, true, true, true, true, true, true, true, true, true, true, true, true, true] rfl rfl (by kernel_rfl) (fun _ _ _ h => h) (.inl ⟨by rfl, by (intro w; go_simp <;> with_reducible rfl)⟩) rfl ?_
                        (try simp only [Act.put, List.setIfInBounds_toArray, List.set_cons_zero, List.set_cons_succ])
                        refine done_ (by kernel_rfl) ?_
                        have HBF := Aside0.mk (HBP.out.trans (below_low (HBX.out.trans (below_low HB48.out HBX.out.size)) HBP.out.size))
                        have HRF : Aside0 (k44.R 44 _ w1.heap.size (fun _ => True) (.slice A9 m9 c9) ([] ++ s.take k ++ [y] ++ s.drop k)) := ⟨Kd.R_mono (Kd.R_lower HR49.out (Nat.le_trans HBP.out.size HBX.out.size)) (fun _ _ => trivial)⟩
                        go_wp2
                        all_goals
                          go_roundg (ga - 1)
                          case measure => have h1 := HG.out; omega
                          case rel => exact ⟨i + 1, m9, c9, A9, _, by go_num, rfl, ⟨by have h1 := HG.out; omega⟩, HBF, HRF, HM9, HFP, HFS⟩
                  · skip
                    refine lit_step (by rfl) (N := 109) rfl (cs := (cells44 y).toArray) (t := 44) ?hr_51 ?h_51
                    (case hr_51 => first | (go_simp; done) | (go_simp; rfl))
                    case h_51 =>
                      intro b54 hbe w52 hk hbw
                      have HB53 : Aside0 (Below wX.heap.size wX w52) := ⟨below_then HBX0.out HBX0.out.size hbw⟩
                      have HZ55 := Aside0.mk hk
                      clear hk hbw hbe
                      refine hK.out _ _ (LC_below HLC.out HB53.out) (fun hHeld => ?_)
                      clear hK K
                      refine norm_ (a' := ?_) ?_ ?_
                      rotate_left
                      · show Act.put _ (some 109) _ = _
                        simp only [Act.put, List.setIfInBounds_toArray, List.set_cons_zero, List.set_cons_succ]
                        rfl
                      refine one_ (i := 0) (N := some 100) #[true, true, true, true, false, true, true, true, true, true, false, true, true, true, false, false] rfl rfl (by kernel_rfl) (by simp) (fun K hK => ?_)
                      refine Kd.R_lit_step k44 (w0 := wX) wX.heap.size 44 ?hw_56 (N := 100) ?hN_56 (xs := ([] : List S44)) (inner := []) (ok := (fun k => k ≠ b54)) (okp := fun _ => False) ?hr_56 (Reps.none _ _) (fun _ hk => hk.elim) (by have h_ := blk_lt HZ55.out; show _ ≠ _; omega) HB53.out HB53.out.size (by simp) ?_
                      (case hw_56 => rfl)
                      (case hN_56 => rfl)
                      (case hr_56 => first | (go_simp; done) | (go_simp; rfl))
                      intro v60 w57 ho hb hg hat
                      have HZ61 := Aside0.mk (grown_far hg HZ55.out (by simp))
                      have HR59 := Aside0.mk ho
                      have HB58 := Aside0.mk hb
                      clear ho hb hg hat
                      refine hK.out _ _ (LC_below HLC.out HB58.out) (fun hHeld => ?_)
                      clear hK K
                      refine norm_ (a' := ?_) ?_ ?_
                      rotate_left
                      · show Act.put _ (some 100) _ = _
                        simp only [Act.put, List.setIfInBounds_toArray, List.set_cons_zero, List.set_cons_succ]
                        rfl
                      refine one_ (i := 4) (N := some 104) #[true, true, true, true, true, true, true, true, true, true, false, true, true, true, false, false] rfl rfl (by kernel_rfl) (by simp) (fun K hK => ?_)
                      refine Kd.R_append_rows_step k44 (w0 := wX) wX.heap.size ?hw_62 (.tmp 100) (.tmp 103) 22 44 (.agg #[.int .i64 0, .int .i64 0, .int .i64 0, .int .i64 0, .int .i64 0, .int .i64 0, .int .i64 0, .int .i64 0]) 64 ?ho_62 Try.underlying22 info44 ?hz_62 (by decide) (by omega) v60 [] (s.take (k)) _ (k) cs (fun k => k ≠ b54) (fun _ => False) ?hs_62 ?hx_62 HR59.out (Kd.C_below HS1.out HB58.out) (fun _ _ h => h) (fun _ h => h.elim) (fun k hk => by have := blk_lt HZ61.out; omega) HB58.out HB58.out.size ?hl_62 ?_
                      (case hw_62 => rfl)
                      (case ho_62 => rfl)
                      (case hz_62 => rfl)
                      (case hs_62 => rfl)
                      (case hx_62 => rfl)
                      (case hl_62 => simp only [List.length_nil]; have := HMS.out; have := HKM.out; omega)
                      intro v66 w63 ho hb hg hat
                      have HZ67 := Aside0.mk (grown_far hg HZ61.out (fun hh => HR59.out.1 _ hh.symm rfl))
                      have HR65 := Aside0.mk ho
                      have HB64 := Aside0.mk hb
                      clear ho hb hg hat
                      refine hK.out _ _ (LC_below HLC.out HB64.out) (fun hHeld => ?_)
                      clear hK K
                      refine norm_ (a' := ?_) ?_ ?_
                      rotate_left
                      · show Act.put _ (some 104) _ = _
                        simp only [Act.put, List.setIfInBounds_toArray, List.set_cons_zero, List.set_cons_succ]
                        rfl
                      refine one_ (i := 10) (N := some 110) #[true, true, true, true, true, true, true, true, true, true, true, true, true, true, false, false] rfl rfl (by kernel_rfl) (by simp) (fun K hK => ?_)
                      refine Kd.R_append_rows_step k44 (w0 := wX) wX.heap.size ?hw_68 (.tmp 104) (.tmp 109) 22 44 (.agg #[.int .i64 0, .int .i64 0, .int .i64 0, .int .i64 0, .int .i64 0, .int .i64 0, .int .i64 0, .int .i64 0]) 64 ?ho_68 Try.underlying22 info44 ?hz_68 (by decide) (by omega) v66 ([] ++ s.take (k)) [y] _ 1 1 (fun k => k ≠ b54) (fun _ => False) ?hs_68 ?hx_68 HR65.out (lit44 HZ67.out) (fun _ _ h => h) (fun _ h => h.elim) (fun k hk => by have := blk_lt HZ67.out; omega) HB64.out HB64.out.size ?hl_68 ?_
                      (case hw_68 => rfl)
                      (case ho_68 => rfl)
                      (case hz_68 => rfl)
                      (case hs_68 => rfl)
                      (case hx_68 => rfl)
                      (case hl_68 => simp only [List.length_append, List.length_nil, List.length_take]; have := HMS.out; have := HKM.out; omega)
                      intro v72 w69 ho hb hg hat
                      have HZ73 := Aside0.mk (grown_far hg HZ67.out (fun hh => HR65.out.1 _ hh.symm rfl))
                      have HR71 := Aside0.mk ho
                      have HB70 := Aside0.mk hb
                      clear ho hb hg hat
                      refine hK.out _ _ (LC_below HLC.out HB70.out) (fun hHeld => ?_)
                      clear hK K
                      refine norm_ (a' := ?_) ?_ ?_
                      rotate_left
                      · show Act.put _ (some 110) _ = _
                        simp only [Act.put, List.setIfInBounds_toArray, List.set_cons_zero, List.set_cons_succ]
                        rfl
                      refine one_ (i := 14) (N := some 114) #[true, true, true, true, true, true, true, true, true, true, true, true, true, true, true, false] rfl rfl (by kernel_rfl) (by simp) (fun K hK => ?_)
                      refine Kd.R_append_rows_step k44 (w0 := wX) wX.heap.size ?hw_74 (.tmp 110) (.tmp 113) 22 44 (.agg #[.int .i64 0, .int .i64 0, .int .i64 0, .int .i64 0, .int .i64 0, .int .i64 0, .int .i64 0, .int .i64 0]) 64 ?ho_74 Try.underlying22 info44 ?hz_74 (by decide) (by omega) v72 ([] ++ s.take (k) ++ [y]) (s.drop (k)) _ (m - (k)) (cs - (k)) (fun k => k ≠ b54) (fun _ => False) ?hs_74 ?hx_74 HR71.out (Kd.C_below HS2.out HB70.out) (fun _ _ h => h) (fun _ h => h.elim) (fun k hk => by have := blk_lt HZ73.out; omega) HB70.out HB70.out.size ?hl_74 ?_
                      (case hw_74 => rfl)
                      (case ho_74 => rfl)
                      (case hz_74 => rfl)
                      (case hs_74 => rfl)
                      (case hx_74 => rfl)
                      (case hl_74 => simp only [List.length_append, List.length_nil, List.length_take, List.length_singleton]; have := HMS.out; have := HKM.out; omega)
                      intro v78 w75 ho hb hg hat
                      obtain ⟨A9, c9, rfl, hc9⟩ := OwnRow.slice_ ho.2
                      obtain ⟨m9, hm9⟩ : ∃ m9, m9 = ([] ++ s.take k ++ [y] ++ s.drop k).length := ⟨_, rfl⟩
                      rw [← hm9]
                      rw [← hm9] at ho
                      have HM9 := Aside0.mk (show m9 = ([] ++ s.take k ++ [y] ++ s.drop k).length ∧ m9 ≤ c9 from ⟨hm9, by rw [hm9]; exact hc9⟩)
                      clear hm9 hc9
                      have HR77 := Aside0.mk ho
                      have HB76 := Aside0.mk hb
                      clear ho hb hg hat
                      refine hK.out _ _ (LC_below HLC.out HB76.out) (fun hHeld => ?_)
                      clear hK K
                      refine norm_ (a' := ?_) ?_ ?_
                      rotate_left
                      · show Act.put _ (some 114) _ = _
                        simp only [Act.put, List.setIfInBounds_toArray, List.set_cons_zero, List.set_cons_succ]
                        rfl
                      refine pure_ (i := 15) (N := some 7) #[true, true, true, true, true, true, true, true, true, true, true, true, true, true, true, true] rfl rfl (by kernel_rfl) (fun _ _ _ h => h) (.inl ⟨by rfl, by (intro w; go_simp <;> with_reducible rfl)⟩) rfl ?_
                      (try simp only [Act.put, List.setIfInBounds_toArray, List.set_cons_zero, List.set_cons_succ])
                      refine done_ (by kernel_rfl) ?_
                      have HBF := Aside0.mk (HBP.out.trans (below_low (HBX.out.trans (below_low HB76.out HBX.out.size)) HBP.out.size))
                      have HRF : Aside0 (k44.R 44 _ w1.heap.size (fun _ => True) (.slice A9 m9 c9) ([] ++ s.take k ++ [y] ++ s.drop k)) := ⟨Kd.R_mono (Kd.R_lower HR77.out (Nat.le_trans HBP.out.size HBX.out.size)) (fun _ _ => trivial)⟩
                      go_wp2
                      all_goals
                        go_roundg (ga - 1)
                        case measure => have h1 := HG.out; omega
                        case rel => exact ⟨i + 1, m9, c9, A9, _, by go_num, rfl, ⟨by have h1 := HG.out; omega⟩, HBF, HRF, HM9, HFP, HFS⟩
              · have t2 : (x.f3 == y.f3) = false := by simpa using he
                have HNL : Aside0 (¬ lessM (cv y) (cv x)) := ⟨by unfold lessM cv; simp only; omega⟩
                clear hf3 he
                go_upto_region 9 with fail
                go_quiet (fail)
                go_upto_region 11 with fail
                obtain ⟨wX, hwX⟩ : ∃ wX : World, wX = wr.drewN nq := ⟨_, rfl⟩
                have HBX : Aside0 (Below wP.heap.size wP wX) := ⟨by rw [hwX]; exact pw_below_drewN HBK.out _⟩
                have HLC : Aside0 (LC ad i y wX) := ⟨by rw [hwX]; exact HCELL2.out⟩
                rw [← hwX]
                clear hwX
                have HKM : Aside0 (k ≤ m) := ⟨HGK.out.2⟩
                have HS1 : Aside0 (k44.C wX (some sa) (k) (s.take (k))) := ⟨by
                  have h := Kd.C_take (Kd.C_below HCP.out HBX.out) (m := k) (by have := HKM.out; have := HM.out.1; omega)
                  rw [List.length_take, Nat.min_eq_left (by have := HKM.out; have := HM.out.1; omega)] at h
                  exact h⟩
                have HS2 : Aside0 (k44.C wX (if cs = (k) then (some sa) else (some sa).map (·.add ((k) * 8))) (m - (k)) (s.drop (k))) := ⟨by
                  have h := Kd.C_drop (Kd.C_below HCP.out HBX.out) (m := k) (c := cs) (by have := HKM.out; have := HM.out.1; omega) (by have := HM.out; omega)
                  rw [List.length_drop, ← HM.out.1] at h
                  exact h⟩
                have HFP : Aside0 ((([] ++ s.take k ++ [y] ++ s.drop k).map cv).Perm (((l.take (i + 1)).map cv).filter (fun x => !overB keep now x))) := ⟨by
                  rw [HTK3.out, List.nil_append]
                  exact ((ins_perm s y k).map cv).trans (by rw [List.map_append]; exact HP.out.append_right _)⟩
                have HFS : Aside0 (Srt (([] ++ s.take k ++ [y] ++ s.drop k).map cv)) := ⟨by
                  have e : ([] ++ s.take k ++ [y] ++ s.drop k).map cv = (s.map cv).take k ++ [cv y] ++ (s.map cv).drop k := by simp
                  rw [e]
                  refine ins_sorted HSO.out (by rw [List.length_map]; have := HGK.out.2; have := HM.out.1; omega) (fun z hz => ?_) (fun p hp hpk => ?_)
                  · obtain ⟨p, hp, rfl⟩ := List.getElem_of_mem hz
                    rw [List.length_drop, List.length_map] at hp
                    rw [List.getElem_drop, List.getElem_map]
                    exact HGE.out (k + p) (by omega) (by omega)
                  · rw [List.length_map] at hp
                    rw [List.getElem_map]
                    obtain ⟨hjs, hxj⟩ := HX.out
                    have : p = j := by have := HKJ.out; omega
                    subst this
                    rw [← hxj]
                    exact HNL.out⟩
                have p1 : (0 : Int) ≤ ((k : Nat) : Int) := by omega
                have p2 : ((k : Nat) : Int) ≤ (m : Int) := by have := HKM.out; omega
                have p3 : (m : Int) ≤ (cs : Int) := by have := HM.out.2; omega
                have p4 : ((k : Nat) : Int) ≤ (cs : Int) := by omega
                have p5 : (i : Int) < (n : Int) := hi
                have hLt : (i + 1 : Nat) ≤ n := by omega
                refine start_ (S := LC ad i y) (ds := []) #[false, false, false, false, false, false, false, false, false, false, false, false, false, false, false, false] (by kernel_rfl) rfl rfl HLC.out (fun hHeld => ?_)
                have HBX0 : Aside0 (Below wX.heap.size wX wX.drew) := ⟨below_drew (Below.refl _ _)⟩
                refine pure_ (i := 1) (N := some 101) #[false, true, false, false, false, false, false, false, false, false, false, false, false, false, false, false] rfl rfl (by kernel_rfl) (fun _ _ _ h => h) (.inl ⟨by rfl, by (intro w; go_simp <;> with_reducible rfl)⟩) rfl ?_
                (try simp only [Act.put, List.setIfInBounds_toArray, List.set_cons_zero, List.set_cons_succ])
                refine pure_ (i := 2) (N := some 102) #[false, true, true, false, false, false, false, false, false, false, false, false, false, false, false, false] rfl rfl (by kernel_rfl) (fun _ _ _ h => h) (.inl ⟨by rfl, by (intro w; go_simp <;> with_reducible rfl)⟩) rfl ?_
                (try simp only [Act.put, List.setIfInBounds_toArray, List.set_cons_zero, List.set_cons_succ])
                refine pure_ (i := 3) (N := some 103) #[false, true, true, true, false, false, false, false, false, false, false, false, false, false, false, false] rfl rfl (by kernel_rfl) (fun _ _ _ h => h) (.inl ⟨by rfl, by (intro w; go_simp <;> with_reducible rfl)⟩) rfl ?_
                (try simp only [Act.put, List.setIfInBounds_toArray, List.set_cons_zero, List.set_cons_succ])
                refine pure_ (i := 5) (N := some 105) #[false, true, true, true, false, true, false, false, false, false, false, false, false, false, false, false] rfl rfl (by kernel_rfl) (fun _ _ _ h => h) (.inl ⟨by rfl, by (intro w; go_simp <;> with_reducible rfl)⟩) rfl ?_
                (try simp only [Act.put, List.setIfInBounds_toArray, List.set_cons_zero, List.set_cons_succ])
                refine pure_ (i := 6) (N := some 106) #[false, true, true, true, false, true, true, false, false, false, false, false, false, false, false, false] rfl rfl (by kernel_rfl) (fun _ _ _ h => h) (.inl ⟨by rfl, by (intro w; go_simp <;> with_reducible rfl)⟩) rfl ?_
                (try simp only [Act.put, List.setIfInBounds_toArray, List.set_cons_zero, List.set_cons_succ])
                refine pure_ (i := 7) (N := some 107) #[false, true, true, true, false, true, true, true, false, false, false, false, false, false, false, false] rfl rfl (by kernel_rfl) (fun _ _ _ h => h) (.inl ⟨by rfl, by (intro w; go_simp <;> with_reducible rfl)⟩) rfl ?_
                (try simp only [Act.put, List.setIfInBounds_toArray, List.set_cons_zero, List.set_cons_succ])
                refine take_ (i := 8) (N := some 108) #[false, true, true, true, false, true, true, true, true, false, false, false, false, false, false, false] rfl rfl (by kernel_rfl) (fun _ _ _ h => h) (.inl ⟨by rfl, by (intro w hSw; unfold LC at hSw; go_simp <;> with_reducible rfl)⟩) hHeld rfl ?_
                (try simp only [Act.put, List.setIfInBounds_toArray, List.set_cons_zero, List.set_cons_succ])
                refine pure_ (i := 11) (N := some 111) #[false, true, true, true, false, true, true, true, true, false, false, true, false, false, false, false] rfl rfl (by kernel_rfl) (fun _ _ _ h => h) (.inl ⟨by rfl, by (intro w; go_simp <;> with_reducible rfl)⟩) rfl ?_
                (try simp only [Act.put, List.setIfInBounds_toArray, List.set_cons_zero, List.set_cons_succ])
                refine pure_ (i := 12) (N := some 112) #[false, true, true, true, false, true, true, true, true, false, false, true, true, false, false, false] rfl rfl (by kernel_rfl) (fun _ _ _ h => h) (.inl ⟨by rfl, by (intro w; go_simp <;> with_reducible rfl)⟩) rfl ?_
                (try simp only [Act.put, List.setIfInBounds_toArray, List.set_cons_zero, List.set_cons_succ])
                refine pure_ (i := 13) (N := some 113) #[false, true, true, true, false, true, true, true, true, false, false, true, true, true, false, false] rfl rfl (by kernel_rfl) (fun _ _ _ h => h) (.inl ⟨by rfl, by (intro w; go_simp <;> with_reducible rfl)⟩) rfl ?_
                (try simp only [Act.put, List.setIfInBounds_toArray, List.set_cons_zero, List.set_cons_succ])
                refine two_ (i := 0) (j := 9) (Ni := some 100) (Nj := some 109) #[true, true, true, true, false, true, true, true, true, false, false, true, true, true, false, false] #[false, true, true, true, false, true, true, true, true, true, false, true, true, true, false, false] rfl rfl rfl rfl (by kernel_rfl) (by simp) (by simp) (fun K hK => ?_) (fun K hK => ?_)
                · skip
                  refine Kd.R_lit_step k44 (w0 := wX) wX.heap.size 44 ?hw_79 (N := 100) ?hN_79 (xs := ([] : List S44)) (inner := []) (ok := (fun _ => True)) (okp := fun _ => False) ?hr_79 (Reps.none _ _) (fun _ hk => hk.elim) trivial HBX0.out HBX0.out.size (by simp) ?_
                  (case hw_79 => rfl)
                  (case hN_79 => rfl)
                  (case hr_79 => first | (go_simp; done) | (go_simp; rfl))
                  intro v83 w80 ho hb hg hat
                  have HR82 := Aside0.mk ho
                  have HB81 := Aside0.mk hb
                  clear ho hb hg hat
                  refine hK.out _ _ (LC_below HLC.out HB81.out) (fun hHeld => ?_)
                  clear hK K
                  refine norm_ (a' := ?_) ?_ ?_
                  rotate_left
                  · show Act.put _ (some 100) _ = _
                    simp only [Act.put, List.setIfInBounds_toArray, List.set_cons_zero, List.set_cons_succ]
                    rfl
                  refine two_ (i := 4) (j := 9) (Ni := some 104) (Nj := some 109) #[true, true, true, true, true, true, true, true, true, false, false, true, true, true, false, false] #[true, true, true, true, false, true, true, true, true, true, false, true, true, true, false, false] rfl rfl rfl rfl (by kernel_rfl) (by simp) (by simp) (fun K hK => ?_) (fun K hK => ?_)
                  · skip
                    refine Kd.R_append_rows_step k44 (w0 := wX) wX.heap.size ?hw_84 (.tmp 100) (.tmp 103) 22 44 (.agg #[.int .i64 0, .int .i64 0, .int .i64 0, .int .i64 0, .int .i64 0, .int .i64 0, .int .i64 0, .int .i64 0]) 64 ?ho_84 Try.underlying22 info44 ?hz_84 (by decide) (by omega) v83 [] (s.take (k)) _ (k) cs (fun _ => True) (fun _ => False) ?hs_84 ?hx_84 HR82.out (Kd.C_below HS1.out HB81.out) (fun _ _ h => h) (fun _ h => h.elim) (fun _ _ => trivial) HB81.out HB81.out.size ?hl_84 ?_
                    (case hw_84 => rfl)
                    (case ho_84 => rfl)
                    (case hz_84 => rfl)
                    (case hs_84 => rfl)
                    (case hx_84 => rfl)
                    (case hl_84 => simp only [List.length_nil]; have := HMS.out; have := HKM.out; omega)
                    intro v88 w85 ho hb hg hat
                    have HR87 := Aside0.mk ho
                    have HB86 := Aside0.mk hb
                    clear ho hb hg hat
                    refine hK.out _ _ (LC_below HLC.out HB86.out) (fun hHeld => ?_)
                    clear hK K
                    refine norm_ (a' := ?_) ?_ ?_
                    rotate_left
                    · show Act.put _ (some 104) _ = _
                      simp only [Act.put, List.setIfInBounds_toArray, List.set_cons_zero, List.set_cons_succ]
                      rfl
                    refine one_ (i := 9) (N := some 109) #[true, true, true, true, true, true, true, true, true, true, false, true, true, true, false, false] rfl rfl (by kernel_rfl) (by simp) (fun K hK => ?_)
                    refine lit_step (by rfl) (N := 109) rfl (cs := (cells44 y).toArray) (t := 44) ?hr_89 ?h_89
                    (case hr_89 => first | (go_simp; done) | (go_simp; rfl))
                    case h_89 =>
                      intro b92 hbe w90 hk hbw
                      have HB91 : Aside0 (Below wX.heap.size wX w90) := ⟨below_then HB86.out HB86.out.size hbw⟩
                      have HZ93 := Aside0.mk hk
                      have HR94 := Aside0.mk (Kd.R_below (Kd.R_mono (Kd.R_elderB HR87.out b92 (by rw [hbe]; exact Nat.le_refl _)) (ok' := fun k => k ≠ b92) (fun _ h => h.2)) hbw)
                      clear hk hbw hbe
                      refine hK.out _ _ (LC_below HLC.out HB91.out) (fun hHeld => ?_)
                      clear hK K
                      refine norm_ (a' := ?_) ?_ ?_
                      rotate_left
                      · show Act.put _ (some 109) _ = _
                        simp only [Act.put, List.setIfInBounds_toArray, List.set_cons_zero, List.set_cons_succ]
                        rfl
                      refine one_ (i := 10) (N := some 110) #[true, true, true, true, true, true, true, true, true, true, true, true, true, true, false, false] rfl rfl (by kernel_rfl) (by simp) (fun K hK => ?_)
                      refine Kd.R_append_rows_step k44 (w0 := wX) wX.heap.size ?hw_95 (.tmp 104) (.tmp 109) 22 44 (.agg #[.int .i64 0, .int .i64 0, .int .i64 0, .int .i64 0, .int .i64 0, .int .i64 0, .int .i64 0, .int .i64 0]) 64 ?ho_95 Try.underlying22 info44 ?hz_95 (by decide) (by omega) v88 ([] ++ s.take (k)) [y] _ 1 1 (fun k => k ≠ b92) (fun _ => False) ?hs_95 ?hx_95 HR94.out (lit44 HZ93.out) (fun _ _ h => h) (fun _ h => h.elim) (fun k hk => by have := blk_lt HZ93.out; omega) HB91.out HB91.out.size ?hl_95 ?_
                      (case hw_95 => rfl)
                      (case ho_95 => rfl)
                      (case hz_95 => rfl)
                      (case hs_95 => rfl)
                      (case hx_95 => rfl)
                      (case hl_95 => simp only [List.length_append, List.length_nil, List.length_take]; have := HMS.out; have := HKM.out; omega)
                      intro v99 w96 ho hb hg hat
                      have HZ100 := Aside0.mk (grown_far hg HZ93.out (fun hh => HR94.out.1 _ hh.symm rfl))
                      have HR98 := Aside0.mk ho
                      have HB97 := Aside0.mk hb
                      clear ho hb hg hat
                      refine hK.out _ _ (LC_below HLC.out HB97.out) (fun hHeld => ?_)
                      clear hK K
                      refine norm_ (a' := ?_) ?_ ?_
                      rotate_left
                      · show Act.put _ (some 110) _ = _
                        simp only [Act.put, List.setIfInBounds_toArray, List.set_cons_zero, List.set_cons_succ]
                        rfl
                      refine one_ (i := 14) (N := some 114) #[true, true, true, true, true, true, true, true, true, true, true, true, true, true, true, false] rfl rfl (by kernel_rfl) (by simp) (fun K hK => ?_)
                      refine Kd.R_append_rows_step k44 (w0 := wX) wX.heap.size ?hw_101 (.tmp 110) (.tmp 113) 22 44 (.agg #[.int .i64 0, .int .i64 0, .int .i64 0, .int .i64 0, .int .i64 0, .int .i64 0, .int .i64 0, .int .i64 0]) 64 ?ho_101 Try.underlying22 info44 ?hz_101 (by decide) (by omega) v99 ([] ++ s.take (k) ++ [y]) (s.drop (k)) _ (m - (k)) (cs - (k)) (fun k => k ≠ b92) (fun _ => False) ?hs_101 ?hx_101 HR98.out (Kd.C_below HS2.out HB97.out) (fun _ _ h => h) (fun _ h => h.elim) (fun k hk => by have := blk_lt HZ100.out; omega) HB97.out HB97.out.size ?hl_101 ?_
                      (case hw_101 => rfl)
                      (case ho_101 => rfl)
                      (case hz_101 => rfl)
                      (case hs_101 => rfl)
                      (case hx_101 => rfl)
                      (case hl_101 => simp only [List.length_append, List.length_nil, List.length_take, List.length_singleton]; have := HMS.out; have := HKM.out; omega)
                      intro v105 w102 ho hb hg hat
                      obtain ⟨A9, c9, rfl, hc9⟩ := OwnRow.slice_ ho.2
                      obtain ⟨m9, hm9⟩ : ∃ m9, m9 = ([] ++ s.take k ++ [y] ++ s.drop k).length := ⟨_, rfl⟩
                      rw [← hm9]
                      rw [← hm9] at ho
                      have HM9 := Aside0.mk (show m9 = ([] ++ s.take k ++ [y] ++ s.drop k).length ∧ m9 ≤ c9 from ⟨hm9, by rw [hm9]; exact hc9⟩)
                      clear hm9 hc9
                      have HR104 := Aside0.mk ho
                      have HB103 := Aside0.mk hb
                      clear ho hb hg hat
                      refine hK.out _ _ (LC_below HLC.out HB103.out) (fun hHeld => ?_)
                      clear hK K
                      refine norm_ (a' := ?_) ?_ ?_
                      rotate_left
                      · show Act.put _ (some 114) _ = _
                        simp only [Act.put, List.setIfInBounds_toArray, List.set_cons_zero, List.set_cons_succ]
                        rfl
                      refine pure_ (i := 15) (N := some 7) #[true, true, true, true, true, true, true, true, true, true, true, true, true, true, true, true] rfl rfl (by kernel_rfl) (fun _ _ _ h => h) (.inl ⟨by rfl, by (intro w; go_simp <;> with_reducible rfl)⟩) rfl ?_
                      (try simp only [Act.put, List.setIfInBounds_toArray, List.set_cons_zero, List.set_cons_succ])
                      refine done_ (by kernel_rfl) ?_
                      have HBF := Aside0.mk (HBP.out.trans (below_low (HBX.out.trans (below_low HB103.out HBX.out.size)) HBP.out.size))
                      have HRF : Aside0 (k44.R 44 _ w1.heap.size (fun _ => True) (.slice A9 m9 c9) ([] ++ s.take k ++ [y] ++ s.drop k)) := ⟨Kd.R_mono (Kd.R_lower HR104.out (Nat.le_trans HBP.out.size HBX.out.size)) (fun _ _ => trivial)⟩
                      go_wp2
                      all_goals
                        go_roundg (ga - 1)
                        case measure => have h1 := HG.out; omega
                        case rel => exact ⟨i + 1, m9, c9, A9, _, by go_num, rfl, ⟨by have h1 := HG.out; omega⟩, HBF, HRF, HM9, HFP, HFS⟩
                  · skip
                    refine lit_step (by rfl) (N := 109) rfl (cs := (cells44 y).toArray) (t := 44) ?hr_106 ?h_106
                    (case hr_106 => first | (go_simp; done) | (go_simp; rfl))
                    case h_106 =>
                      intro b109 hbe w107 hk hbw
                      have HB108 : Aside0 (Below wX.heap.size wX w107) := ⟨below_then HB81.out HB81.out.size hbw⟩
                      have HZ110 := Aside0.mk hk
                      have HR111 := Aside0.mk (Kd.R_below (Kd.R_mono (Kd.R_elderB HR82.out b109 (by rw [hbe]; exact Nat.le_refl _)) (ok' := fun k => k ≠ b109) (fun _ h => h.2)) hbw)
                      clear hk hbw hbe
                      refine hK.out _ _ (LC_below HLC.out HB108.out) (fun hHeld => ?_)
                      clear hK K
                      refine norm_ (a' := ?_) ?_ ?_
                      rotate_left
                      · show Act.put _ (some 109) _ = _
                        simp only [Act.put, List.setIfInBounds_toArray, List.set_cons_zero, List.set_cons_succ]
                        rfl
                      refine one_ (i := 4) (N := some 104) #[true, true, true, true, true, true, true, true, true, true, false, true, true, true, false, false] rfl rfl (by kernel_rfl) (by simp) (fun K hK => ?_)
                      refine Kd.R_append_rows_step k44 (w0 := wX) wX.heap.size ?hw_112 (.tmp 100) (.tmp 103) 22 44 (.agg #[.int .i64 0, .int .i64 0, .int .i64 0, .int .i64 0, .int .i64 0, .int .i64 0, .int .i64 0, .int .i64 0]) 64 ?ho_112 Try.underlying22 info44 ?hz_112 (by decide) (by omega) v83 [] (s.take (k)) _ (k) cs (fun k => k ≠ b109) (fun _ => False) ?hs_112 ?hx_112 HR111.out (Kd.C_below HS1.out HB108.out) (fun _ _ h => h) (fun _ h => h.elim) (fun k hk => by have := blk_lt HZ110.out; omega) HB108.out HB108.out.size ?hl_112 ?_
                      (case hw_112 => rfl)
                      (case ho_112 => rfl)
                      (case hz_112 => rfl)
                      (case hs_112 => rfl)
                      (case hx_112 => rfl)
                      (case hl_112 => simp only [List.length_nil]; have := HMS.out; have := HKM.out; omega)
                      intro v116 w113 ho hb hg hat
                      have HZ117 := Aside0.mk (grown_far hg HZ110.out (fun hh => HR111.out.1 _ hh.symm rfl))
                      have HR115 := Aside0.mk ho
                      have HB114 := Aside0.mk hb
                      clear ho hb hg hat
                      refine hK.out _ _ (LC_below HLC.out HB114.out) (fun hHeld => ?_)
                      clear hK K
                      refine norm_ (a' := ?_) ?_ ?_
                      rotate_left
                      · show Act.put _ (some 104) _ = _
                        simp only [Act.put, List.setIfInBounds_toArray, List.set_cons_zero, List.set_cons_succ]
                        rfl
                      refine one_ (i := 10) (N := some 110) #[true, true, true, true, true, true, true, true, true, true, true, true, true, true, false, false] rfl rfl (by kernel_rfl) (by simp) (fun K hK => ?_)
                      refine Kd.R_append_rows_step k44 (w0 := wX) wX.heap.size ?hw_118 (.tmp 104) (.tmp 109) 22 44 (.agg #[.int .i64 0, .int .i64 0, .int .i64 0, .int .i64 0, .int .i64 0, .int .i64 0, .int .i64 0, .int .i64 0]) 64 ?ho_118 Try.underlying22 info44 ?hz_118 (by decide) (by omega) v116 ([] ++ s.take (k)) [y] _ 1 1 (fun k => k ≠ b109) (fun _ => False) ?hs_118 ?hx_118 HR115.out (lit44 HZ117.out) (fun _ _ h => h) (fun _ h => h.elim) (fun k hk => by have := blk_lt HZ117.out; omega) HB114.out HB114.out.size ?hl_118 ?_
                      (case hw_118 => rfl)
                      (case ho_118 => rfl)
                      (case hz_118 => rfl)
                      (case hs_118 => rfl)
                      (case hx_118 => rfl)
                      (case hl_118 => simp only [List.length_append, List.length_nil, List.length_take]; have := HMS.out; have := HKM.out; omega)
                      intro v122 w119 ho hb hg hat
                      have HZ123 := Aside0.mk (grown_far hg HZ117.out (fun hh => HR115.out.1 _ hh.symm rfl))
                      have HR121 := Aside0.mk ho
                      have HB120 := Aside0.mk hb
                      clear ho hb hg hat
                      refine hK.out _ _ (LC_below HLC.out HB120.out) (fun hHeld => ?_)
                      clear hK K
                      refine norm_ (a' := ?_) ?_ ?_
                      rotate_left
                      · show Act.put _ (some 110) _ = _
                        simp only [Act.put, List.setIfInBounds_toArray, List.set_cons_zero, List.set_cons_succ]
                        rfl
                      refine one_ (i := 14) (N := some 114) #[true, true, true, true, true, true, true, true, true, true, true, true, true, true, true, false] rfl rfl (by kernel_rfl) (by simp) (fun K hK => ?_)
                      refine Kd.R_append_rows_step k44 (w0 := wX) wX.heap.size ?hw_124 (.tmp 110) (.tmp 113) 22 44 (.agg #[.int .i64 0, .int .i64 0, .int .i64 0, .int .i64 0, .int .i64 0, .int .i64 0, .int .i64 0, .int .i64 0]) 64 ?ho_124 Try.underlying22 info44 ?hz_124 (by decide) (by omega) v122 ([] ++ s.take (k) ++ [y]) (s.drop (k)) _ (m - (k)) (cs - (k)) (fun k => k ≠ b109) (fun _ => False) ?hs_124 ?hx_124 HR121.out (Kd.C_below HS2.out HB120.out) (fun _ _ h => h) (fun _ h => h.elim) (fun k hk => by have := blk_lt HZ123.out; omega) HB120.out HB120.out.size ?hl_124 ?_
                      (case hw_124 => rfl)
                      (case ho_124 => rfl)
                      (case hz_124 => rfl)
                      (case hs_124 => rfl)
                      (case hx_124 => rfl)
                      (case hl_124 => simp only [List.length_append, List.length_nil, List.length_take, List.length_singleton]; have := HMS.out; have := HKM.out; omega)
                      intro v128 w125 ho hb hg hat
                      obtain ⟨A9, c9, rfl, hc9⟩ := OwnRow.slice_ ho.2
                      obtain ⟨m9, hm9⟩ : ∃ m9, m9 = ([] ++ s.take k ++ [y] ++ s.drop k).length := ⟨_, rfl⟩
                      rw [← hm9]
                      rw [← hm9] at ho
                      have HM9 := Aside0.mk (show m9 = ([] ++ s.take k ++ [y] ++ s.drop k).length ∧ m9 ≤ c9 from ⟨hm9, by rw [hm9]; exact hc9⟩)
                      clear hm9 hc9
                      have HR127 := Aside0.mk ho
                      have HB126 := Aside0.mk hb
                      clear ho hb hg hat
                      refine hK.out _ _ (LC_below HLC.out HB126.out) (fun hHeld => ?_)
                      clear hK K
                      refine norm_ (a' := ?_) ?_ ?_
                      rotate_left
                      · show Act.put _ (some 114) _ = _
                        simp only [Act.put, List.setIfInBounds_toArray, List.set_cons_zero, List.set_cons_succ]
                        rfl
                      refine pure_ (i := 15) (N := some 7) #[true, true, true, true, true, true, true, true, true, true, true, true, true, true, true, true] rfl rfl (by kernel_rfl) (fun _ _ _ h => h) (.inl ⟨by rfl, by (intro w; go_simp <;> with_reducible rfl)⟩) rfl ?_
                      (try simp only [Act.put, List.setIfInBounds_toArray, List.set_cons_zero, List.set_cons_succ])
                      refine done_ (by kernel_rfl) ?_
                      have HBF := Aside0.mk (HBP.out.trans (below_low (HBX.out.trans (below_low HB126.out HBX.out.size)) HBP.out.size))
                      have HRF : Aside0 (k44.R 44 _ w1.heap.size (fun _ => True) (.slice A9 m9 c9) ([] ++ s.take k ++ [y] ++ s.drop k)) := ⟨Kd.R_mono (Kd.R_lower HR127.out (Nat.le_trans HBP.out.size HBX.out.size)) (fun _ _ => trivial)⟩
                      go_wp2
                      all_goals
                        go_roundg (ga - 1)
                        case measure => have h1 := HG.out; omega
                        case rel => exact ⟨i + 1, m9, c9, A9, _, by go_num, rfl, ⟨by have h1 := HG.out; omega⟩, HBF, HRF, HM9, HFP, HFS⟩
                · skip
                  refine lit_step (by rfl) (N := 109) rfl (cs := (cells44 y).toArray) (t := 44) ?hr_129 ?h_129
                  (case hr_129 => first | (go_simp; done) | (go_simp; rfl))
                  case h_129 =>
                    intro b132 hbe w130 hk hbw
                    have HB131 : Aside0 (Below wX.heap.size wX w130) := ⟨below_then HBX0.out HBX0.out.size hbw⟩
                    have HZ133 := Aside0.mk hk
                    clear hk hbw hbe
                    refine hK.out _ _ (LC_below HLC.out HB131.out) (fun hHeld => ?_)
                    clear hK K
                    refine norm_ (a' := ?_) ?_ ?_
                    rotate_left
                    · show Act.put _ (some 109) _ = _
                      simp only [Act.put, List.setIfInBounds_toArray, List.set_cons_zero, List.set_cons_succ]
                      rfl
                    refine one_ (i := 0) (N := some 100) #[true, true, true, true, false, true, true, true, true, true, false, true, true, true, false, false] rfl rfl (by kernel_rfl) (by simp) (fun K hK => ?_)
                    refine Kd.R_lit_step k44 (w0 := wX) wX.heap.size 44 ?hw_134 (N := 100) ?hN_134 (xs := ([] : List S44)) (inner := []) (ok := (fun k => k ≠ b132)) (okp := fun _ => False) ?hr_134 (Reps.none _ _) (fun _ hk => hk.elim) (by have h_ := blk_lt HZ133.out; show _ ≠ _; omega) HB131.out HB131.out.size (by simp) ?_
                    (case hw_134 => rfl)
                    (case hN_134 => rfl)
                    (case hr_134 => first | (go_simp; done) | (go_simp; rfl))
                    intro v138 w135 ho hb hg hat
                    have HZ139 := Aside0.mk (grown_far hg HZ133.out (by simp))
                    have HR137 := Aside0.mk ho
                    have HB136 := Aside0.mk hb
                    clear ho hb hg hat
                    refine hK.out _ _ (LC_below HLC.out HB136.out) (fun hHeld => ?_)
                    clear hK K
                    refine norm_ (a' := ?_) ?_ ?_
                    rotate_left
                    · show Act.put _ (some 100) _ = _
                      simp only [Act.put, List.setIfInBounds_toArray, List.set_cons_zero, List.set_cons_succ]
                      rfl
                    refine one_ (i := 4) (N := some 104) #[true, true, true, true, true, true, true, true, true, true, false, true, true, true, false, false] rfl rfl (by kernel_rfl) (by simp) (fun K hK => ?_)
                    refine Kd.R_append_rows_step k44 (w0 := wX) wX.heap.size ?hw_140 (.tmp 100) (.tmp 103) 22 44 (.agg #[.int .i64 0, .int .i64 0, .int .i64 0, .int .i64 0, .int .i64 0, .int .i64 0, .int .i64 0, .int .i64 0]) 64 ?ho_140 Try.underlying22 info44 ?hz_140 (by decide) (by omega) v138 [] (s.take (k)) _ (k) cs (fun k => k ≠ b132) (fun _ => False) ?hs_140 ?hx_140 HR137.out (Kd.C_below HS1.out HB136.out) (fun _ _ h => h) (fun _ h => h.elim) (fun k hk => by have := blk_lt HZ139.out; omega) HB136.out HB136.out.size ?hl_140 ?_
                    (case hw_140 => rfl)
                    (case ho_140 => rfl)
                    (case hz_140 => rfl)
                    (case hs_140 => rfl)
                    (case hx_140 => rfl)
                    (case hl_140 => simp only [List.length_nil]; have := HMS.out; have := HKM.out; omega)
                    intro v144 w141 ho hb hg hat
                    have HZ145 := Aside0.mk (grown_far hg HZ139.out (fun hh => HR137.out.1 _ hh.symm rfl))
                    have HR143 := Aside0.mk ho
                    have HB142 := Aside0.mk hb
                    clear ho hb hg hat
                    refine hK.out _ _ (LC_below HLC.out HB142.out) (fun hHeld => ?_)
                    clear hK K
                    refine norm_ (a' := ?_) ?_ ?_
                    rotate_left
                    · show Act.put _ (some 104) _ = _
                      simp only [Act.put, List.setIfInBounds_toArray, List.set_cons_zero, List.set_cons_succ]
                      rfl
                    refine one_ (i := 10) (N := some 110) #[true, true, true, true, true, true, true, true, true, true, true, true, true, true, false, false] rfl rfl (by kernel_rfl) (by simp) (fun K hK => ?_)
                    refine Kd.R_append_rows_step k44 (w0 := wX) wX.heap.size ?hw_146 (.tmp 104) (.tmp 109) 22 44 (.agg #[.int .i64 0, .int .i64 0, .int .i64 0, .int .i64 0, .int .i64 0, .int .i64 0, .int .i64 0, .int .i64 0]) 64 ?ho_146 Try.underlying22 info44 ?hz_146 (by decide) (by omega) v144 ([] ++ s.take (k)) [y] _ 1 1 (fun k => k ≠ b132) (fun _ => False) ?hs_146 ?hx_146 HR143.out (lit44 HZ145.out) (fun _ _ h => h) (fun _ h => h.elim) (fun k hk => by have := blk_lt HZ145.out; omega) HB142.out HB142.out.size ?hl_146 ?_
                    (case hw_146 => rfl)
                    (case ho_146 => rfl)
                    (case hz_146 => rfl)
                    (case hs_146 => rfl)
                    (case hx_146 => rfl)
                    (case hl_146 => simp only [List.length_append, List.length_nil, List.length_take]; have := HMS.out; have := HKM.out; omega)
                    intro v150 w147 ho hb hg hat
                    have HZ151 := Aside0.mk (grown_far hg HZ145.out (fun hh => HR143.out.1 _ hh.symm rfl))
                    have HR149 := Aside0.mk ho
                    have HB148 := Aside0.mk hb
                    clear ho hb hg hat
                    refine hK.out _ _ (LC_below HLC.out HB148.out) (fun hHeld => ?_)
                    clear hK K
                    refine norm_ (a' := ?_) ?_ ?_
                    rotate_left
                    · show Act.put _ (some 110) _ = _
                      simp only [Act.put, List.setIfInBounds_toArray, List.set_cons_zero, List.set_cons_succ]
                      rfl
                    refine one_ (i := 14) (N := some 114) #[true, true, true, true, true, true, true, true, true, true, true, true, true, true, true, false] rfl rfl (by kernel_rfl) (by simp) (fun K hK => ?_)
                    refine Kd.R_append_rows_step k44 (w0 := wX) wX.heap.size ?hw_152 (.tmp 110) (.tmp 113) 22 44 (.agg #[.int .i64 0, .int .i64 0, .int .i64 0, .int .i64 0, .int .i64 0, .int .i64 0, .int .i64 0, .int .i64 0]) 64 ?ho_152 Try.underlying22 info44 ?hz_152 (by decide) (by omega) v150 ([] ++ s.take (k) ++ [y]) (s.drop (k)) _ (m - (k)) (cs - (k)) (fun k => k ≠ b132) (fun _ => False) ?hs_152 ?hx_152 HR149.out (Kd.C_below HS2.out HB148.out) (fun _ _ h => h) (fun _ h => h.elim) (fun k hk => by have := blk_lt HZ151.out; omega) HB148.out HB148.out.size ?hl_152 ?_
                    (case hw_152 => rfl)
                    (case ho_152 => rfl)
                    (case hz_152 => rfl)
                    (case hs_152 => rfl)
                    (case hx_152 => rfl)
                    (case hl_152 => simp only [List.length_append, List.length_nil, List.length_take, List.length_singleton]; have := HMS.out; have := HKM.out; omega)
                    intro v156 w153 ho hb hg hat
                    obtain ⟨A9, c9, rfl, hc9⟩ := OwnRow.slice_ ho.2
                    obtain ⟨m9, hm9⟩ : ∃ m9, m9 = ([] ++ s.take k ++ [y] ++ s.drop k).length := ⟨_, rfl⟩
                    rw [← hm9]
                    rw [← hm9] at ho
                    have HM9 := Aside0.mk (show m9 = ([] ++ s.take k ++ [y] ++ s.drop k).length ∧ m9 ≤ c9 from ⟨hm9, by rw [hm9]; exact hc9⟩)
                    clear hm9 hc9
                    have HR155 := Aside0.mk ho
                    have HB154 := Aside0.mk hb
                    clear ho hb hg hat
                    refine hK.out _ _ (LC_below HLC.out HB154.out) (fun hHeld => ?_)
                    clear hK K
                    refine norm_ (a' := ?_) ?_ ?_
                    rotate_left
                    · show Act.put _ (some 114) _ = _
                      simp only [Act.put, List.setIfInBounds_toArray, List.set_cons_zero, List.set_cons_succ]
                      rfl
                    refine pure_ (i := 15) (N := some 7) #[true, true, true, true, true, true, true, true, true, true, true, true, true, true, true, true] rfl rfl (by kernel_rfl) (fun _ _ _ h => h) (.inl ⟨by rfl, by (intro w; go_simp <;> with_reducible rfl)⟩) rfl ?_
                    (try simp only [Act.put, List.setIfInBounds_toArray, List.set_cons_zero, List.set_cons_succ])
                    refine done_ (by kernel_rfl) ?_
                    have HBF := Aside0.mk (HBP.out.trans (below_low (HBX.out.trans (below_low HB154.out HBX.out.size)) HBP.out.size))
                    have HRF : Aside0 (k44.R 44 _ w1.heap.size (fun _ => True) (.slice A9 m9 c9) ([] ++ s.take k ++ [y] ++ s.drop k)) := ⟨Kd.R_mono (Kd.R_lower HR155.out (Nat.le_trans HBP.out.size HBX.out.size)) (fun _ _ => trivial)⟩
                    go_wp2
                    all_goals
                      go_roundg (ga - 1)
                      case measure => have h1 := HG.out; omega
                      case rel => exact ⟨i + 1, m9, c9, A9, _, by go_num, rfl, ⟨by have h1 := HG.out; omega⟩, HBF, HRF, HM9, HFP, HFS⟩
          · have HK0 : Aside0 (k = 0) := ⟨by omega⟩
            have q6 : decide ((0 : Int) < (k : Int)) = false := decide_eq_false (by omega)
            have q7 : decide (0 < k) = false := decide_eq_false hk
            clear c0 c1 c2 c3 c4 c5 c6 c7 hil
            go_upto_region 9 with fail
            go_quiet (fail)
            go_upto_region 11 with fail
            obtain ⟨wX, hwX⟩ : ∃ wX : World, wX = wr.drewN nq := ⟨_, rfl⟩
            have HBX : Aside0 (Below wP.heap.size wP wX) := ⟨by rw [hwX]; exact pw_below_drewN HBK.out _⟩
            have HLC : Aside0 (LC ad i y wX) := ⟨by rw [hwX]; exact HCELL2.out⟩
            rw [← hwX]
            clear hwX
            have HKM : Aside0 (k ≤ m) := ⟨HGK.out.2⟩
            have HS1 : Aside0 (k44.C wX (As) (k) (s.take (k))) := ⟨by
              have h := Kd.C_take (Kd.C_below HCP.out HBX.out) (m := k) (by have := HKM.out; have := HM.out.1; omega)
              rw [List.length_take, Nat.min_eq_left (by have := HKM.out; have := HM.out.1; omega)] at h
              exact h⟩
            have HS2 : Aside0 (k44.C wX (if cs = (k) then (As) else (As).map (·.add ((k) * 8))) (m - (k)) (s.drop (k))) := ⟨by
              have h := Kd.C_drop (Kd.C_below HCP.out HBX.out) (m := k) (c := cs) (by have := HKM.out; have := HM.out.1; omega) (by have := HM.out; omega)
              rw [List.length_drop, ← HM.out.1] at h
              exact h⟩
            have HFP : Aside0 ((([] ++ s.take k ++ [y] ++ s.drop k).map cv).Perm (((l.take (i + 1)).map cv).filter (fun x => !overB keep now x))) := ⟨by
              rw [HTK3.out, List.nil_append]
              exact ((ins_perm s y k).map cv).trans (by rw [List.map_append]; exact HP.out.append_right _)⟩
            have HFS : Aside0 (Srt (([] ++ s.take k ++ [y] ++ s.drop k).map cv)) := ⟨by
              have e : ([] ++ s.take k ++ [y] ++ s.drop k).map cv = (s.map cv).take k ++ [cv y] ++ (s.map cv).drop k := by simp
              rw [e]
              refine ins_sorted HSO.out (by rw [List.length_map]; have := HGK.out.2; have := HM.out.1; omega) (fun z hz => ?_) (fun p hp hpk => ?_)
              · obtain ⟨p, hp, rfl⟩ := List.getElem_of_mem hz
                rw [List.length_drop, List.length_map] at hp
                rw [List.getElem_drop, List.getElem_map]
                exact HGE.out (k + p) (by omega) (by omega)
              · rw [List.length_map] at hp
                rw [List.getElem_map]
                have := HK0.out; omega⟩
            have p1 : (0 : Int) ≤ ((k : Nat) : Int) := by omega
            have p2 : ((k : Nat) : Int) ≤ (m : Int) := by have := HKM.out; omega
            have p3 : (m : Int) ≤ (cs : Int) := by have := HM.out.2; omega
            have p4 : ((k : Nat) : Int) ≤ (cs : Int) := by omega
            have p5 : (i : Int) < (n : Int) := hi
            have hLt : (i + 1 : Nat) ≤ n := by omega
            refine start_ (S := LC ad i y) (ds := []) #[false, false, false, false, false, false, false, false, false, false, false, false, false, false, false, false] (by kernel_rfl) rfl rfl HLC.out (fun hHeld => ?_)
            have HBX0 : Aside0 (Below wX.heap.size wX wX.drew) := ⟨below_drew (Below.refl _ _)⟩
            refine pure_ (i := 1) (N := some 101) #[false, true, false, false, false, false, false, false, false, false, false, false, false, false, false, false] rfl rfl (by kernel_rfl) (fun _ _ _ h => h) (.inl ⟨by rfl, by (intro w; go_simp <;> with_reducible rfl)⟩) rfl ?_
            (try simp only [Act.put, List.setIfInBounds_toArray, List.set_cons_zero, List.set_cons_succ])
            refine pure_ (i := 2) (N := some 102) #[false, true, true, false, false, false, false, false, false, false, false, false, false, false, false, false] rfl rfl (by kernel_rfl) (fun _ _ _ h => h) (.inl ⟨by rfl, by (intro w; go_simp <;> with_reducible rfl)⟩) rfl ?_
            (try simp only [Act.put, List.setIfInBounds_toArray, List.set_cons_zero, List.set_cons_succ])
            refine pure_ (i := 3) (N := some 103) #[false, true, true, true, false, false, false, false, false, false, false, false, false, false, false, false] rfl rfl (by kernel_rfl) (fun _ _ _ h => h) (.inl ⟨by rfl, by (intro w; go_simp <;> with_reducible rfl)⟩) rfl ?_
            (try simp only [Act.put, List.setIfInBounds_toArray, List.set_cons_zero, List.set_cons_succ])
            refine pure_ (i := 5) (N := some 105) #[false, true, true, true, false, true, false, false, false, false, false, false, false, false, false, false] rfl rfl (by kernel_rfl) (fun _ _ _ h => h) (.inl ⟨by rfl, by (intro w; go_simp <;> with_reducible rfl)⟩) rfl ?_
            (try simp only [Act.put, List.setIfInBounds_toArray, List.set_cons_zero, List.set_cons_succ])
            refine pure_ (i := 6) (N := some 106) #[false, true, true, true, false, true, true, false, false, false, false, false, false, false, false, false] rfl rfl (by kernel_rfl) (fun _ _ _ h => h) (.inl ⟨by rfl, by (intro w; go_simp <;> with_reducible rfl)⟩) rfl ?_
            (try simp only [Act.put, List.setIfInBounds_toArray, List.set_cons_zero, List.set_cons_succ])
            refine pure_ (i := 7) (N := some 107) #[false, true, true, true, false, true, true, true, false, false, false, false, false, false, false, false] rfl rfl (by kernel_rfl) (fun _ _ _ h => h) (.inl ⟨by rfl, by (intro w; go_simp <;> with_reducible rfl)⟩) rfl ?_
            (try simp only [Act.put, List.setIfInBounds_toArray, List.set_cons_zero, List.set_cons_succ])
            refine take_ (i := 8) (N := some 108) #[false, true, true, true, false, true, true, true, true, false, false, false, false, false, false, false] rfl rfl (by kernel_rfl) (fun _ _ _ h => h) (.inl ⟨by rfl, by (intro w hSw; unfold LC at hSw; go_simp <;> with_reducible rfl)⟩) hHeld rfl ?_
            (try simp only [Act.put, List.setIfInBounds_toArray, List.set_cons_zero, List.set_cons_succ])
            refine pure_ (i := 11) (N := some 111) #[false, true, true, true, false, true, true, true, true, false, false, true, false, false, false, false] rfl rfl (by kernel_rfl) (fun _ _ _ h => h) (.inl ⟨by rfl, by (intro w; go_simp <;> with_reducible rfl)⟩) rfl ?_
            (try simp only [Act.put, List.setIfInBounds_toArray, List.set_cons_zero, List.set_cons_succ])
            refine pure_ (i := 12) (N := some 112) #[false, true, true, true, false, true, true, true, true, false, false, true, true, false, false, false] rfl rfl (by kernel_rfl) (fun _ _ _ h => h) (.inl ⟨by rfl, by (intro w; go_simp <;> with_reducible rfl)⟩) rfl ?_
            (try simp only [Act.put, List.setIfInBounds_toArray, List.set_cons_zero, List.set_cons_succ])
            refine pure_ (i := 13) (N := some 113) #[false, true, true, true, false, true, true, true, true, false, false, true, true, true, false, false] rfl rfl (by kernel_rfl) (fun _ _ _ h => h) (.inl ⟨by rfl, by (intro w; go_simp <;> with_reducible rfl)⟩) rfl ?_
            (try simp only [Act.put, List.setIfInBounds_toArray, List.set_cons_zero, List.set_cons_succ])
            refine two_ (i := 0) (j := 9) (Ni := some 100) (Nj := some 109) #[true, true, true, true, false, true, true, true, true, false, false, true, true, true, false, false] #[false, true, true, true, false, true, true, true, true, true, false, true, true, true, false, false] rfl rfl rfl rfl (by kernel_rfl) (by simp) (by simp) (fun K hK => ?_) (fun K hK => ?_)
            · skip
              refine Kd.R_lit_step k44 (w0 := wX) wX.heap.size 44 ?hw_157 (N := 100) ?hN_157 (xs := ([] : List S44)) (inner := []) (ok := (fun _ => True)) (okp := fun _ => False) ?hr_157 (Reps.none _ _) (fun _ hk => hk.elim) trivial HBX0.out HBX0.out.size (by simp) ?_
              (case hw_157 => rfl)
              (case hN_157 => rfl)
              (case hr_157 => first | (go_simp; done) | (go_simp; rfl))
              intro v161 w158 ho hb hg hat
              have HR160 := Aside0.mk ho
              have HB159 := Aside0.mk hb
              clear ho hb hg hat
              refine hK.out _ _ (LC_below HLC.out HB159.out) (fun hHeld => ?_)
              clear hK K
              refine norm_ (a' := ?_) ?_ ?_
              rotate_left
              · show Act.put _ (some 100) _ = _
                simp only [Act.put, List.setIfInBounds_toArray, List.set_cons_zero, List.set_cons_succ]
                rfl
              refine two_ (i := 4) (j := 9) (Ni := some 104) (Nj := some 109) #[true, true, true, true, true, true, true, true, true, false, false, true, true, true, false, false] #[true, true, true, true, false, true, true, true, true, true, false, true, true, true, false, false] rfl rfl rfl rfl (by kernel_rfl) (by simp) (by simp) (fun K hK => ?_) (fun K hK => ?_)
              · skip
                refine Kd.R_append_rows_step k44 (w0 := wX) wX.heap.size ?hw_162 (.tmp 100) (.tmp 103) 22 44 (.agg #[.int .i64 0, .int .i64 0, .int .i64 0, .int .i64 0, .int .i64 0, .int .i64 0, .int .i64 0, .int .i64 0]) 64 ?ho_162 Try.underlying22 info44 ?hz_162 (by decide) (by omega) v161 [] (s.take (k)) _ (k) cs (fun _ => True) (fun _ => False) ?hs_162 ?hx_162 HR160.out (Kd.C_below HS1.out HB159.out) (fun _ _ h => h) (fun _ h => h.elim) (fun _ _ => trivial) HB159.out HB159.out.size ?hl_162 ?_
                (case hw_162 => rfl)
                (case ho_162 => rfl)
                (case hz_162 => rfl)
                (case hs_162 => rfl)
                (case hx_162 => rfl)
                (case hl_162 => simp only [List.length_nil]; have := HMS.out; have := HKM.out; omega)
                intro v166 w163 ho hb hg hat
                have HR165 := Aside0.mk ho
                have HB164 := Aside0.mk hb
                clear ho hb hg hat
                refine hK.out _ _ (LC_below HLC.out HB164.out) (fun hHeld => ?_)
                clear hK K
                refine norm_ (a' := ?_) ?_ ?_
                rotate_left
                · show Act.put _ (some 104) _ = _
                  simp only [Act.put, List.setIfInBounds_toArray, List.set_cons_zero, List.set_cons_succ]
                  rfl
                refine one_ (i := 9) (N := some 109) #[true, true, true, true, true, true, true, true, true, true, false, true, true, true, false, false] rfl rfl (by kernel_rfl) (by simp) (fun K hK => ?_)
                refine lit_step (by rfl) (N := 109) rfl (cs := (cells44 y).toArray) (t := 44) ?hr_167 ?h_167
                (case hr_167 => first | (go_simp; done) | (go_simp; rfl))
                case h_167 =>
                  intro b170 hbe w168 hk hbw
                  have HB169 : Aside0 (Below wX.heap.size wX w168) := ⟨below_then HB164.out HB164.out.size hbw⟩
                  have HZ171 := Aside0.mk hk
                  have HR172 := Aside0.mk (Kd.R_below (Kd.R_mono (Kd.R_elderB HR165.out b170 (by rw [hbe]; exact Nat.le_refl _)) (ok' := fun k => k ≠ b170) (fun _ h => h.2)) hbw)
                  clear hk hbw hbe
                  refine hK.out _ _ (LC_below HLC.out HB169.out) (fun hHeld => ?_)
                  clear hK K
                  refine norm_ (a' := ?_) ?_ ?_
                  rotate_left
                  · show Act.put _ (some 109) _ = _
                    simp only [Act.put, List.setIfInBounds_toArray, List.set_cons_zero, List.set_cons_succ]
                    rfl
                  refine one_ (i := 10) (N := some 110) #[true, true, true, true, true, true, true, true, true, true, true, true, true, true, false, false] rfl rfl (by kernel_rfl) (by simp) (fun K hK => ?_)
                  refine Kd.R_append_rows_step k44 (w0 := wX) wX.heap.size ?hw_173 (.tmp 104) (.tmp 109) 22 44 (.agg #[.int .i64 0, .int .i64 0, .int .i64 0, .int .i64 0, .int .i64 0, .int .i64 0, .int .i64 0, .int .i64 0]) 64 ?ho_173 Try.underlying22 info44 ?hz_173 (by decide) (by omega) v166 ([] ++ s.take (k)) [y] _ 1 1 (fun k => k ≠ b170) (fun _ => False) ?hs_173 ?hx_173 HR172.out (lit44 HZ171.out) (fun _ _ h => h) (fun _ h => h.elim) (fun k hk => by have := blk_lt HZ171.out; omega) HB169.out HB169.out.size ?hl_173 ?_
                  (case hw_173 => rfl)
                  (case ho_173 => rfl)
                  (case hz_173 => rfl)
                  (case hs_173 => rfl)
                  (case hx_173 => rfl)
                  (case hl_173 => simp only [List.length_append, List.length_nil, List.length_take]; have := HMS.out; have := HKM.out; omega)
                  intro v177 w174 ho hb hg hat
                  have HZ178 := Aside0.mk (grown_far hg HZ171.out (fun hh => HR172.out.1 _ hh.symm rfl))
                  have HR176 := Aside0.mk ho
                  have HB175 := Aside0.mk hb
                  clear ho hb hg hat
                  refine hK.out _ _ (LC_below HLC.out HB175.out) (fun hHeld => ?_)
                  clear hK K
                  refine norm_ (a' := ?_) ?_ ?_
                  rotate_left
                  · show Act.put _ (some 110) _ = _
                    simp only [Act.put, List.setIfInBounds_toArray, List.set_cons_zero, List.set_cons_succ]
                    rfl
                  refine one_ (i := 14) (N := some 114) #[true, true, true, true, true, true, true, true, true, true, true, true, true, true, true, false] rfl rfl (by kernel_rfl) (by simp) (fun K hK => ?_)
                  refine Kd.R_append_rows_step k44 (w0 := wX) wX.heap.size ?hw_179 (.tmp 110) (.tmp 113) 22 44 (.agg #[.int .i64 0, .int .i64 0, .int .i64 0, .int .i64 0, .int .i64 0, .int .i64 0, .int .i64 0, .int .i64 0]) 64 ?ho_179 Try.underlying22 info44 ?hz_179 (by decide) (by omega) v177 ([] ++ s.take (k) ++ [y]) (s.drop (k)) _ (m - (k)) (cs - (k)) (fun k => k ≠ b170) (fun _ => False) ?hs_179 ?hx_179 HR176.out (Kd.C_below HS2.out HB175.out) (fun _ _ h => h) (fun _ h => h.elim) (fun k hk => by have := blk_lt HZ178.out; omega) HB175.out HB175.out.size ?hl_179 ?_
                  (case hw_179 => rfl)
                  (case ho_179 => rfl)
                  (case hz_179 => rfl)
                  (case hs_179 => rfl)
                  (case hx_179 => rfl)
                  (case hl_179 => simp only [List.length_append, List.length_nil, List.length_take, List.length_singleton]; have := HMS.out; have := HKM.out; omega)
                  intro v183 w180 ho hb hg hat
                  obtain ⟨A9, c9, rfl, hc9⟩ := OwnRow.slice_ ho.2
                  obtain ⟨m9, hm9⟩ : ∃ m9, m9 = ([] ++ s.take k ++ [y] ++ s.drop k).length := ⟨_, rfl⟩
                  rw [← hm9]
                  rw [← hm9] at ho
                  have HM9 := Aside0.mk (show m9 = ([] ++ s.take k ++ [y] ++ s.drop k).length ∧ m9 ≤ c9 from ⟨hm9, by rw [hm9]; exact hc9⟩)
                  clear hm9 hc9
                  have HR182 := Aside0.mk ho
                  have HB181 := Aside0.mk hb
                  clear ho hb hg hat
                  refine hK.out _ _ (LC_below HLC.out HB181.out) (fun hHeld => ?_)
                  clear hK K
                  refine norm_ (a' := ?_) ?_ ?_
                  rotate_left
                  · show Act.put _ (some 114) _ = _
                    simp only [Act.put, List.setIfInBounds_toArray, List.set_cons_zero, List.set_cons_succ]
                    rfl
                  refine pure_ (i := 15) (N := some 7) #[true, true, true, true, true, true, true, true, true, true, true, true, true, true, true, true] rfl rfl (by kernel_rfl) (fun _ _ _ h => h) (.inl ⟨by rfl, by (intro w; go_simp <;> with_reducible rfl)⟩) rfl ?_
                  (try simp only [Act.put, List.setIfInBounds_toArray, List.set_cons_zero, List.set_cons_succ])
                  refine done_ (by kernel_rfl) ?_
                  have HBF := Aside0.mk (HBP.out.trans (below_low (HBX.out.trans (below_low HB181.out HBX.out.size)) HBP.out.size))
                  have HRF : Aside0 (k44.R 44 _ w1.heap.size (fun _ => True) (.slice A9 m9 c9) ([] ++ s.take k ++ [y] ++ s.drop k)) := ⟨Kd.R_mono (Kd.R_lower HR182.out (Nat.le_trans HBP.out.size HBX.out.size)) (fun _ _ => trivial)⟩
                  go_wp2
                  all_goals
                    go_roundg (ga - 1)
                    case measure => have h1 := HG.out; omega
                    case rel => exact ⟨i + 1, m9, c9, A9, _, by go_num, rfl, ⟨by have h1 := HG.out; omega⟩, HBF, HRF, HM9, HFP, HFS⟩
              · skip
                refine lit_step (by rfl) (N := 109) rfl (cs := (cells44 y).toArray) (t := 44) ?hr_184 ?h_184
                (case hr_184 => first | (go_simp; done) | (go_simp; rfl))
                case h_184 =>
                  intro b187 hbe w185 hk hbw
                  have HB186 : Aside0 (Below wX.heap.size wX w185) := ⟨below_then HB159.out HB159.out.size hbw⟩
                  have HZ188 := Aside0.mk hk
                  have HR189 := Aside0.mk (Kd.R_below (Kd.R_mono (Kd.R_elderB HR160.out b187 (by rw [hbe]; exact Nat.le_refl _)) (ok' := fun k => k ≠ b187) (fun _ h => h.2)) hbw)
                  clear hk hbw hbe
                  refine hK.out _ _ (LC_below HLC.out HB186.out) (fun hHeld => ?_)
                  clear hK K
                  refine norm_ (a' := ?_) ?_ ?_
                  rotate_left
                  · show Act.put _ (some 109) _ = _
                    simp only [Act.put, List.setIfInBounds_toArray, List.set_cons_zero, List.set_cons_succ]
                    rfl
                  refine one_ (i := 4) (N := some 104) #[true, true, true, true, true, true, true, true, true, true, false, true, true, true, false, false] rfl rfl (by kernel_rfl) (by simp) (fun K hK => ?_)
                  refine Kd.R_append_rows_step k44 (w0 := wX) wX.heap.size ?hw_190 (.tmp 100) (.tmp 103) 22 44 (.agg #[.int .i64 0, .int .i64 0, .int .i64 0, .int .i64 0, .int .i64 0, .int .i64 0, .int .i64 0, .int .i64 0]) 64 ?ho_190 Try.underlying22 info44 ?hz_190 (by decide) (by omega) v161 [] (s.take (k)) _ (k) cs (fun k => k ≠ b187) (fun _ => False) ?hs_190 ?hx_190 HR189.out (Kd.C_below HS1.out HB186.out) (fun _ _ h => h) (fun _ h => h.elim) (fun k hk => by have := blk_lt HZ188.out; omega) HB186.out HB186.out.size ?hl_190 ?_
                  (case hw_190 => rfl)
                  (case ho_190 => rfl)
                  (case hz_190 => rfl)
                  (case hs_190 => rfl)
                  (case hx_190 => rfl)
                  (case hl_190 => simp only [List.length_nil]; have := HMS.out; have := HKM.out; omega)
                  intro v194 w191 ho hb hg hat
                  have HZ195 := Aside0.mk (grown_far hg HZ188.out (fun hh => HR189.out.1 _ hh.symm rfl))
                  have HR193 := Aside0.mk ho
                  have HB192 := Aside0.mk hb
                  clear ho hb hg hat
                  refine hK.out _ _ (LC_below HLC.out HB192.out) (fun hHeld => ?_)
                  clear hK K
                  refine norm_ (a' := ?_) ?_ ?_
                  rotate_left
                  · show Act.put _ (some 104) _ = _
                    simp only [Act.put, List.setIfInBounds_toArray, List.set_cons_zero, List.set_cons_succ]
                    rfl
                  refine one_ (i := 10) (N := some 110) #[true, true, true, true, true, true, true, true, true, true, true, true, true, true, false, false] rfl rfl (by kernel_rfl) (by simp) (fun K hK => ?_)
                  refine Kd.R_append_rows_step k44 (w0 := wX) wX.heap.size ?hw_196 (.tmp 104) (.tmp 109) 22 44 (.agg #[.int .i64 0, .int .i64 0, .int .i64 0, .int .i64 0, .int .i64 0, .int .i64 0, .int .i64 0, .int .i64 0]) 64 ?ho_196 Try.underlying22 info44 ?hz_196 (by decide) (by omega) v194 ([] ++ s.take (k)) [y] _ 1 1 (fun k => k ≠ b187) (fun _ => False) ?hs_196 ?hx_196 HR193.out (lit44 HZ195.out) (fun _ _ h => h) (fun _ h => h.elim) (fun k hk => by have := blk_lt HZ195.out; omega) HB192.out HB192.out.size ?hl_196 ?_
                  (case hw_196 => rfl)
                  (case ho_196 => rfl)
                  (case hz_196 => rfl)
                  (case hs_196 => rfl)
                  (case hx_196 => rfl)
                  (case hl_196 => simp only [List.length_append, List.length_nil, List.length_take]; have := HMS.out; have := HKM.out; omega)
                  intro v200 w197 ho hb hg hat
                  have HZ201 := Aside0.mk (grown_far hg HZ195.out (fun hh => HR193.out.1 _ hh.symm rfl))
                  have HR199 := Aside0.mk ho
                  have HB198 := Aside0.mk hb
                  clear ho hb hg hat
                  refine hK.out _ _ (LC_below HLC.out HB198.out) (fun hHeld => ?_)
                  clear hK K
                  refine norm_ (a' := ?_) ?_ ?_
                  rotate_left
                  · show Act.put _ (some 110) _ = _
                    simp only [Act.put, List.setIfInBounds_toArray, List.set_cons_zero, List.set_cons_succ]
                    rfl
                  refine one_ (i := 14) (N := some 114) #[true, true, true, true, true, true, true, true, true, true, true, true, true, true, true, false] rfl rfl (by kernel_rfl) (by simp) (fun K hK => ?_)
                  refine Kd.R_append_rows_step k44 (w0 := wX) wX.heap.size ?hw_202 (.tmp 110) (.tmp 113) 22 44 (.agg #[.int .i64 0, .int .i64 0, .int .i64 0, .int .i64 0, .int .i64 0, .int .i64 0, .int .i64 0, .int .i64 0]) 64 ?ho_202 Try.underlying22 info44 ?hz_202 (by decide) (by omega) v200 ([] ++ s.take (k) ++ [y]) (s.drop (k)) _ (m - (k)) (cs - (k)) (fun k => k ≠ b187) (fun _ => False) ?hs_202 ?hx_202 HR199.out (Kd.C_below HS2.out HB198.out) (fun _ _ h => h) (fun _ h => h.elim) (fun k hk => by have := blk_lt HZ201.out; omega) HB198.out HB198.out.size ?hl_202 ?_
                  (case hw_202 => rfl)
                  (case ho_202 => rfl)
                  (case hz_202 => rfl)
                  (case hs_202 => rfl)
                  (case hx_202 => rfl)
                  (case hl_202 => simp only [List.length_append, List.length_nil, List.length_take, List.length_singleton]; have := HMS.out; have := HKM.out; omega)
                  intro v206 w203 ho hb hg hat
                  obtain ⟨A9, c9, rfl, hc9⟩ := OwnRow.slice_ ho.2
                  obtain ⟨m9, hm9⟩ : ∃ m9, m9 = ([] ++ s.take k ++ [y] ++ s.drop k).length := ⟨_, rfl⟩
                  rw [← hm9]
                  rw [← hm9] at ho
                  have HM9 := Aside0.mk (show m9 = ([] ++ s.take k ++ [y] ++ s.drop k).length ∧ m9 ≤ c9 from ⟨hm9, by rw [hm9]; exact hc9⟩)
                  clear hm9 hc9
                  have HR205 := Aside0.mk ho
                  have HB204 := Aside0.mk hb
                  clear ho hb hg hat
                  refine hK.out _ _ (LC_below HLC.out HB204.out) (fun hHeld => ?_)
                  clear hK K
                  refine norm_ (a' := ?_) ?_ ?_
                  rotate_left
                  · show Act.put _ (some 114) _ = _
                    simp only [Act.put, List.setIfInBounds_toArray, List.set_cons_zero, List.set_cons_succ]
                    rfl
                  refine pure_ (i := 15) (N := some 7) #[true, true, true, true, true, true, true, true, true, true, true, true, true, true, true, true] rfl rfl (by kernel_rfl) (fun _ _ _ h => h) (.inl ⟨by rfl, by (intro w; go_simp <;> with_reducible rfl)⟩) rfl ?_
                  (try simp only [Act.put, List.setIfInBounds_toArray, List.set_cons_zero, List.set_cons_succ])
                  refine done_ (by kernel_rfl) ?_
                  have HBF := Aside0.mk (HBP.out.trans (below_low (HBX.out.trans (below_low HB204.out HBX.out.size)) HBP.out.size))
                  have HRF : Aside0 (k44.R 44 _ w1.heap.size (fun _ => True) (.slice A9 m9 c9) ([] ++ s.take k ++ [y] ++ s.drop k)) := ⟨Kd.R_mono (Kd.R_lower HR205.out (Nat.le_trans HBP.out.size HBX.out.size)) (fun _ _ => trivial)⟩
                  go_wp2
                  all_goals
                    go_roundg (ga - 1)
                    case measure => have h1 := HG.out; omega
                    case rel => exact ⟨i + 1, m9, c9, A9, _, by go_num, rfl, ⟨by have h1 := HG.out; omega⟩, HBF, HRF, HM9, HFP, HFS⟩
            · skip
              refine lit_step (by rfl) (N := 109) rfl (cs := (cells44 y).toArray) (t := 44) ?hr_207 ?h_207
              (case hr_207 => first | (go_simp; done) | (go_simp; rfl))
              case h_207 =>
                intro b210 hbe w208 hk hbw
                have HB209 : Aside0 (Below wX.heap.size wX w208) := ⟨below_then HBX0.out HBX0.out.size hbw⟩
                have HZ211 := Aside0.mk hk
                clear hk hbw hbe
                refine hK.out _ _ (LC_below HLC.out HB209.out) (fun hHeld => ?_)
                clear hK K
                refine norm_ (a' := ?_) ?_ ?_
                rotate_left
                · show Act.put _ (some 109) _ = _
                  simp only [Act.put, List.setIfInBounds_toArray, List.set_cons_zero, List.set_cons_succ]
                  rfl
                refine one_ (i := 0) (N := some 100) #[true, true, true, true, false, true, true, true, true, true, false, true, true, true, false, false] rfl rfl (by kernel_rfl) (by simp) (fun K hK => ?_)
                refine Kd.R_lit_step k44 (w0 := wX) wX.heap.size 44 ?hw_212 (N := 100) ?hN_212 (xs := ([] : List S44)) (inner := []) (ok := (fun k => k ≠ b210)) (okp := fun _ => False) ?hr_212 (Reps.none _ _) (fun _ hk => hk.elim) (by have h_ := blk_lt HZ211.out; show _ ≠ _; omega) HB209.out HB209.out.size (by simp) ?_
                (case hw_212 => rfl)
                (case hN_212 => rfl)
                (case hr_212 => first | (go_simp; done) | (go_simp; rfl))
                intro v216 w213 ho hb hg hat
                have HZ217 := Aside0.mk (grown_far hg HZ211.out (by simp))
                have HR215 := Aside0.mk ho
                have HB214 := Aside0.mk hb
                clear ho hb hg hat
                refine hK.out _ _ (LC_below HLC.out HB214.out) (fun hHeld => ?_)
                clear hK K
                refine norm_ (a' := ?_) ?_ ?_
                rotate_left
                · show Act.put _ (some 100) _ = _
                  simp only [Act.put, List.setIfInBounds_toArray, List.set_cons_zero, List.set_cons_succ]
                  rfl
                refine one_ (i := 4) (N := some 104) #[true, true, true, true, true, true, true, true, true, true, false, true, true, true, false, false] rfl rfl (by kernel_rfl) (by simp) (fun K hK => ?_)
                refine Kd.R_append_rows_step k44 (w0 := wX) wX.heap.size ?hw_218 (.tmp 100) (.tmp 103) 22 44 (.agg #[.int .i64 0, .int .i64 0, .int .i64 0, .int .i64 0, .int .i64 0, .int .i64 0, .int .i64 0, .int .i64 0]) 64 ?ho_218 Try.underlying22 info44 ?hz_218 (by decide) (by omega) v216 [] (s.take (k)) _ (k) cs (fun k => k ≠ b210) (fun _ => False) ?hs_218 ?hx_218 HR215.out (Kd.C_below HS1.out HB214.out) (fun _ _ h => h) (fun _ h => h.elim) (fun k hk => by have := blk_lt HZ217.out; omega) HB214.out HB214.out.size ?hl_218 ?_
                (case hw_218 => rfl)
                (case ho_218 => rfl)
                (case hz_218 => rfl)
                (case hs_218 => rfl)
                (case hx_218 => rfl)
                (case hl_218 => simp only [List.length_nil]; have := HMS.out; have := HKM.out; omega)
                intro v222 w219 ho hb hg hat
                have HZ223 := Aside0.mk (grown_far hg HZ217.out (fun hh => HR215.out.1 _ hh.symm rfl))
                have HR221 := Aside0.mk ho
                have HB220 := Aside0.mk hb
                clear ho hb hg hat
                refine hK.out _ _ (LC_below HLC.out HB220.out) (fun hHeld => ?_)
                clear hK K
                refine norm_ (a' := ?_) ?_ ?_
                rotate_left
                · show Act.put _ (some 104) _ = _
                  simp only [Act.put, List.setIfInBounds_toArray, List.set_cons_zero, List.set_cons_succ]
                  rfl
                refine one_ (i := 10) (N := some 110) #[true, true, true, true, true, true, true, true, true, true, true, true, true, true, false, false] rfl rfl (by kernel_rfl) (by simp) (fun K hK => ?_)
                refine Kd.R_append_rows_step k44 (w0 := wX) wX.heap.size ?hw_224 (.tmp 104) (.tmp 109) 22 44 (.agg #[.int .i64 0, .int .i64 0, .int .i64 0, .int .i64 0, .int .i64 0, .int .i64 0, .int .i64 0, .int .i64 0]) 64 ?ho_224 Try.underlying22 info44 ?hz_224 (by decide) (by omega) v222 ([] ++ s.take (k)) [y] _ 1 1 (fun k => k ≠ b210) (fun _ => False) ?hs_224 ?hx_224 HR221.out (lit44 HZ223.out) (fun _ _ h => h) (fun _ h => h.elim) (fun k hk => by have := blk_lt HZ223.out; omega) HB220.out HB220.out.size ?hl_224 ?_
                (case hw_224 => rfl)
                (case ho_224 => rfl)
                (case hz_224 => rfl)
                (case hs_224 => rfl)
                (case hx_224 => rfl)
                (case hl_224 => simp only [List.length_append, List.length_nil, List.length_take]; have := HMS.out; have := HKM.out; omega)
                intro v228 w225 ho hb hg hat
                have HZ229 := Aside0.mk (grown_far hg HZ223.out (fun hh => HR221.out.1 _ hh.symm rfl))
                have HR227 := Aside0.mk ho
                have HB226 := Aside0.mk hb
                clear ho hb hg hat
                refine hK.out _ _ (LC_below HLC.out HB226.out) (fun hHeld => ?_)
                clear hK K
                refine norm_ (a' := ?_) ?_ ?_
                rotate_left
                · show Act.put _ (some 110) _ = _
                  simp only [Act.put, List.setIfInBounds_toArray, List.set_cons_zero, List.set_cons_succ]
                  rfl
                refine one_ (i := 14) (N := some 114) #[true, true, true, true, true, true, true, true, true, true, true, true, true, true, true, false] rfl rfl (by kernel_rfl) (by simp) (fun K hK => ?_)
                refine Kd.R_append_rows_step k44 (w0 := wX) wX.heap.size ?hw_230 (.tmp 110) (.tmp 113) 22 44 (.agg #[.int .i64 0, .int .i64 0, .int .i64 0, .int .i64 0, .int .i64 0, .int .i64 0, .int .i64 0, .int .i64 0]) 64 ?ho_230 Try.underlying22 info44 ?hz_230 (by decide) (by omega) v228 ([] ++ s.take (k) ++ [y]) (s.drop (k)) _ (m - (k)) (cs - (k)) (fun k => k ≠ b210) (fun _ => False) ?hs_230 ?hx_230 HR227.out (Kd.C_below HS2.out HB226.out) (fun _ _ h => h) (fun _ h => h.elim) (fun k hk => by have := blk_lt HZ229.out; omega) HB226.out HB226.out.size ?hl_230 ?_
                (case hw_230 => rfl)
                (case ho_230 => rfl)
                (case hz_230 => rfl)
                (case hs_230 => rfl)
                (case hx_230 => rfl)
                (case hl_230 => simp only [List.length_append, List.length_nil, List.length_take, List.length_singleton]; have := HMS.out; have := HKM.out; omega)
                intro v234 w231 ho hb hg hat
                obtain ⟨A9, c9, rfl, hc9⟩ := OwnRow.slice_ ho.2
                obtain ⟨m9, hm9⟩ : ∃ m9, m9 = ([] ++ s.take k ++ [y] ++ s.drop k).length := ⟨_, rfl⟩
                rw [← hm9]
                rw [← hm9] at ho
                have HM9 := Aside0.mk (show m9 = ([] ++ s.take k ++ [y] ++ s.drop k).length ∧ m9 ≤ c9 from ⟨hm9, by rw [hm9]; exact hc9⟩)
                clear hm9 hc9
                have HR233 := Aside0.mk ho
                have HB232 := Aside0.mk hb
                clear ho hb hg hat
                refine hK.out _ _ (LC_below HLC.out HB232.out) (fun hHeld => ?_)
                clear hK K
                refine norm_ (a' := ?_) ?_ ?_
                rotate_left
                · show Act.put _ (some 114) _ = _
                  simp only [Act.put, List.setIfInBounds_toArray, List.set_cons_zero, List.set_cons_succ]
                  rfl
                refine pure_ (i := 15) (N := some 7) #[true, true, true, true, true, true, true, true, true, true, true, true, true, true, true, true] rfl rfl (by kernel_rfl) (fun _ _ _ h => h) (.inl ⟨by rfl, by (intro w; go_simp <;> with_reducible rfl)⟩) rfl ?_
                (try simp only [Act.put, List.setIfInBounds_toArray, List.set_cons_zero, List.set_cons_succ])
                refine done_ (by kernel_rfl) ?_
                have HBF := Aside0.mk (HBP.out.trans (below_low (HBX.out.trans (below_low HB232.out HBX.out.size)) HBP.out.size))
                have HRF : Aside0 (k44.R 44 _ w1.heap.size (fun _ => True) (.slice A9 m9 c9) ([] ++ s.take k ++ [y] ++ s.drop k)) := ⟨Kd.R_mono (Kd.R_lower HR233.out (Nat.le_trans HBP.out.size HBX.out.size)) (fun _ _ => trivial)⟩
                go_wp2
                all_goals
                  go_roundg (ga - 1)
                  case measure => have h1 := HG.out; omega
                  case rel => exact ⟨i + 1, m9, c9, A9, _, by go_num, rfl, ⟨by have h1 := HG.out; omega⟩, HBF, HRF, HM9, HFP, HFS⟩
    · have hie : i = n := by have := HG.out; omega
      have HPT : Aside0 ((s.map cv).Perm ((l.map cv).filter (fun x => !overB keep now x))) := ⟨by have h := HP.out; rw [hie, List.take_of_length_le (by rw [HN.out]; exact Nat.le_refl _)] at h; exact h⟩
      obtain ⟨wb, hwb⟩ : ∃ wb, wb = wr := ⟨_, rfl⟩
      rw [← hwb] at HBJ HRJ ⊢
      have HCB := Aside0.mk (Kd.R_reads' HRJ.out).2.2
      have HBB := Aside0.mk (below_then HB.out HB.out.size HBJ.out)
      have HKB := Aside0.mk ((HBJ.out.block b4 HL4.out).trans HK1.out)
      have HLB : Aside0 (b4 < wb.heap.size) := ⟨blk_lt HKB.out⟩
      have HTL : Aside0 ((s.map cv).length = m) := ⟨by rw [List.length_map]; exact HM.out.1.symm⟩
      have HML : Aside0 (m ≤ 1048576) := ⟨by
        have h1 := HPT.out.length_eq
        have h2 := List.length_filter_le (fun x => !overB keep now x) (l.map cv)
        rw [List.length_map] at h2
        have h3 := HTL.out
        have := HL.out
        have := HN.out
        omega⟩
      have HRT : Aside0 (∀ x ∈ s.map cv, rightB x = true) := ⟨fun x hx => HFL.out.1 x (List.mem_filter.1 (HPT.out.mem_iff.1 hx)).1⟩
      clear hie hwb HP HG HB3
      go_wp2_with fail
      go_loopg [10] 20 (fun g s10 wx => ∃ lv : Nat, s10 = .int .i64 (lv : Int) ∧ Aside0 (lv + g = 20) ∧ Aside0 (Below wb.heap.size wb wx) ∧ Aside0 (∀ k, k < lv → packL F mx (s.map cv) k = none))
      case atStart => exact ⟨0, rfl, ⟨rfl⟩, ⟨Below.refl _ _⟩, ⟨fun k hk => absurd hk (Nat.not_lt_zero _)⟩⟩
      case round =>
      obtain ⟨lv, rfl, HG, HBL, HPL⟩ := hrel
      by_cases hlv : (lv : Int) < 20
      · obtain ⟨ga, rfl⟩ : ∃ ga, ga = gk := ⟨_, rfl⟩
        obtain ⟨wa, rfl⟩ : ∃ wa, wa = wr := ⟨_, rfl⟩
        obtain ⟨N, hN⟩ : ∃ N, N = m + 1 - F := ⟨_, rfl⟩
        have HNN := Aside0.mk hN
        clear hN
        go_wp2_with fail
        go_loopg [11] N (fun g s11 wx => ∃ i2 : Nat, s11 = .int .i64 (i2 : Int) ∧ Aside0 (i2 + g = N) ∧ Aside0 (Below wb.heap.size wb wx) ∧ Aside0 (∀ k, k < i2 → runOk (lv : Int) mx 0 (runAt F (s.map cv) k) = false))
        case atStart => exact ⟨0, rfl, ⟨Nat.zero_add _⟩, HBL, ⟨fun k hk => absurd hk (Nat.not_lt_zero _)⟩⟩
        case round =>
        obtain ⟨i2, rfl, HGI, HBI, HRI⟩ := hrel
        have hk4 := (HBI.out.block b4 HLB.out).trans HKB.out
        have r0 := blk_cell hk4 0
        simp at r0
        obtain ⟨z, hz⟩ : ∃ z, z = i2 + F := ⟨_, rfl⟩
        have ez : wrap64 ((i2 : Int) + (F : Int)) = (z : Int) := by
          have h1 := HML.out
          have h2 := HF.out
          have h3 := HNN.out
          have h4 := HGI.out
          rw [Go.IntWalk.wrap64_in _ (by omega)]
          omega
        have ez' : IntKind.i64.wrap ((i2 : Int) + (F : Int)) = (z : Int) := by rw [i64_w]; exact ez
        have HZ := Aside0.mk hz
        have HEZ := Aside0.mk ez
        clear hk4 hz
        by_cases hi2 : z ≤ m
        · have h2d : decide (z ≤ m) = true := decide_eq_true hi2
          have h2i : (z : Int) ≤ (m : Int) := by omega
          have HZM := Aside0.mk hi2
          obtain ⟨gb, rfl⟩ : ∃ gb, gb = gk := ⟨_, rfl⟩
          obtain ⟨wc, rfl⟩ : ∃ wc, wc = wr := ⟨_, rfl⟩
          obtain ⟨run, hrun⟩ : ∃ run, run = runAt F (s.map cv) i2 := ⟨_, rfl⟩
          have HRUN := Aside0.mk hrun
          have HRL : Aside0 (run.length = F) := ⟨by rw [hrun]; exact run_len (by rw [HTL.out]; have := HZ.out; omega)⟩
          have HRR : Aside0 (∀ x ∈ run, rightB x = true) := ⟨fun x hx => HRT.out x ((run_sub F i2 _).subset (by rw [← hrun]; exact hx))⟩
          have HAT : Aside0 (∀ j (hj : j < run.length), ∃ h : i2 + j < s.length, run[j] = cv s[i2 + j]) := ⟨fun j hj => by
            have h0 : i2 + j < s.length := by have h1 := HRL.out; have h2 := HZ.out; have h3 := HM.out.1; omega
            refine ⟨h0, ?_⟩
            simp only [hrun]
            unfold runAt
            rw [List.getElem_take, List.getElem_drop, List.getElem_map]⟩
          clear hrun hi2
          go_wp2_with fail
          go_loopg [12, 13, 14] F (fun g s12 s13 s14 wx => ∃ (j q : Nat) (v12 : Value), s14 = .int .i64 (q : Int) ∧ s13 = .int .i64 (sumI ((run.take j).map (·.f6))) ∧ s12 = v12 ∧ Aside0 (q = i2 + j) ∧ Aside0 (j + g = F) ∧ Aside0 (Below wb.heap.size wb wx) ∧ Aside0 ((Kd.int .i64).R 3 wx wb.heap.size (fun _ => True) v12 ((run.take j).map (·.f0))) ∧ Aside0 (∀ p (hp : p < run.length), p < j → run[p].f7 = (lv : Int)))
          case atStart => exact ⟨0, i2, _, rfl, rfl, rfl, ⟨rfl⟩, ⟨Nat.zero_add _⟩, HBI, ⟨Kd.R_nil _ _ _ _ _⟩, ⟨fun p hp h => absurd h (Nat.not_lt_zero _)⟩⟩
          case round =>
          obtain ⟨j, q, v12, rfl, rfl, rfl, HQ, HGJ, HBJ2, HRJ2, HLJ⟩ := hrel
          have hk4 := (HBJ2.out.block b4 HLB.out).trans HKB.out
          have r0 := blk_cell hk4 0
          have r1 := blk_cell hk4 1
          simp at r0 r1
          have ez := HEZ.out
          clear hk4
          have hs6 := sum_bd ((run.take j).map (·.f6)) (fun v hv => by obtain ⟨z, hz, rfl⟩ := List.mem_map.1 hv; have := right_wf (HRR.out z (List.mem_of_mem_take hz)); omega)
          rw [List.length_map, List.length_take] at hs6
          have hF16 : F ≤ 16 := HF.out.2
          by_cases hj : j < F
          · have hjr : j < run.length := by rw [HRL.out]; exact hj
            obtain ⟨hjs, hat⟩ := HAT.out j hjr
            have hqj : q < s.length := by rw [HQ.out]; exact hjs
            obtain ⟨sb, hAs, a0, a1, a2, a3, a4, a5, a6, a7⟩ := el44 (Kd.C_below HCB.out HBJ2.out) q hqj
            have hxx : run[j] = cv s[q] := by rw [hat]; simp only [HQ.out]
            obtain ⟨x, hx⟩ : ∃ x, x = s[q] := ⟨_, rfl⟩
            rw [← hx] at a0 a1 a2 a3 a4 a5 a6 a7 hxx
            have hrx := right_wf (HRR.out run[j] (List.getElem_mem hjr))
            rw [hxx] at hrx
            replace hrx : 0 ≤ x.f6 ∧ x.f6 < 1099511627776 := ⟨hrx.2.2.2.2.2.2.2.2.2.2.2.2.1, hrx.2.2.2.2.2.2.2.2.2.2.2.2.2.1⟩
            have HT6 : Aside0 (sumI ((run.take (j + 1)).map (·.f6)) = sumI ((run.take j).map (·.f6)) + x.f6) := ⟨by rw [List.take_succ_eq_append_getElem hjr, List.map_append]; rw [sum_append]; show _ + sumI [run[j].f6] = _; rw [hxx, sum_cons]; show _ + (x.f6 + 0) = _; omega⟩
            have HT0 : Aside0 ((run.take (j + 1)).map (·.f0) = (run.take j).map (·.f0) ++ [x.f0]) := ⟨by rw [List.take_succ_eq_append_getElem hjr, List.map_append]; show _ ++ [run[j].f0] = _; rw [hxx]; rfl⟩
            have HX7 : Aside0 (∃ h : j < run.length, run[j].f7 = x.f7) := ⟨hjr, by rw [hxx]; rfl⟩
            have HX6 : Aside0 (cv x ∈ run) := ⟨by rw [← hxx]; exact List.getElem_mem hjr⟩
            have hqz : q < z := by have := HQ.out; have := HZ.out; omega
            have hqd : decide (q < z) = true := decide_eq_true hqz
            have hqm : q < m := by have := HM.out.1; omega
            have hqi : (q : Int) < (m : Int) := by omega
            have hqn : (q : Int) < (z : Int) := by omega
            have hm20 : m ≤ 1048576 := HML.out
            obtain ⟨a6', ha6⟩ : ∃ a6', a6' = sumI ((run.take j).map (·.f6)) := ⟨_, rfl⟩
            rw [← ha6] at hs6 HT6 ⊢
            have e6 : wrap64 (a6' + x.f6) = a6' + x.f6 := Go.IntWalk.wrap64_in _ (by omega)
            have HE6 := Aside0.mk e6
            have HLN : Aside0 (((run.take j).map (·.f0)).length + 1 ≤ 17) := ⟨by rw [List.length_map, List.length_take]; omega⟩
            have HXQ : Aside0 (∃ h : q < s.length, x = s[q]) := ⟨hqj, hx⟩
            subst hAs
            clear hx hxx hat hjs hqj ha6 e6 hs6 hrx hjr a1 a2 a3 a4 a5
            by_cases h7 : x.f7 = (lv : Int)
            · have n1 : (x.f7 == (lv : Int)) = true := by simpa using h7
              have HLJ2 : Aside0 (∀ p (hp : p < run.length), p < j + 1 → run[p].f7 = (lv : Int)) := ⟨fun p hp hpj => by
                rcases Nat.lt_or_ge p j with h | h
                · exact HLJ.out p hp h
                · have : p = j := by omega
                  subst this
                  obtain ⟨_, h9⟩ := HX7.out
                  rw [h9]; exact h7⟩
              clear h7
              go_wp2_with (first | ((with_reducible refine gate_builtin (b := .append) (xs := #[.tmp 146, .tmp 152]) rfl ?_); at_builtin; refine Kd.R_append (Kd.int .i64) (w0 := wb) wb.heap.size rfl (.tmp 146) (.tmp 152) 26 3 (.int .i64 0) 8 rfl Try.underlying26 Pi.info3 rfl (by decide) (by omega) u12 ((run.take j).map (·.f0)) x.f0 [.int .i64 x.f0] (fun _ => True) (fun _ => False) rfl rfl ?aP (fun _ hk => hk.elim) ?aF ?aO ?aB ?aS ?aL ?_; (case aP => exact rfl); (case aB => exact HBJ2.out); (case aF => exact (fun _ _ => trivial)); (case aO => exact HRJ2.out); (case aS => exact HBJ2.out.size); (case aL => have := HLN.out; omega); intro v2 w4 ho hb hg hat; have HON := Aside0.mk ho; have HBN := Aside0.mk hb; obtain ⟨hq', hxq⟩ := HXQ.out; obtain ⟨sb', hAs', e0, e1, e2, e3, e4, e5, b6, e7⟩ := el44 (Kd.C_below HCB.out hb) q hq'; injection hAs' with hAs'; subst hAs'; rw [← hxq] at b6; clear ho hb hg hat hxq hq' e0 e1 e2 e3 e4 e5 e7 a6 a7 a0))
              go_roundg (gk - 1)
              case measure => have := HGJ.out; omega
              case rel => exact ⟨j + 1, q + 1, _, by go_num, by rw [HT6.out, HE6.out], rfl, ⟨by have := HQ.out; omega⟩, ⟨by have := HGJ.out; omega⟩, HBN, ⟨by rw [HT0.out]; exact HON.out⟩, HLJ2⟩
            · have n1 : (x.f7 == (lv : Int)) = false := by simpa using h7
              have HRX : Aside0 (runOk (lv : Int) mx 0 (runAt F (s.map cv) i2) = false) := ⟨by
                cases hro : runOk (lv : Int) mx 0 (runAt F (s.map cv) i2) with
                | false => rfl
                | true =>
                  rw [← HRUN.out] at hro
                  exact absurd (((run_iff run 0 (fun y hy => by have := right_wf (HRR.out y hy); omega)).1 hro).1 (cv x) HX6.out) h7⟩
              obtain ⟨A12, c12, e12, hc12⟩ := OwnRow.slice_ HRJ2.out.2
              have hln : ((run.take j).map (·.f0)).length = j := by rw [List.length_map, List.length_take, HRL.out]; omega
              rw [hln] at e12
              have hjF : ((j : Int) == (F : Int)) = false := beq_eq_false_iff_ne.mpr (by omega)
              have hjN : (j == F) = false := beq_eq_false_iff_ne.mpr (by omega)
              subst e12
              have hi20 : i2 ≤ 1048576 := by have := HZ.out; have := HZM.out; have := HML.out; omega
              clear h7 hc12 hln
              go_wp2
              go_roundg (gb - 1)
              case measure => have h1 := HGI.out; have h2 := HZM.out; have h3 := HZ.out; have h4 := HNN.out; omega
              case rel => exact ⟨i2 + 1, by go_num, ⟨by have h1 := HGI.out; have h2 := HZM.out; have h3 := HZ.out; have h4 := HNN.out; omega⟩, HBJ2, ⟨fun k hk => by
                rcases Nat.lt_or_ge k i2 with h | h
                · exact HRI.out k h
                · have : k = i2 := by omega
                  rw [this]; exact HRX.out⟩⟩
          · have hjF : j = F := by have := HGJ.out; omega
            have htk : run.take j = run := by rw [hjF, List.take_of_length_le (by rw [HRL.out]; exact Nat.le_refl _)]
            rw [htk] at HRJ2 hs6 ⊢
            obtain ⟨A12, c12, e12, hc12⟩ := OwnRow.slice_ HRJ2.out.2
            have hln : (run.map (·.f0)).length = F := by rw [List.length_map, HRL.out]
            rw [hln] at e12
            have hqz : ¬ q < z := by have := HQ.out; have := HZ.out; omega
            have hqd : decide (q < z) = false := decide_eq_false hqz
            have HALL : Aside0 (∀ x ∈ run, x.f7 = (lv : Int)) := ⟨fun x hx => by
              obtain ⟨p, hp, rfl⟩ := List.getElem_of_mem hx
              exact HLJ.out p hp (by rw [hjF, ← HRL.out]; exact hp)⟩
            have HNE : Aside0 (run ≠ []) := ⟨fun e => by have h1 := HRL.out; rw [e] at h1; have h2 := HF.out; simp at h1; omega⟩
            obtain ⟨a6', ha6⟩ : ∃ a6', a6' = sumI (run.map (·.f6)) := ⟨_, rfl⟩
            rw [← ha6]
            have HA6 := Aside0.mk ha6
            have HRIFF := Aside0.mk (run_iff (lv := (lv : Int)) (mx := mx) run 0 (fun y hy => by have := right_wf (HRR.out y hy); omega))
            have ff1 : ((F : Int) == (F : Int)) = true := by simp
            have hqn : ¬ (q : Int) < (z : Int) := by omega
            subst e12
            clear ha6 hs6 htk hln hc12 hqz
            by_cases hmx : a6' ≤ mx
            · have hm1 : decide (a6' ≤ mx) = true := decide_eq_true hmx
              have HOK : Aside0 (runOk (lv : Int) mx 0 (runAt F (s.map cv) i2) = true) := ⟨by rw [← HRUN.out]; exact HRIFF.out.2 ⟨HALL.out, fun _ => by rw [← HA6.out]; omega⟩⟩
              have HPS : Aside0 (packS F mx (s.map cv) = some run) := ⟨find_some 20 _ lv _ (by omega) HPL.out (find_some _ _ i2 _ (by rw [HTL.out]; have := HNN.out; have := HZM.out; have := HZ.out; omega) (fun k hk => by rw [if_neg (by rw [HRI.out k hk]; decide)]) (by rw [if_pos HOK.out, HRUN.out]))⟩
              clear hmx hjF
              go_wp2
              go_ret
              exact ⟨_, s.map cv, rfl, HPT.out, HSO.out, by rw [HPR.out, HPS.out]; exact Kd.R_lower HRJ2.out HBB.out.size, HBB.out.trans (below_low HBJ2.out HBB.out.size)⟩
            · have hm1 : decide (a6' ≤ mx) = false := decide_eq_false hmx
              have HRX : Aside0 (runOk (lv : Int) mx 0 (runAt F (s.map cv) i2) = false) := ⟨by
                cases hro : runOk (lv : Int) mx 0 (runAt F (s.map cv) i2) with
                | false => rfl
                | true =>
                  rw [← HRUN.out] at hro
                  have h1 := (HRIFF.out.1 hro).2 HNE.out
                  rw [← HA6.out] at h1
                  exact absurd (by omega) hmx⟩
              have hi20 : i2 ≤ 1048576 := by have := HZ.out; have := HZM.out; have := HML.out; omega
              clear hmx hjF
              go_wp2
              go_roundg (gb - 1)
              case measure => have h1 := HGI.out; have h2 := HZM.out; have h3 := HZ.out; have h4 := HNN.out; omega
              case rel => exact ⟨i2 + 1, by go_num, ⟨by have h1 := HGI.out; have h2 := HZM.out; have h3 := HZ.out; have h4 := HNN.out; omega⟩, HBJ2, ⟨fun k hk => by
                rcases Nat.lt_or_ge k i2 with h | h
                · exact HRI.out k h
                · have : k = i2 := by omega
                  rw [this]; exact HRX.out⟩⟩
        · have h2d : decide (z ≤ m) = false := decide_eq_false hi2
          have h2i : ¬ (z : Int) ≤ (m : Int) := by omega
          have HPK : Aside0 (packL F mx (s.map cv) lv = none) := ⟨find_none _ _ (fun k hk => by rw [if_neg (by rw [HRI.out k (by rw [HTL.out] at hk; have := HNN.out; have := HZ.out; omega)]; decide)])⟩
          have HLV : Aside0 (lv < 20) := ⟨by omega⟩
          clear hi2
          go_wp2
          go_roundg (ga - 1)
          case measure => have h1 := HG.out; have h2 := HLV.out; omega
          case rel => exact ⟨lv + 1, by go_num, ⟨by have h1 := HG.out; have h2 := HLV.out; omega⟩, HBI, ⟨fun k hk => by
            rcases Nat.lt_or_ge k lv with h | h
            · exact HPL.out k h
            · have : k = lv := by omega
              rw [this]; exact HPK.out⟩⟩
      · have hleq : lv = 20 := by have := HG.out; omega
        have HPS : Aside0 (packS F mx (s.map cv) = none) := ⟨find_none _ _ (fun k hk => HPL.out k (by omega))⟩
        clear hleq
        go_wp2
        go_ret
        exact ⟨_, s.map cv, rfl, HPT.out, HSO.out, by rw [HPR.out, HPS.out]; exact Kd.R_nil _ _ _ _ _, HBB.out.trans (below_low HBL.out HBB.out.size)⟩
end Go.Proofs.Ytdohacnjngkkiaa.Rk
