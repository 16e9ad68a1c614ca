/- The document's Sort, walked. -/
import Derived.Test.YtgafnjgiikdofaaGreatDoorA5
import Derived.Test.YtgafnjgiikdofaaGreatDoorSc
import Derived.Test.YtgafnjgiikdofaaGreatDoorMd
namespace Go.Proofs.YtgafnjgiikdofaaGreatDoor.Ro
set_option linter.unusedVariables false
set_option linter.unusedSimpArgs false
open Go.Shelf Go.RowKit Go.Proofs.YtgafnjgiikdofaaGreatDoorW.PrintWords Go.Proofs.YtgafnjgiikdofaaGreatDoorW.PrintLast Go.Proofs.YtgafnjgiikdofaaGreatDoorW.PrintMore
open Go.Proofs.YtgafnjgiikdofaaGreatDoor.A Go.Proofs.YtgafnjgiikdofaaGreatDoor.Ss Go.Proofs.YtgafnjgiikdofaaGreatDoor.Sc
attribute [local go_sem high] Go.Proofs.YtgafnjgiikdofaaGreatDoor.Sg.gtr_str Go.Proofs.YtgafnjgiikdofaaGreatDoor.Sg.leq_str
/-- before, by name -/
def ltL (x y : S47) : Prop := Op.bytesLess x.f0.toList y.f0.toList = true
def Srt (t : List S47) : Prop := t.Pairwise fun x y => ¬ ltL y x
theorem ltL_trans {x y z : S47} (h : ltL x y) (h2 : ltL y z) : ltL x z := Sy.bl_trans _ _ _ h h2
theorem ltL_neg {x y z : S47} (h : ¬ ltL y x) (h2 : ¬ ltL z y) : ¬ ltL z x := fun h3 => by
  unfold ltL at *
  have h' : Op.bytesLess y.f0.toList x.f0.toList = false := by simpa using h
  rcases Sy.bl_tot _ _ h' with h4 | h4
  · exact h2 (Sy.bl_trans _ _ _ h3 h4)
  · rw [← h4] at h3; exact h2 h3
theorem ltL_asymm {x y : S47} (h : ltL x y) : ¬ ltL y x := fun h2 => by
  have := Sy.bl_trans _ _ _ h h2
  rw [Sy.bl_irrefl] at this
  cases this
theorem ins_sorted {t : List S47} {y : S47} {kk : Nat} (h : Srt t) (hk : kk ≤ t.length) (hg : ∀ x ∈ t.drop kk, ltL y x) (hl : ∀ p (hp : p < t.length), p + 1 = kk → ¬ ltL y t[p]) :
    Srt (t.take kk ++ [y] ++ t.drop kk) := by
  unfold Srt at *
  have hp := List.pairwise_iff_getElem.1 h
  have htk : ∀ x ∈ t.take kk, ¬ ltL y x := by
    intro x hx
    obtain ⟨p, hp1, rfl⟩ := List.getElem_of_mem hx
    rw [List.length_take] at hp1
    rw [List.getElem_take]
    by_cases e : p + 1 = kk
    · exact hl p (by omega) e
    · have h1 := hl (kk - 1) (by omega) (by omega)
      have h2 := hp p (kk - 1) (by omega) (by omega) (by omega)
      exact ltL_neg h2 h1
  rw [List.pairwise_append, List.pairwise_append]
  refine ⟨⟨h.sublist (List.take_sublist _ _), List.pairwise_singleton _ _, fun a ha b hb => ?_⟩, h.sublist (List.drop_sublist _ _), fun a ha b hb => ?_⟩
  · rw [List.mem_singleton] at hb
    subst hb
    exact htk a ha
  · rw [List.mem_append, List.mem_singleton] at ha
    rcases ha with ha | rfl
    · obtain ⟨p, hp1, rfl⟩ := List.getElem_of_mem ha
      obtain ⟨q, hq1, rfl⟩ := List.getElem_of_mem hb
      rw [List.length_take] at hp1
      rw [List.length_drop] at hq1
      rw [List.getElem_take, List.getElem_drop]
      exact hp p (kk + q) (by omega) (by omega) (by omega)
    · exact ltL_asymm (hg b hb)
theorem ins_perm {α : Type} (t : List α) (y : α) (kk : Nat) : (t.take kk ++ [y] ++ t.drop kk).Perm (t ++ [y]) := by
  have h1 : (t.take kk ++ [y] ++ t.drop kk).Perm (t.take kk ++ (t.drop kk ++ [y])) := by
    rw [List.append_assoc]
    exact List.Perm.append_left _ List.perm_append_comm
  refine h1.trans ?_
  rw [← List.append_assoc, List.take_append_drop]
theorem below_low {B B' : Nat} {w w' : World} (h : Below B' w w') (hB : B ≤ B') : Below B w w' := ⟨h.os, h.tape, h.output, h.size, fun k hk => h.block k (by omega)⟩
/-- the cells of a label in a list -/
theorem el47 {w : World} {A : Option Addr} {n : Nat} {l : List S47} (h : k47.C w A n l) (i : Nat) (hi : i < l.length) : ∃ ad, A = some ad ∧
    w.cell? (ad.add (i * 2)) = some (.string l[i].f0) ∧ w.cell? ⟨(ad.add (i * 2)).block, (ad.add (i * 2)).off + 1, none⟩ = some (.string l[i].f1) := by
  have hl := Kd.C_len h
  have h1 := at_T47 h (i : Int) (by omega) (by omega)
  have e : rd_T47 l (i : Int) = l[i] := rd_of l i hi
  rw [e] at h1
  simpa using h1
theorem lit47 {w : World} {b : Nat} {y : S47} (h : w.heap[b]? = some (.cells (cells2 y).toArray 47 (0, 0))) : k47.C w (some ⟨b, 0, none⟩) 1 [y] := by
  have hR : k47.R 47 w 0 (fun _ => True) (.slice (some ⟨b, 0, none⟩) 1 1) [y] := by
    refine ⟨fun _ _ => trivial, cells2 y, ⟨rfl, .inr ⟨b, 1, _, rfl, Nat.zero_le _, h, Nat.le_refl _, by simp [maxLen], rfl, rfl⟩⟩, ?_⟩
    exact (Reps.none _ _).snoc (k47_mkM _ _ _ y) rfl
  exact (Kd.R_reads' hR).2.2
def LC (ad : Addr) (i : Nat) (y : S47) (W : World) : Prop := W.cell? (ad.add (i * 2)) = some (.string y.f0) ∧ W.cell? ⟨(ad.add (i * 2)).block, (ad.add (i * 2)).off + 1, none⟩ = some (.string y.f1)
theorem LC_below {ad : Addr} {i : Nat} {y : S47} {w W : World} (h : LC ad i y w) (hb : Below w.heap.size w W) : LC ad i y W := by
  obtain ⟨c0, c1⟩ := h
  exact ⟨(hb.cell (World.block_lt_of_cell? w _ c0)).trans c0, (hb.cell (World.block_lt_of_cell? w _ c1)).trans c1⟩
theorem grown_far {w w1 : World} {row : Option Nat} {b : Nat} {o : Obj} (hg : w.grownBy w1 row) (h : w.heap[b]? = some o) (hne : some b ≠ row) : w1.heap[b]? = some o := (hg.block b (blk_lt h) hne).trans h
theorem lit_step {ops : Array Oper} {o : Oper} {a : Act} {Q : Exit → Act → World → Prop} {W : World} {Kc : Act → World → Prop} (hw : Region.wanted o (yielded ops a.tmps) = true) {N : Tmp} (_hd : o.dst = some N) {cs : Array Value} {t : TypeId}
    (hrun : (execOp a.eval o).run Tryz.prog W = .ok (.value (.slice (some ⟨W.heap.size, 0, none⟩) 1 1)) (W.alloc (.cells cs t (0, 0))))
    (h : ∀ g, g = W.heap.size → ∀ w1, w1.heap[g]? = some (.cells cs t (0, 0)) → Below W.heap.size W w1 → Kc (a.put o.dst (.slice (some ⟨g, 0, none⟩) 1 1)) w1) : if Region.wanted o (yielded ops a.tmps) = true then Oper.wp Tryz.prog o a W Kc Q else Kc (a.put o.dst undef) W :=
  event_step hw hrun (h _ rfl _ (blk_new W _) (below_alloc (Below.refl _ _) _))
theorem rsort_long (A : Option Addr) (c : Nat) (l : List S47) (w : World) (hn : l.length ≤ 9223372036854775807) (hl : 16 < l.length) :
    Calls Tryz.prog 24 #[.slice A l.length c] w fun e w' => e = .returned (.tuple #[.slice none 0 0, .int .i64 30]) ∧ w' = w := by
  obtain ⟨n, hn'⟩ : ∃ n, n = l.length := ⟨_, rfl⟩
  rw [← hn'] at hn hl ⊢
  clear hn'
  have q1 : (16 : Int) < (n : Int) := by omega
  have q2 : decide ((16 : Int) < (n : Int)) = true := decide_eq_true q1
  go_enter Tryz.func24, Tryz.ntmps24
  go_wp2_with fail
  go_ret2
  exact ⟨rfl, rfl⟩
set_option maxHeartbeats 16000000 in
set_option maxRecDepth 100000 in
theorem rsort_walk (A : Option Addr) (c : Nat) (l : List S47) (w : World) (K : Nat) (rB : List S47 → Bool) (hC : k47.C w A l.length l) (hc : l.length ≤ c) (hl : l.length ≤ 16) (hR : ∀ t : List S47, t.Perm l → Srt t → icehouseref02_Right.f K t = some (rB t)) :
    Calls Tryz.prog 24 #[.slice A l.length c] w fun e w' => ∃ (t : List S47) (v : Value), t.Perm l ∧ Srt t ∧ e = .returned (.tuple #[v, .int .i64 (if rB t = true then 0 else 30)]) ∧ k47.R 47 w' w.heap.size (fun _ => True) v (if rB t = true then t else []) ∧ Below w.heap.size w w' := by
  have HC := Aside0.mk hC
  have HCC := Aside0.mk hc
  have HRT := Aside0.mk hR
  obtain ⟨n, hn⟩ : ∃ n, n = l.length := ⟨_, rfl⟩
  rw [← hn] at hl ⊢
  have HN := Aside0.mk hn
  have HL := Aside0.mk hl
  have q9 : ¬ (16 : Int) < (n : Int) := by omega
  have q8 : decide ((16 : Int) < (n : Int)) = false := decide_eq_false q9
  clear hC hc hn hl hR
  go_enter Tryz.func24, Tryz.ntmps24
  go_wp2_with fail
  go_loopg [4, 5] n (fun g s4 s5 wx => ∃ (i m cs : Nat) (As : Option Addr) (s : List S47), s5 = .int .i64 (i : Int) ∧ s4 = .slice As m cs ∧ Aside0 (i + g = n) ∧ Aside0 (Below w.heap.size w wx) ∧ Aside0 (k47.R 47 wx w.heap.size (fun _ => True) (.slice As m cs) s) ∧ Aside0 (m = s.length ∧ m ≤ cs) ∧ Aside0 (s.Perm (l.take i)) ∧ Aside0 (Srt s))
  case atStart => exact ⟨0, 0, 0, none, [], rfl, rfl, ⟨Nat.zero_add _⟩, ⟨Below.refl _ _⟩, ⟨Kd.R_nil _ _ _ _ _⟩, ⟨rfl, Nat.le_refl _⟩, ⟨List.Perm.nil⟩, ⟨List.Pairwise.nil⟩⟩
  case round =>
    obtain ⟨i, m, cs, As, s, rfl, rfl, HG, HBP, HRP, HM, HP, HSO⟩ := hrel
    by_cases hi : (i : Int) < n
    · have hil : i < l.length := by have := HN.out; omega
      have HTK3 : Aside0 (l.take (i + 1) = l.take i ++ [l[i]]) := ⟨List.take_succ_eq_append_getElem hil⟩
      obtain ⟨y, hy⟩ : ∃ y, y = l[i] := ⟨_, rfl⟩
      rw [← hy] at HTK3
      have HY : Aside0 (∃ h : i < l.length, y = l[i]) := ⟨hil, hy⟩
      clear hy hil
      have hn20 : n ≤ 16 := HL.out
      have hncc : n ≤ c := by have := HCC.out; have := HN.out; omega
      obtain ⟨ga, rfl⟩ : ∃ ga, ga = gk := ⟨_, rfl⟩
      obtain ⟨wP, rfl⟩ : ∃ wP, wP = wr := ⟨_, rfl⟩
      have HCP := Aside0.mk (Kd.R_reads' HRP.out).2.2
      have HCL := Aside0.mk (Kd.C_below HC.out HBP.out)
      have hms : m ≤ 16 := by
        have h1 := HP.out.length_eq
        rw [List.length_take] at h1
        have := HM.out.1
        have := HL.out
        have := HN.out
        omega
      have HMS := Aside0.mk hms
      go_wp2_with fail
      go_loopg [6] m (fun g s6 wx => ∃ k : Nat, s6 = .int .i64 (k : Int) ∧ Aside0 (k = g ∧ k ≤ m) ∧ Aside0 (Below wP.heap.size wP wx) ∧ Aside0 (∀ p (hp : p < s.length), k ≤ p → ltL y s[p]))
      case atStart => exact ⟨m, rfl, ⟨rfl, Nat.le_refl _⟩, ⟨Below.refl _ _⟩, ⟨fun p hp h => by have := HM.out.1; omega⟩⟩
      case round =>
        obtain ⟨k, rfl, HGK, HBK, HGE⟩ := hrel
        obtain ⟨hil, hyl⟩ := HY.out
        obtain ⟨ad, hA, c0, c1⟩ := el47 (Kd.C_below HCL.out HBK.out) i hil
        subst hA
        rw [← hyl] at c0 c1
        have HCELL2 : Aside0 (wr.cell? (ad.add (i * 2)) = some (.string y.f0) ∧ wr.cell? ⟨(ad.add (i * 2)).block, (ad.add (i * 2)).off + 1, none⟩ = some (.string y.f1)) := ⟨c0, c1⟩
        clear hyl
        by_cases hk : 0 < k
        · obtain ⟨j, hkj⟩ : ∃ j, k = j + 1 := ⟨k - 1, by omega⟩
          have hjs : j < s.length := by have := HGK.out.2; have := HM.out.1; omega
          obtain ⟨sa, hAs, a0, a1⟩ := el47 (Kd.C_below HCP.out HBK.out) j hjs
          have HAs := Aside0.mk hAs
          obtain ⟨x, hx⟩ : ∃ x, x = s[j] := ⟨_, rfl⟩
          rw [← hx] at a0 a1
          have HX : Aside0 (∃ h : j < s.length, x = s[j]) := ⟨hjs, hx⟩
          have q0 : (0 : Int) < (k : Int) := by omega
          have q1 : IntKind.i64.wrap ((k : Int) - 1) = (j : Int) := by rw [i64_w, Go.IntWalk.wrap64_in _ (by have := HGK.out.2; omega)]; omega
          have q2 : wrap64 ((k : Int) - 1) = (j : Int) := by rw [Go.IntWalk.wrap64_in _ (by have := HGK.out.2; omega)]; omega
          have q3 : ((j : Int)) < (m : Int) := by have := HGK.out.2; omega
          have q4 : (0 : Int) ≤ (j : Int) := by omega
          have q5 : (i : Int) < (n : Int) := hi
          have q6 : decide ((0 : Int) < (k : Int)) = true := decide_eq_true q0
          subst hAs
          have HKJ := Aside0.mk hkj
          have q7 : decide (0 < k) = true := decide_eq_true hk
          clear hkj hx hjs c1 a1 hil
          cases t1 : Op.bytesLess y.f0.toList x.f0.toList with
          | true =>
            have HLS : Aside0 (ltL y x) := ⟨t1⟩
            go_upto_region 8 with fail
            go_quiet (fail)
            go_wp2
            go_roundg (gk - 1)
            case measure => have h1 := HGK.out; have h2 := HKJ.out; omega
            case rel => exact ⟨j, by go_num, ⟨by have h1 := HGK.out; have h2 := HKJ.out; omega, by have h1 := HGK.out; have h2 := HKJ.out; omega⟩, ⟨pw_below_drewN HBK.out _⟩, ⟨fun p hp h => by
              rcases Nat.eq_or_lt_of_le h with rfl | h2
              · obtain ⟨_, hx⟩ := HX.out; rw [← hx]; exact HLS.out
              · exact HGE.out p hp (by have := HKJ.out; omega)⟩⟩
          | false =>
            have HNL : Aside0 (¬ ltL y x) := ⟨by unfold ltL; rw [t1]; decide⟩
            go_upto_region 8 with fail
            go_quiet (fail)
            go_upto_region 10 with fail
            obtain ⟨wX, hwX⟩ : ∃ wX : World, wX = wr.drewN nq := ⟨_, rfl⟩
            have HBX : Aside0 (Below wP.heap.size wP wX) := ⟨by rw [hwX]; exact pw_below_drewN HBK.out _⟩
            have HLC : Aside0 (LC ad i y wX) := ⟨by rw [hwX]; exact HCELL2.out⟩
            rw [← hwX]
            clear hwX
            have HKM : Aside0 (k ≤ m) := ⟨HGK.out.2⟩
            have HS1 : Aside0 (k47.C wX (some sa) (k) (s.take (k))) := ⟨by
              have h := Kd.C_take (Kd.C_below HCP.out HBX.out) (m := k) (by have := HKM.out; have := HM.out.1; omega)
              rw [List.length_take, Nat.min_eq_left (by have := HKM.out; have := HM.out.1; omega)] at h
              exact h⟩
            have HS2 : Aside0 (k47.C wX (if cs = (k) then (some sa) else (some sa).map (·.add ((k) * 2))) (m - (k)) (s.drop (k))) := ⟨by
              have h := Kd.C_drop (Kd.C_below HCP.out HBX.out) (m := k) (c := cs) (by have := HKM.out; have := HM.out.1; omega) (by have := HM.out; omega)
              rw [List.length_drop, ← HM.out.1] at h
              exact h⟩
            have HFP : Aside0 (([] ++ s.take k ++ [y] ++ s.drop k).Perm (l.take (i + 1))) := ⟨by
              rw [HTK3.out, List.nil_append]
              exact (ins_perm s y k).trans (HP.out.append_right _)⟩
            have HFS : Aside0 (Srt ([] ++ s.take k ++ [y] ++ s.drop k)) := ⟨by
              rw [List.nil_append]
              refine ins_sorted HSO.out (by have := HGK.out.2; have := HM.out.1; omega) (fun z hz => ?_) (fun p hp hpk => ?_)
              · obtain ⟨p, hp, rfl⟩ := List.getElem_of_mem hz
                rw [List.length_drop] at hp
                rw [List.getElem_drop]
                exact HGE.out (k + p) (by omega) (by omega)
              · skip
                obtain ⟨hjs, hxj⟩ := HX.out
                have : p = j := by have := HKJ.out; omega
                subst this
                rw [← hxj]
                exact HNL.out⟩
            have p1 : (0 : Int) ≤ ((k : Nat) : Int) := by omega
            have p2 : ((k : Nat) : Int) ≤ (m : Int) := by have := HKM.out; omega
            have p3 : (m : Int) ≤ (cs : Int) := by have := HM.out.2; omega
            have p4 : ((k : Nat) : Int) ≤ (cs : Int) := by omega
            have p5 : (i : Int) < (n : Int) := hi
            have hLt : (i + 1 : Nat) ≤ n := by omega
            refine start_ (S := LC ad i y) (ds := []) #[false, false, false, false, false, false, false, false, false, false, false, false, false, false, false, false] (by kernel_rfl) rfl rfl HLC.out (fun hHeld => ?_)
            have HBX0 : Aside0 (Below wX.heap.size wX wX.drew) := ⟨below_drew (Below.refl _ _)⟩
            refine pure_ (i := 1) (N := some 37) #[false, true, false, false, false, false, false, false, false, false, false, false, false, false, false, false] rfl rfl (by kernel_rfl) (fun _ _ _ h => h) (.inl ⟨by rfl, by (intro w; go_simp <;> with_reducible rfl)⟩) rfl ?_
            (try simp only [Act.put, List.setIfInBounds_toArray, List.set_cons_zero, List.set_cons_succ])
            refine pure_ (i := 2) (N := some 38) #[false, true, true, false, false, false, false, false, false, false, false, false, false, false, false, false] rfl rfl (by kernel_rfl) (fun _ _ _ h => h) (.inl ⟨by rfl, by (intro w; go_simp <;> with_reducible rfl)⟩) rfl ?_
            (try simp only [Act.put, List.setIfInBounds_toArray, List.set_cons_zero, List.set_cons_succ])
            refine pure_ (i := 3) (N := some 39) #[false, true, true, true, false, false, false, false, false, false, false, false, false, false, false, false] rfl rfl (by kernel_rfl) (fun _ _ _ h => h) (.inl ⟨by rfl, by (intro w; go_simp <;> with_reducible rfl)⟩) rfl ?_
            (try simp only [Act.put, List.setIfInBounds_toArray, List.set_cons_zero, List.set_cons_succ])
            refine pure_ (i := 5) (N := some 41) #[false, true, true, true, false, true, false, false, false, false, false, false, false, false, false, false] rfl rfl (by kernel_rfl) (fun _ _ _ h => h) (.inl ⟨by rfl, by (intro w; go_simp <;> with_reducible rfl)⟩) rfl ?_
            (try simp only [Act.put, List.setIfInBounds_toArray, List.set_cons_zero, List.set_cons_succ])
            refine pure_ (i := 6) (N := some 42) #[false, true, true, true, false, true, true, false, false, false, false, false, false, false, false, false] rfl rfl (by kernel_rfl) (fun _ _ _ h => h) (.inl ⟨by rfl, by (intro w; go_simp <;> with_reducible rfl)⟩) rfl ?_
            (try simp only [Act.put, List.setIfInBounds_toArray, List.set_cons_zero, List.set_cons_succ])
            refine pure_ (i := 7) (N := some 43) #[false, true, true, true, false, true, true, true, false, false, false, false, false, false, false, false] rfl rfl (by kernel_rfl) (fun _ _ _ h => h) (.inl ⟨by rfl, by (intro w; go_simp <;> with_reducible rfl)⟩) rfl ?_
            (try simp only [Act.put, List.setIfInBounds_toArray, List.set_cons_zero, List.set_cons_succ])
            refine take_ (i := 8) (N := some 44) #[false, true, true, true, false, true, true, true, true, false, false, false, false, false, false, false] rfl rfl (by kernel_rfl) (fun _ _ _ h => h) (.inl ⟨by rfl, by (intro w hSw; unfold LC at hSw; go_simp <;> with_reducible rfl)⟩) hHeld rfl ?_
            (try simp only [Act.put, List.setIfInBounds_toArray, List.set_cons_zero, List.set_cons_succ])
            refine pure_ (i := 11) (N := some 47) #[false, true, true, true, false, true, true, true, true, false, false, true, false, false, false, false] rfl rfl (by kernel_rfl) (fun _ _ _ h => h) (.inl ⟨by rfl, by (intro w; go_simp <;> with_reducible rfl)⟩) rfl ?_
            (try simp only [Act.put, List.setIfInBounds_toArray, List.set_cons_zero, List.set_cons_succ])
            refine pure_ (i := 12) (N := some 48) #[false, true, true, true, false, true, true, true, true, false, false, true, true, false, false, false] rfl rfl (by kernel_rfl) (fun _ _ _ h => h) (.inl ⟨by rfl, by (intro w; go_simp <;> with_reducible rfl)⟩) rfl ?_
            (try simp only [Act.put, List.setIfInBounds_toArray, List.set_cons_zero, List.set_cons_succ])
            refine pure_ (i := 13) (N := some 49) #[false, true, true, true, false, true, true, true, true, false, false, true, true, true, false, false] rfl rfl (by kernel_rfl) (fun _ _ _ h => h) (.inl ⟨by rfl, by (intro w; go_simp <;> with_reducible rfl)⟩) rfl ?_
            (try simp only [Act.put, List.setIfInBounds_toArray, List.set_cons_zero, List.set_cons_succ])
            refine two_ (i := 0) (j := 9) (Ni := some 36) (Nj := some 45) #[true, true, true, true, false, true, true, true, true, false, false, true, true, true, false, false] #[false, true, true, true, false, true, true, true, true, true, false, true, true, true, false, false] rfl rfl rfl rfl (by kernel_rfl) (by simp) (by simp) (fun K hK => ?_) (fun K hK => ?_)
            · skip
              refine Kd.R_lit_step k47 (w0 := wX) wX.heap.size 47 ?hw_1 (N := 36) ?hN_1 (xs := ([] : List S47)) (inner := []) (ok := (fun _ => True)) (okp := fun _ => False) ?hr_1 (Reps.none _ _) (fun _ hk => hk.elim) trivial HBX0.out HBX0.out.size (by simp) ?_
              (case hw_1 => rfl)
              (case hN_1 => rfl)
              (case hr_1 => first | (go_simp; done) | (go_simp; rfl))
              intro v5 w2 ho hb hg hat
              have HR4 := Aside0.mk ho
              have HB3 := Aside0.mk hb
              clear ho hb hg hat
              refine hK.out _ _ (LC_below HLC.out HB3.out) (fun hHeld => ?_)
              clear hK K
              refine norm_ (a' := ?_) ?_ ?_
              rotate_left
              · show Act.put _ (some 36) _ = _
                simp only [Act.put, List.setIfInBounds_toArray, List.set_cons_zero, List.set_cons_succ]
                rfl
              refine two_ (i := 4) (j := 9) (Ni := some 40) (Nj := some 45) #[true, true, true, true, true, true, true, true, true, false, false, true, true, true, false, false] #[true, true, true, true, false, true, true, true, true, true, false, true, true, true, false, false] rfl rfl rfl rfl (by kernel_rfl) (by simp) (by simp) (fun K hK => ?_) (fun K hK => ?_)
              · skip
                refine Kd.R_append_rows_step k47 (w0 := wX) wX.heap.size ?hw_6 (.tmp 36) (.tmp 39) 27 47 (.agg #[.string ⟨#[]⟩, .string ⟨#[]⟩]) 32 ?ho_6 Tryz.underlying27 info47 ?hz_6 (by decide) (by omega) v5 [] (s.take (k)) _ (k) cs (fun _ => True) (fun _ => False) ?hs_6 ?hx_6 HR4.out (Kd.C_below HS1.out HB3.out) (fun _ _ h => h) (fun _ h => h.elim) (fun _ _ => trivial) HB3.out HB3.out.size ?hl_6 ?_
                (case hw_6 => rfl)
                (case ho_6 => rfl)
                (case hz_6 => rfl)
                (case hs_6 => rfl)
                (case hx_6 => rfl)
                (case hl_6 => simp only [List.length_nil]; have := HMS.out; have := HKM.out; omega)
                intro v10 w7 ho hb hg hat
                have HR9 := Aside0.mk ho
                have HB8 := Aside0.mk hb
                clear ho hb hg hat
                refine hK.out _ _ (LC_below HLC.out HB8.out) (fun hHeld => ?_)
                clear hK K
                refine norm_ (a' := ?_) ?_ ?_
                rotate_left
                · show Act.put _ (some 40) _ = _
                  simp only [Act.put, List.setIfInBounds_toArray, List.set_cons_zero, List.set_cons_succ]
                  rfl
                refine one_ (i := 9) (N := some 45) #[true, true, true, true, true, true, true, true, true, true, false, true, true, true, false, false] rfl rfl (by kernel_rfl) (by simp) (fun K hK => ?_)
                refine lit_step (by rfl) (N := 45) rfl (cs := (cells2 y).toArray) (t := 47) ?hr_11 ?h_11
                (case hr_11 => first | (go_simp; done) | (go_simp; rfl))
                case h_11 =>
                  intro b14 hbe w12 hk hbw
                  have HB13 : Aside0 (Below wX.heap.size wX w12) := ⟨below_then HB8.out HB8.out.size hbw⟩
                  have HZ15 := Aside0.mk hk
                  have HR16 := Aside0.mk (Kd.R_below (Kd.R_mono (Kd.R_elderB HR9.out b14 (by rw [hbe]; exact Nat.le_refl _)) (ok' := fun k => k ≠ b14) (fun _ h => h.2)) hbw)
                  clear hk hbw hbe
                  refine hK.out _ _ (LC_below HLC.out HB13.out) (fun hHeld => ?_)
                  clear hK K
                  refine norm_ (a' := ?_) ?_ ?_
                  rotate_left
                  · show Act.put _ (some 45) _ = _
                    simp only [Act.put, List.setIfInBounds_toArray, List.set_cons_zero, List.set_cons_succ]
                    rfl
                  refine one_ (i := 10) (N := some 46) #[true, true, true, true, true, true, true, true, true, true, true, true, true, true, false, false] rfl rfl (by kernel_rfl) (by simp) (fun K hK => ?_)
                  refine Kd.R_append_rows_step k47 (w0 := wX) wX.heap.size ?hw_17 (.tmp 40) (.tmp 45) 27 47 (.agg #[.string ⟨#[]⟩, .string ⟨#[]⟩]) 32 ?ho_17 Tryz.underlying27 info47 ?hz_17 (by decide) (by omega) v10 ([] ++ s.take (k)) [y] _ 1 1 (fun k => k ≠ b14) (fun _ => False) ?hs_17 ?hx_17 HR16.out (lit47 HZ15.out) (fun _ _ h => h) (fun _ h => h.elim) (fun k hk => by have := blk_lt HZ15.out; omega) HB13.out HB13.out.size ?hl_17 ?_
                  (case hw_17 => rfl)
                  (case ho_17 => rfl)
                  (case hz_17 => rfl)
                  (case hs_17 => rfl)
                  (case hx_17 => rfl)
                  (case hl_17 => simp only [List.length_append, List.length_nil, List.length_take]; have := HMS.out; have := HKM.out; omega)
                  intro v21 w18 ho hb hg hat
                  have HZ22 := Aside0.mk (grown_far hg HZ15.out (fun hh => HR16.out.1 _ hh.symm rfl))
                  have HR20 := Aside0.mk ho
                  have HB19 := Aside0.mk hb
                  clear ho hb hg hat
                  refine hK.out _ _ (LC_below HLC.out HB19.out) (fun hHeld => ?_)
                  clear hK K
                  refine norm_ (a' := ?_) ?_ ?_
                  rotate_left
                  · show Act.put _ (some 46) _ = _
                    simp only [Act.put, List.setIfInBounds_toArray, List.set_cons_zero, List.set_cons_succ]
                    rfl
                  refine one_ (i := 14) (N := some 50) #[true, true, true, true, true, true, true, true, true, true, true, true, true, true, true, false] rfl rfl (by kernel_rfl) (by simp) (fun K hK => ?_)
                  refine Kd.R_append_rows_step k47 (w0 := wX) wX.heap.size ?hw_23 (.tmp 46) (.tmp 49) 27 47 (.agg #[.string ⟨#[]⟩, .string ⟨#[]⟩]) 32 ?ho_23 Tryz.underlying27 info47 ?hz_23 (by decide) (by omega) v21 ([] ++ s.take (k) ++ [y]) (s.drop (k)) _ (m - (k)) (cs - (k)) (fun k => k ≠ b14) (fun _ => False) ?hs_23 ?hx_23 HR20.out (Kd.C_below HS2.out HB19.out) (fun _ _ h => h) (fun _ h => h.elim) (fun k hk => by have := blk_lt HZ22.out; omega) HB19.out HB19.out.size ?hl_23 ?_
                  (case hw_23 => rfl)
                  (case ho_23 => rfl)
                  (case hz_23 => rfl)
                  (case hs_23 => rfl)
                  (case hx_23 => rfl)
                  (case hl_23 => simp only [List.length_append, List.length_nil, List.length_take, List.length_singleton]; have := HMS.out; have := HKM.out; omega)
                  intro v27 w24 ho hb hg hat
                  obtain ⟨A9, c9, rfl, hc9⟩ := OwnRow.slice_ ho.2
                  obtain ⟨m9, hm9⟩ : ∃ m9, m9 = ([] ++ s.take k ++ [y] ++ s.drop k).length := ⟨_, rfl⟩
                  rw [← hm9]
                  rw [← hm9] at ho
                  have HM9 := Aside0.mk (show m9 = ([] ++ s.take k ++ [y] ++ s.drop k).length ∧ m9 ≤ c9 from ⟨hm9, by rw [hm9]; exact hc9⟩)
                  clear hm9 hc9
                  have HR26 := Aside0.mk ho
                  have HB25 := Aside0.mk hb
                  clear ho hb hg hat
                  refine hK.out _ _ (LC_below HLC.out HB25.out) (fun hHeld => ?_)
                  clear hK K
                  refine norm_ (a' := ?_) ?_ ?_
                  rotate_left
                  · show Act.put _ (some 50) _ = _
                    simp only [Act.put, List.setIfInBounds_toArray, List.set_cons_zero, List.set_cons_succ]
                    rfl
                  refine pure_ (i := 15) (N := some 4) #[true, true, true, true, true, true, true, true, true, true, true, true, true, true, true, true] rfl rfl (by kernel_rfl) (fun _ _ _ h => h) (.inl ⟨by rfl, by (intro w; go_simp <;> with_reducible rfl)⟩) rfl ?_
                  (try simp only [Act.put, List.setIfInBounds_toArray, List.set_cons_zero, List.set_cons_succ])
                  refine done_ (by kernel_rfl) ?_
                  have HBF := Aside0.mk (HBP.out.trans (below_low (HBX.out.trans (below_low HB25.out HBX.out.size)) HBP.out.size))
                  have HRF : Aside0 (k47.R 47 _ w.heap.size (fun _ => True) (.slice A9 m9 c9) ([] ++ s.take k ++ [y] ++ s.drop k)) := ⟨Kd.R_mono (Kd.R_lower HR26.out (Nat.le_trans HBP.out.size HBX.out.size)) (fun _ _ => trivial)⟩
                  go_wp2
                  all_goals
                    go_roundg (ga - 1)
                    case measure => have h1 := HG.out; omega
                    case rel => exact ⟨i + 1, m9, c9, A9, _, by go_num, rfl, ⟨by have h1 := HG.out; omega⟩, HBF, HRF, HM9, HFP, HFS⟩
              · skip
                refine lit_step (by rfl) (N := 45) rfl (cs := (cells2 y).toArray) (t := 47) ?hr_28 ?h_28
                (case hr_28 => first | (go_simp; done) | (go_simp; rfl))
                case h_28 =>
                  intro b31 hbe w29 hk hbw
                  have HB30 : Aside0 (Below wX.heap.size wX w29) := ⟨below_then HB3.out HB3.out.size hbw⟩
                  have HZ32 := Aside0.mk hk
                  have HR33 := Aside0.mk (Kd.R_below (Kd.R_mono (Kd.R_elderB HR4.out b31 (by rw [hbe]; exact Nat.le_refl _)) (ok' := fun k => k ≠ b31) (fun _ h => h.2)) hbw)
                  clear hk hbw hbe
                  refine hK.out _ _ (LC_below HLC.out HB30.out) (fun hHeld => ?_)
                  clear hK K
                  refine norm_ (a' := ?_) ?_ ?_
                  rotate_left
                  · show Act.put _ (some 45) _ = _
                    simp only [Act.put, List.setIfInBounds_toArray, List.set_cons_zero, List.set_cons_succ]
                    rfl
                  refine one_ (i := 4) (N := some 40) #[true, true, true, true, true, true, true, true, true, true, false, true, true, true, false, false] rfl rfl (by kernel_rfl) (by simp) (fun K hK => ?_)
                  refine Kd.R_append_rows_step k47 (w0 := wX) wX.heap.size ?hw_34 (.tmp 36) (.tmp 39) 27 47 (.agg #[.string ⟨#[]⟩, .string ⟨#[]⟩]) 32 ?ho_34 Tryz.underlying27 info47 ?hz_34 (by decide) (by omega) v5 [] (s.take (k)) _ (k) cs (fun k => k ≠ b31) (fun _ => False) ?hs_34 ?hx_34 HR33.out (Kd.C_below HS1.out HB30.out) (fun _ _ h => h) (fun _ h => h.elim) (fun k hk => by have := blk_lt HZ32.out; omega) HB30.out HB30.out.size ?hl_34 ?_
                  (case hw_34 => rfl)
                  (case ho_34 => rfl)
                  (case hz_34 => rfl)
                  (case hs_34 => rfl)
                  (case hx_34 => rfl)
                  (case hl_34 => simp only [List.length_nil]; have := HMS.out; have := HKM.out; omega)
                  intro v38 w35 ho hb hg hat
                  have HZ39 := Aside0.mk (grown_far hg HZ32.out (fun hh => HR33.out.1 _ hh.symm rfl))
                  have HR37 := Aside0.mk ho
                  have HB36 := Aside0.mk hb
                  clear ho hb hg hat
                  refine hK.out _ _ (LC_below HLC.out HB36.out) (fun hHeld => ?_)
                  clear hK K
                  refine norm_ (a' := ?_) ?_ ?_
                  rotate_left
                  · show Act.put _ (some 40) _ = _
                    simp only [Act.put, List.setIfInBounds_toArray, List.set_cons_zero, List.set_cons_succ]
                    rfl
                  refine one_ (i := 10) (N := some 46) #[true, true, true, true, true, true, true, true, true, true, true, true, true, true, false, false] rfl rfl (by kernel_rfl) (by simp) (fun K hK => ?_)
                  refine Kd.R_append_rows_step k47 (w0 := wX) wX.heap.size ?hw_40 (.tmp 40) (.tmp 45) 27 47 (.agg #[.string ⟨#[]⟩, .string ⟨#[]⟩]) 32 ?ho_40 Tryz.underlying27 info47 ?hz_40 (by decide) (by omega) v38 ([] ++ s.take (k)) [y] _ 1 1 (fun k => k ≠ b31) (fun _ => False) ?hs_40 ?hx_40 HR37.out (lit47 HZ39.out) (fun _ _ h => h) (fun _ h => h.elim) (fun k hk => by have := blk_lt HZ39.out; omega) HB36.out HB36.out.size ?hl_40 ?_
                  (case hw_40 => rfl)
                  (case ho_40 => rfl)
                  (case hz_40 => rfl)
                  (case hs_40 => rfl)
                  (case hx_40 => rfl)
                  (case hl_40 => simp only [List.length_append, List.length_nil, List.length_take]; have := HMS.out; have := HKM.out; omega)
                  intro v44 w41 ho hb hg hat
                  have HZ45 := Aside0.mk (grown_far hg HZ39.out (fun hh => HR37.out.1 _ hh.symm rfl))
                  have HR43 := Aside0.mk ho
                  have HB42 := Aside0.mk hb
                  clear ho hb hg hat
                  refine hK.out _ _ (LC_below HLC.out HB42.out) (fun hHeld => ?_)
                  clear hK K
                  refine norm_ (a' := ?_) ?_ ?_
                  rotate_left
                  · show Act.put _ (some 46) _ = _
                    simp only [Act.put, List.setIfInBounds_toArray, List.set_cons_zero, List.set_cons_succ]
                    rfl
                  refine one_ (i := 14) (N := some 50) #[true, true, true, true, true, true, true, true, true, true, true, true, true, true, true, false] rfl rfl (by kernel_rfl) (by simp) (fun K hK => ?_)
                  refine Kd.R_append_rows_step k47 (w0 := wX) wX.heap.size ?hw_46 (.tmp 46) (.tmp 49) 27 47 (.agg #[.string ⟨#[]⟩, .string ⟨#[]⟩]) 32 ?ho_46 Tryz.underlying27 info47 ?hz_46 (by decide) (by omega) v44 ([] ++ s.take (k) ++ [y]) (s.drop (k)) _ (m - (k)) (cs - (k)) (fun k => k ≠ b31) (fun _ => False) ?hs_46 ?hx_46 HR43.out (Kd.C_below HS2.out HB42.out) (fun _ _ h => h) (fun _ h => h.elim) (fun k hk => by have := blk_lt HZ45.out; omega) HB42.out HB42.out.size ?hl_46 ?_
                  (case hw_46 => rfl)
                  (case ho_46 => rfl)
                  (case hz_46 => rfl)
                  (case hs_46 => rfl)
                  (case hx_46 => rfl)
                  (case hl_46 => simp only [List.length_append, List.length_nil, List.length_take, List.length_singleton]; have := HMS.out; have := HKM.out; omega)
                  intro v50 w47 ho hb hg hat
                  obtain ⟨A9, c9, rfl, hc9⟩ := OwnRow.slice_ ho.2
                  obtain ⟨m9, hm9⟩ : ∃ m9, m9 = ([] ++ s.take k ++ [y] ++ s.drop k).length := ⟨_, rfl⟩
                  rw [← hm9]
                  rw [← hm9] at ho
                  have HM9 := Aside0.mk (show m9 = ([] ++ s.take k ++ [y] ++ s.drop k).length ∧ m9 ≤ c9 from ⟨hm9, by rw [hm9]; exact hc9⟩)
                  clear hm9 hc9
                  have HR49 := Aside0.mk ho
                  have HB48 := Aside0.mk hb
                  clear ho hb hg hat
                  refine hK.out _ _ (LC_below HLC.out HB48.out) (fun hHeld => ?_)
                  clear hK K
                  refine norm_ (a' := ?_) ?_ ?_
                  rotate_left
                  · show Act.put _ (some 50) _ = _
                    simp only [Act.put, List.setIfInBounds_toArray, List.set_cons_zero, List.set_cons_succ]
                    rfl
                  refine pure_ (i := 15) (N := some 4) #[true, true, true, true, true, true, true, true, true, true, true, true, true, true, true, true] rfl rfl (by kernel_rfl) (fun _ _ _ h => h) (.inl ⟨by rfl, by (intro w; go_simp <;> with_reducible rfl)⟩) rfl ?_
                  (try simp only [Act.put, List.setIfInBounds_toArray, List.set_cons_zero, List.set_cons_succ])
                  refine done_ (by kernel_rfl) ?_
                  have HBF := Aside0.mk (HBP.out.trans (below_low (HBX.out.trans (below_low HB48.out HBX.out.size)) HBP.out.size))
                  have HRF : Aside0 (k47.R 47 _ w.heap.size (fun _ => True) (.slice A9 m9 c9) ([] ++ s.take k ++ [y] ++ s.drop k)) := ⟨Kd.R_mono (Kd.R_lower HR49.out (Nat.le_trans HBP.out.size HBX.out.size)) (fun _ _ => trivial)⟩
                  go_wp2
                  all_goals
                    go_roundg (ga - 1)
                    case measure => have h1 := HG.out; omega
                    case rel => exact ⟨i + 1, m9, c9, A9, _, by go_num, rfl, ⟨by have h1 := HG.out; omega⟩, HBF, HRF, HM9, HFP, HFS⟩
            · skip
              refine lit_step (by rfl) (N := 45) rfl (cs := (cells2 y).toArray) (t := 47) ?hr_51 ?h_51
              (case hr_51 => first | (go_simp; done) | (go_simp; rfl))
              case h_51 =>
                intro b54 hbe w52 hk hbw
                have HB53 : Aside0 (Below wX.heap.size wX w52) := ⟨below_then HBX0.out HBX0.out.size hbw⟩
                have HZ55 := Aside0.mk hk
                clear hk hbw hbe
                refine hK.out _ _ (LC_below HLC.out HB53.out) (fun hHeld => ?_)
                clear hK K
                refine norm_ (a' := ?_) ?_ ?_
                rotate_left
                · show Act.put _ (some 45) _ = _
                  simp only [Act.put, List.setIfInBounds_toArray, List.set_cons_zero, List.set_cons_succ]
                  rfl
                refine one_ (i := 0) (N := some 36) #[true, true, true, true, false, true, true, true, true, true, false, true, true, true, false, false] rfl rfl (by kernel_rfl) (by simp) (fun K hK => ?_)
                refine Kd.R_lit_step k47 (w0 := wX) wX.heap.size 47 ?hw_56 (N := 36) ?hN_56 (xs := ([] : List S47)) (inner := []) (ok := (fun k => k ≠ b54)) (okp := fun _ => False) ?hr_56 (Reps.none _ _) (fun _ hk => hk.elim) (by have h_ := blk_lt HZ55.out; show _ ≠ _; omega) HB53.out HB53.out.size (by simp) ?_
                (case hw_56 => rfl)
                (case hN_56 => rfl)
                (case hr_56 => first | (go_simp; done) | (go_simp; rfl))
                intro v60 w57 ho hb hg hat
                have HZ61 := Aside0.mk (grown_far hg HZ55.out (by simp))
                have HR59 := Aside0.mk ho
                have HB58 := Aside0.mk hb
                clear ho hb hg hat
                refine hK.out _ _ (LC_below HLC.out HB58.out) (fun hHeld => ?_)
                clear hK K
                refine norm_ (a' := ?_) ?_ ?_
                rotate_left
                · show Act.put _ (some 36) _ = _
                  simp only [Act.put, List.setIfInBounds_toArray, List.set_cons_zero, List.set_cons_succ]
                  rfl
                refine one_ (i := 4) (N := some 40) #[true, true, true, true, true, true, true, true, true, true, false, true, true, true, false, false] rfl rfl (by kernel_rfl) (by simp) (fun K hK => ?_)
                refine Kd.R_append_rows_step k47 (w0 := wX) wX.heap.size ?hw_62 (.tmp 36) (.tmp 39) 27 47 (.agg #[.string ⟨#[]⟩, .string ⟨#[]⟩]) 32 ?ho_62 Tryz.underlying27 info47 ?hz_62 (by decide) (by omega) v60 [] (s.take (k)) _ (k) cs (fun k => k ≠ b54) (fun _ => False) ?hs_62 ?hx_62 HR59.out (Kd.C_below HS1.out HB58.out) (fun _ _ h => h) (fun _ h => h.elim) (fun k hk => by have := blk_lt HZ61.out; omega) HB58.out HB58.out.size ?hl_62 ?_
                (case hw_62 => rfl)
                (case ho_62 => rfl)
                (case hz_62 => rfl)
                (case hs_62 => rfl)
                (case hx_62 => rfl)
                (case hl_62 => simp only [List.length_nil]; have := HMS.out; have := HKM.out; omega)
                intro v66 w63 ho hb hg hat
                have HZ67 := Aside0.mk (grown_far hg HZ61.out (fun hh => HR59.out.1 _ hh.symm rfl))
                have HR65 := Aside0.mk ho
                have HB64 := Aside0.mk hb
                clear ho hb hg hat
                refine hK.out _ _ (LC_below HLC.out HB64.out) (fun hHeld => ?_)
                clear hK K
                refine norm_ (a' := ?_) ?_ ?_
                rotate_left
                · show Act.put _ (some 40) _ = _
                  simp only [Act.put, List.setIfInBounds_toArray, List.set_cons_zero, List.set_cons_succ]
                  rfl
                refine one_ (i := 10) (N := some 46) #[true, true, true, true, true, true, true, true, true, true, true, true, true, true, false, false] rfl rfl (by kernel_rfl) (by simp) (fun K hK => ?_)
                refine Kd.R_append_rows_step k47 (w0 := wX) wX.heap.size ?hw_68 (.tmp 40) (.tmp 45) 27 47 (.agg #[.string ⟨#[]⟩, .string ⟨#[]⟩]) 32 ?ho_68 Tryz.underlying27 info47 ?hz_68 (by decide) (by omega) v66 ([] ++ s.take (k)) [y] _ 1 1 (fun k => k ≠ b54) (fun _ => False) ?hs_68 ?hx_68 HR65.out (lit47 HZ67.out) (fun _ _ h => h) (fun _ h => h.elim) (fun k hk => by have := blk_lt HZ67.out; omega) HB64.out HB64.out.size ?hl_68 ?_
                (case hw_68 => rfl)
                (case ho_68 => rfl)
                (case hz_68 => rfl)
                (case hs_68 => rfl)
                (case hx_68 => rfl)
                (case hl_68 => simp only [List.length_append, List.length_nil, List.length_take]; have := HMS.out; have := HKM.out; omega)
                intro v72 w69 ho hb hg hat
                have HZ73 := Aside0.mk (grown_far hg HZ67.out (fun hh => HR65.out.1 _ hh.symm rfl))
                have HR71 := Aside0.mk ho
                have HB70 := Aside0.mk hb
                clear ho hb hg hat
                refine hK.out _ _ (LC_below HLC.out HB70.out) (fun hHeld => ?_)
                clear hK K
                refine norm_ (a' := ?_) ?_ ?_
                rotate_left
                · show Act.put _ (some 46) _ = _
                  simp only [Act.put, List.setIfInBounds_toArray, List.set_cons_zero, List.set_cons_succ]
                  rfl
                refine one_ (i := 14) (N := some 50) #[true, true, true, true, true, true, true, true, true, true, true, true, true, true, true, false] rfl rfl (by kernel_rfl) (by simp) (fun K hK => ?_)
                refine Kd.R_append_rows_step k47 (w0 := wX) wX.heap.size ?hw_74 (.tmp 46) (.tmp 49) 27 47 (.agg #[.string ⟨#[]⟩, .string ⟨#[]⟩]) 32 ?ho_74 Tryz.underlying27 info47 ?hz_74 (by decide) (by omega) v72 ([] ++ s.take (k) ++ [y]) (s.drop (k)) _ (m - (k)) (cs - (k)) (fun k => k ≠ b54) (fun _ => False) ?hs_74 ?hx_74 HR71.out (Kd.C_below HS2.out HB70.out) (fun _ _ h => h) (fun _ h => h.elim) (fun k hk => by have := blk_lt HZ73.out; omega) HB70.out HB70.out.size ?hl_74 ?_
                (case hw_74 => rfl)
                (case ho_74 => rfl)
                (case hz_74 => rfl)
                (case hs_74 => rfl)
                (case hx_74 => rfl)
                (case hl_74 => simp only [List.length_append, List.length_nil, List.length_take, List.length_singleton]; have := HMS.out; have := HKM.out; omega)
                intro v78 w75 ho hb hg hat
                obtain ⟨A9, c9, rfl, hc9⟩ := OwnRow.slice_ ho.2
                obtain ⟨m9, hm9⟩ : ∃ m9, m9 = ([] ++ s.take k ++ [y] ++ s.drop k).length := ⟨_, rfl⟩
                rw [← hm9]
                rw [← hm9] at ho
                have HM9 := Aside0.mk (show m9 = ([] ++ s.take k ++ [y] ++ s.drop k).length ∧ m9 ≤ c9 from ⟨hm9, by rw [hm9]; exact hc9⟩)
                clear hm9 hc9
                have HR77 := Aside0.mk ho
                have HB76 := Aside0.mk hb
                clear ho hb hg hat
                refine hK.out _ _ (LC_below HLC.out HB76.out) (fun hHeld => ?_)
                clear hK K
                refine norm_ (a' := ?_) ?_ ?_
                rotate_left
                · show Act.put _ (some 50) _ = _
                  simp only [Act.put, List.setIfInBounds_toArray, List.set_cons_zero, List.set_cons_succ]
                  rfl
                refine pure_ (i := 15) (N := some 4) #[true, true, true, true, true, true, true, true, true, true, true, true, true, true, true, true] rfl rfl (by kernel_rfl) (fun _ _ _ h => h) (.inl ⟨by rfl, by (intro w; go_simp <;> with_reducible rfl)⟩) rfl ?_
                (try simp only [Act.put, List.setIfInBounds_toArray, List.set_cons_zero, List.set_cons_succ])
                refine done_ (by kernel_rfl) ?_
                have HBF := Aside0.mk (HBP.out.trans (below_low (HBX.out.trans (below_low HB76.out HBX.out.size)) HBP.out.size))
                have HRF : Aside0 (k47.R 47 _ w.heap.size (fun _ => True) (.slice A9 m9 c9) ([] ++ s.take k ++ [y] ++ s.drop k)) := ⟨Kd.R_mono (Kd.R_lower HR77.out (Nat.le_trans HBP.out.size HBX.out.size)) (fun _ _ => trivial)⟩
                go_wp2
                all_goals
                  go_roundg (ga - 1)
                  case measure => have h1 := HG.out; omega
                  case rel => exact ⟨i + 1, m9, c9, A9, _, by go_num, rfl, ⟨by have h1 := HG.out; omega⟩, HBF, HRF, HM9, HFP, HFS⟩
        · have HK0 : Aside0 (k = 0) := ⟨by omega⟩
          have q6 : decide ((0 : Int) < (k : Int)) = false := decide_eq_false (by omega)
          have q7 : decide (0 < k) = false := decide_eq_false hk
          clear c0 c1 hil
          go_upto_region 8 with fail
          go_quiet (fail)
          go_upto_region 10 with fail
          obtain ⟨wX, hwX⟩ : ∃ wX : World, wX = wr.drewN nq := ⟨_, rfl⟩
          have HBX : Aside0 (Below wP.heap.size wP wX) := ⟨by rw [hwX]; exact pw_below_drewN HBK.out _⟩
          have HLC : Aside0 (LC ad i y wX) := ⟨by rw [hwX]; exact HCELL2.out⟩
          rw [← hwX]
          clear hwX
          have HKM : Aside0 (k ≤ m) := ⟨HGK.out.2⟩
          have HS1 : Aside0 (k47.C wX (As) (k) (s.take (k))) := ⟨by
            have h := Kd.C_take (Kd.C_below HCP.out HBX.out) (m := k) (by have := HKM.out; have := HM.out.1; omega)
            rw [List.length_take, Nat.min_eq_left (by have := HKM.out; have := HM.out.1; omega)] at h
            exact h⟩
          have HS2 : Aside0 (k47.C wX (if cs = (k) then (As) else (As).map (·.add ((k) * 2))) (m - (k)) (s.drop (k))) := ⟨by
            have h := Kd.C_drop (Kd.C_below HCP.out HBX.out) (m := k) (c := cs) (by have := HKM.out; have := HM.out.1; omega) (by have := HM.out; omega)
            rw [List.length_drop, ← HM.out.1] at h
            exact h⟩
          have HFP : Aside0 (([] ++ s.take k ++ [y] ++ s.drop k).Perm (l.take (i + 1))) := ⟨by
            rw [HTK3.out, List.nil_append]
            exact (ins_perm s y k).trans (HP.out.append_right _)⟩
          have HFS : Aside0 (Srt ([] ++ s.take k ++ [y] ++ s.drop k)) := ⟨by
            rw [List.nil_append]
            refine ins_sorted HSO.out (by have := HGK.out.2; have := HM.out.1; omega) (fun z hz => ?_) (fun p hp hpk => ?_)
            · obtain ⟨p, hp, rfl⟩ := List.getElem_of_mem hz
              rw [List.length_drop] at hp
              rw [List.getElem_drop]
              exact HGE.out (k + p) (by omega) (by omega)
            · skip
              have := HK0.out; omega⟩
          have p1 : (0 : Int) ≤ ((k : Nat) : Int) := by omega
          have p2 : ((k : Nat) : Int) ≤ (m : Int) := by have := HKM.out; omega
          have p3 : (m : Int) ≤ (cs : Int) := by have := HM.out.2; omega
          have p4 : ((k : Nat) : Int) ≤ (cs : Int) := by omega
          have p5 : (i : Int) < (n : Int) := hi
          have hLt : (i + 1 : Nat) ≤ n := by omega
          refine start_ (S := LC ad i y) (ds := []) #[false, false, false, false, false, false, false, false, false, false, false, false, false, false, false, false] (by kernel_rfl) rfl rfl HLC.out (fun hHeld => ?_)
          have HBX0 : Aside0 (Below wX.heap.size wX wX.drew) := ⟨below_drew (Below.refl _ _)⟩
          refine pure_ (i := 1) (N := some 37) #[false, true, false, false, false, false, false, false, false, false, false, false, false, false, false, false] rfl rfl (by kernel_rfl) (fun _ _ _ h => h) (.inl ⟨by rfl, by (intro w; go_simp <;> with_reducible rfl)⟩) rfl ?_
          (try simp only [Act.put, List.setIfInBounds_toArray, List.set_cons_zero, List.set_cons_succ])
          refine pure_ (i := 2) (N := some 38) #[false, true, true, false, false, false, false, false, false, false, false, false, false, false, false, false] rfl rfl (by kernel_rfl) (fun _ _ _ h => h) (.inl ⟨by rfl, by (intro w; go_simp <;> with_reducible rfl)⟩) rfl ?_
          (try simp only [Act.put, List.setIfInBounds_toArray, List.set_cons_zero, List.set_cons_succ])
          refine pure_ (i := 3) (N := some 39) #[false, true, true, true, false, false, false, false, false, false, false, false, false, false, false, false] rfl rfl (by kernel_rfl) (fun _ _ _ h => h) (.inl ⟨by rfl, by (intro w; go_simp <;> with_reducible rfl)⟩) rfl ?_
          (try simp only [Act.put, List.setIfInBounds_toArray, List.set_cons_zero, List.set_cons_succ])
          refine pure_ (i := 5) (N := some 41) #[false, true, true, true, false, true, false, false, false, false, false, false, false, false, false, false] rfl rfl (by kernel_rfl) (fun _ _ _ h => h) (.inl ⟨by rfl, by (intro w; go_simp <;> with_reducible rfl)⟩) rfl ?_
          (try simp only [Act.put, List.setIfInBounds_toArray, List.set_cons_zero, List.set_cons_succ])
          refine pure_ (i := 6) (N := some 42) #[false, true, true, true, false, true, true, false, false, false, false, false, false, false, false, false] rfl rfl (by kernel_rfl) (fun _ _ _ h => h) (.inl ⟨by rfl, by (intro w; go_simp <;> with_reducible rfl)⟩) rfl ?_
          (try simp only [Act.put, List.setIfInBounds_toArray, List.set_cons_zero, List.set_cons_succ])
          refine pure_ (i := 7) (N := some 43) #[false, true, true, true, false, true, true, true, false, false, false, false, false, false, false, false] rfl rfl (by kernel_rfl) (fun _ _ _ h => h) (.inl ⟨by rfl, by (intro w; go_simp <;> with_reducible rfl)⟩) rfl ?_
          (try simp only [Act.put, List.setIfInBounds_toArray, List.set_cons_zero, List.set_cons_succ])
          refine take_ (i := 8) (N := some 44) #[false, true, true, true, false, true, true, true, true, false, false, false, false, false, false, false] rfl rfl (by kernel_rfl) (fun _ _ _ h => h) (.inl ⟨by rfl, by (intro w hSw; unfold LC at hSw; go_simp <;> with_reducible rfl)⟩) hHeld rfl ?_
          (try simp only [Act.put, List.setIfInBounds_toArray, List.set_cons_zero, List.set_cons_succ])
          refine pure_ (i := 11) (N := some 47) #[false, true, true, true, false, true, true, true, true, false, false, true, false, false, false, false] rfl rfl (by kernel_rfl) (fun _ _ _ h => h) (.inl ⟨by rfl, by (intro w; go_simp <;> with_reducible rfl)⟩) rfl ?_
          (try simp only [Act.put, List.setIfInBounds_toArray, List.set_cons_zero, List.set_cons_succ])
          refine pure_ (i := 12) (N := some 48) #[false, true, true, true, false, true, true, true, true, false, false, true, true, false, false, false] rfl rfl (by kernel_rfl) (fun _ _ _ h => h) (.inl ⟨by rfl, by (intro w; go_simp <;> with_reducible rfl)⟩) rfl ?_
          (try simp only [Act.put, List.setIfInBounds_toArray, List.set_cons_zero, List.set_cons_succ])
          refine pure_ (i := 13) (N := some 49) #[false, true, true, true, false, true, true, true, true, false, false, true, true, true, false, false] rfl rfl (by kernel_rfl) (fun _ _ _ h => h) (.inl ⟨by rfl, by (intro w; go_simp <;> with_reducible rfl)⟩) rfl ?_
          (try simp only [Act.put, List.setIfInBounds_toArray, List.set_cons_zero, List.set_cons_succ])
          refine two_ (i := 0) (j := 9) (Ni := some 36) (Nj := some 45) #[true, true, true, true, false, true, true, true, true, false, false, true, true, true, false, false] #[false, true, true, true, false, true, true, true, true, true, false, true, true, true, false, false] rfl rfl rfl rfl (by kernel_rfl) (by simp) (by simp) (fun K hK => ?_) (fun K hK => ?_)
          · skip
            refine Kd.R_lit_step k47 (w0 := wX) wX.heap.size 47 ?hw_79 (N := 36) ?hN_79 (xs := ([] : List S47)) (inner := []) (ok := (fun _ => True)) (okp := fun _ => False) ?hr_79 (Reps.none _ _) (fun _ hk => hk.elim) trivial HBX0.out HBX0.out.size (by simp) ?_
            (case hw_79 => rfl)
            (case hN_79 => rfl)
            (case hr_79 => first | (go_simp; done) | (go_simp; rfl))
            intro v83 w80 ho hb hg hat
            have HR82 := Aside0.mk ho
            have HB81 := Aside0.mk hb
            clear ho hb hg hat
            refine hK.out _ _ (LC_below HLC.out HB81.out) (fun hHeld => ?_)
            clear hK K
            refine norm_ (a' := ?_) ?_ ?_
            rotate_left
            · show Act.put _ (some 36) _ = _
              simp only [Act.put, List.setIfInBounds_toArray, List.set_cons_zero, List.set_cons_succ]
              rfl
            refine two_ (i := 4) (j := 9) (Ni := some 40) (Nj := some 45) #[true, true, true, true, true, true, true, true, true, false, false, true, true, true, false, false] #[true, true, true, true, false, true, true, true, true, true, false, true, true, true, false, false] rfl rfl rfl rfl (by kernel_rfl) (by simp) (by simp) (fun K hK => ?_) (fun K hK => ?_)
            · skip
              refine Kd.R_append_rows_step k47 (w0 := wX) wX.heap.size ?hw_84 (.tmp 36) (.tmp 39) 27 47 (.agg #[.string ⟨#[]⟩, .string ⟨#[]⟩]) 32 ?ho_84 Tryz.underlying27 info47 ?hz_84 (by decide) (by omega) v83 [] (s.take (k)) _ (k) cs (fun _ => True) (fun _ => False) ?hs_84 ?hx_84 HR82.out (Kd.C_below HS1.out HB81.out) (fun _ _ h => h) (fun _ h => h.elim) (fun _ _ => trivial) HB81.out HB81.out.size ?hl_84 ?_
              (case hw_84 => rfl)
              (case ho_84 => rfl)
              (case hz_84 => rfl)
              (case hs_84 => rfl)
              (case hx_84 => rfl)
              (case hl_84 => simp only [List.length_nil]; have := HMS.out; have := HKM.out; omega)
              intro v88 w85 ho hb hg hat
              have HR87 := Aside0.mk ho
              have HB86 := Aside0.mk hb
              clear ho hb hg hat
              refine hK.out _ _ (LC_below HLC.out HB86.out) (fun hHeld => ?_)
              clear hK K
              refine norm_ (a' := ?_) ?_ ?_
              rotate_left
              · show Act.put _ (some 40) _ = _
                simp only [Act.put, List.setIfInBounds_toArray, List.set_cons_zero, List.set_cons_succ]
                rfl
              refine one_ (i := 9) (N := some 45) #[true, true, true, true, true, true, true, true, true, true, false, true, true, true, false, false] rfl rfl (by kernel_rfl) (by simp) (fun K hK => ?_)
              refine lit_step (by rfl) (N := 45) rfl (cs := (cells2 y).toArray) (t := 47) ?hr_89 ?h_89
              (case hr_89 => first | (go_simp; done) | (go_simp; rfl))
              case h_89 =>
                intro b92 hbe w90 hk hbw
                have HB91 : Aside0 (Below wX.heap.size wX w90) := ⟨below_then HB86.out HB86.out.size hbw⟩
                have HZ93 := Aside0.mk hk
                have HR94 := Aside0.mk (Kd.R_below (Kd.R_mono (Kd.R_elderB HR87.out b92 (by rw [hbe]; exact Nat.le_refl _)) (ok' := fun k => k ≠ b92) (fun _ h => h.2)) hbw)
                clear hk hbw hbe
                refine hK.out _ _ (LC_below HLC.out HB91.out) (fun hHeld => ?_)
                clear hK K
                refine norm_ (a' := ?_) ?_ ?_
                rotate_left
                · show Act.put _ (some 45) _ = _
                  simp only [Act.put, List.setIfInBounds_toArray, List.set_cons_zero, List.set_cons_succ]
                  rfl
                refine one_ (i := 10) (N := some 46) #[true, true, true, true, true, true, true, true, true, true, true, true, true, true, false, false] rfl rfl (by kernel_rfl) (by simp) (fun K hK => ?_)
                refine Kd.R_append_rows_step k47 (w0 := wX) wX.heap.size ?hw_95 (.tmp 40) (.tmp 45) 27 47 (.agg #[.string ⟨#[]⟩, .string ⟨#[]⟩]) 32 ?ho_95 Tryz.underlying27 info47 ?hz_95 (by decide) (by omega) v88 ([] ++ s.take (k)) [y] _ 1 1 (fun k => k ≠ b92) (fun _ => False) ?hs_95 ?hx_95 HR94.out (lit47 HZ93.out) (fun _ _ h => h) (fun _ h => h.elim) (fun k hk => by have := blk_lt HZ93.out; omega) HB91.out HB91.out.size ?hl_95 ?_
                (case hw_95 => rfl)
                (case ho_95 => rfl)
                (case hz_95 => rfl)
                (case hs_95 => rfl)
                (case hx_95 => rfl)
                (case hl_95 => simp only [List.length_append, List.length_nil, List.length_take]; have := HMS.out; have := HKM.out; omega)
                intro v99 w96 ho hb hg hat
                have HZ100 := Aside0.mk (grown_far hg HZ93.out (fun hh => HR94.out.1 _ hh.symm rfl))
                have HR98 := Aside0.mk ho
                have HB97 := Aside0.mk hb
                clear ho hb hg hat
                refine hK.out _ _ (LC_below HLC.out HB97.out) (fun hHeld => ?_)
                clear hK K
                refine norm_ (a' := ?_) ?_ ?_
                rotate_left
                · show Act.put _ (some 46) _ = _
                  simp only [Act.put, List.setIfInBounds_toArray, List.set_cons_zero, List.set_cons_succ]
                  rfl
                refine one_ (i := 14) (N := some 50) #[true, true, true, true, true, true, true, true, true, true, true, true, true, true, true, false] rfl rfl (by kernel_rfl) (by simp) (fun K hK => ?_)
                refine Kd.R_append_rows_step k47 (w0 := wX) wX.heap.size ?hw_101 (.tmp 46) (.tmp 49) 27 47 (.agg #[.string ⟨#[]⟩, .string ⟨#[]⟩]) 32 ?ho_101 Tryz.underlying27 info47 ?hz_101 (by decide) (by omega) v99 ([] ++ s.take (k) ++ [y]) (s.drop (k)) _ (m - (k)) (cs - (k)) (fun k => k ≠ b92) (fun _ => False) ?hs_101 ?hx_101 HR98.out (Kd.C_below HS2.out HB97.out) (fun _ _ h => h) (fun _ h => h.elim) (fun k hk => by have := blk_lt HZ100.out; omega) HB97.out HB97.out.size ?hl_101 ?_
                (case hw_101 => rfl)
                (case ho_101 => rfl)
                (case hz_101 => rfl)
                (case hs_101 => rfl)
                (case hx_101 => rfl)
                (case hl_101 => simp only [List.length_append, List.length_nil, List.length_take, List.length_singleton]; have := HMS.out; have := HKM.out; omega)
                intro v105 w102 ho hb hg hat
                obtain ⟨A9, c9, rfl, hc9⟩ := OwnRow.slice_ ho.2
                obtain ⟨m9, hm9⟩ : ∃ m9, m9 = ([] ++ s.take k ++ [y] ++ s.drop k).length := ⟨_, rfl⟩
                rw [← hm9]
                rw [← hm9] at ho
                have HM9 := Aside0.mk (show m9 = ([] ++ s.take k ++ [y] ++ s.drop k).length ∧ m9 ≤ c9 from ⟨hm9, by rw [hm9]; exact hc9⟩)
                clear hm9 hc9
                have HR104 := Aside0.mk ho
                have HB103 := Aside0.mk hb
                clear ho hb hg hat
                refine hK.out _ _ (LC_below HLC.out HB103.out) (fun hHeld => ?_)
                clear hK K
                refine norm_ (a' := ?_) ?_ ?_
                rotate_left
                · show Act.put _ (some 50) _ = _
                  simp only [Act.put, List.setIfInBounds_toArray, List.set_cons_zero, List.set_cons_succ]
                  rfl
                refine pure_ (i := 15) (N := some 4) #[true, true, true, true, true, true, true, true, true, true, true, true, true, true, true, true] rfl rfl (by kernel_rfl) (fun _ _ _ h => h) (.inl ⟨by rfl, by (intro w; go_simp <;> with_reducible rfl)⟩) rfl ?_
                (try simp only [Act.put, List.setIfInBounds_toArray, List.set_cons_zero, List.set_cons_succ])
                refine done_ (by kernel_rfl) ?_
                have HBF := Aside0.mk (HBP.out.trans (below_low (HBX.out.trans (below_low HB103.out HBX.out.size)) HBP.out.size))
                have HRF : Aside0 (k47.R 47 _ w.heap.size (fun _ => True) (.slice A9 m9 c9) ([] ++ s.take k ++ [y] ++ s.drop k)) := ⟨Kd.R_mono (Kd.R_lower HR104.out (Nat.le_trans HBP.out.size HBX.out.size)) (fun _ _ => trivial)⟩
                go_wp2
                all_goals
                  go_roundg (ga - 1)
                  case measure => have h1 := HG.out; omega
                  case rel => exact ⟨i + 1, m9, c9, A9, _, by go_num, rfl, ⟨by have h1 := HG.out; omega⟩, HBF, HRF, HM9, HFP, HFS⟩
            · skip
              refine lit_step (by rfl) (N := 45) rfl (cs := (cells2 y).toArray) (t := 47) ?hr_106 ?h_106
              (case hr_106 => first | (go_simp; done) | (go_simp; rfl))
              case h_106 =>
                intro b109 hbe w107 hk hbw
                have HB108 : Aside0 (Below wX.heap.size wX w107) := ⟨below_then HB81.out HB81.out.size hbw⟩
                have HZ110 := Aside0.mk hk
                have HR111 := Aside0.mk (Kd.R_below (Kd.R_mono (Kd.R_elderB HR82.out b109 (by rw [hbe]; exact Nat.le_refl _)) (ok' := fun k => k ≠ b109) (fun _ h => h.2)) hbw)
                clear hk hbw hbe
                refine hK.out _ _ (LC_below HLC.out HB108.out) (fun hHeld => ?_)
                clear hK K
                refine norm_ (a' := ?_) ?_ ?_
                rotate_left
                · show Act.put _ (some 45) _ = _
                  simp only [Act.put, List.setIfInBounds_toArray, List.set_cons_zero, List.set_cons_succ]
                  rfl
                refine one_ (i := 4) (N := some 40) #[true, true, true, true, true, true, true, true, true, true, false, true, true, true, false, false] rfl rfl (by kernel_rfl) (by simp) (fun K hK => ?_)
                refine Kd.R_append_rows_step k47 (w0 := wX) wX.heap.size ?hw_112 (.tmp 36) (.tmp 39) 27 47 (.agg #[.string ⟨#[]⟩, .string ⟨#[]⟩]) 32 ?ho_112 Tryz.underlying27 info47 ?hz_112 (by decide) (by omega) v83 [] (s.take (k)) _ (k) cs (fun k => k ≠ b109) (fun _ => False) ?hs_112 ?hx_112 HR111.out (Kd.C_below HS1.out HB108.out) (fun _ _ h => h) (fun _ h => h.elim) (fun k hk => by have := blk_lt HZ110.out; omega) HB108.out HB108.out.size ?hl_112 ?_
                (case hw_112 => rfl)
                (case ho_112 => rfl)
                (case hz_112 => rfl)
                (case hs_112 => rfl)
                (case hx_112 => rfl)
                (case hl_112 => simp only [List.length_nil]; have := HMS.out; have := HKM.out; omega)
                intro v116 w113 ho hb hg hat
                have HZ117 := Aside0.mk (grown_far hg HZ110.out (fun hh => HR111.out.1 _ hh.symm rfl))
                have HR115 := Aside0.mk ho
                have HB114 := Aside0.mk hb
                clear ho hb hg hat
                refine hK.out _ _ (LC_below HLC.out HB114.out) (fun hHeld => ?_)
                clear hK K
                refine norm_ (a' := ?_) ?_ ?_
                rotate_left
                · show Act.put _ (some 40) _ = _
                  simp only [Act.put, List.setIfInBounds_toArray, List.set_cons_zero, List.set_cons_succ]
                  rfl
                refine one_ (i := 10) (N := some 46) #[true, true, true, true, true, true, true, true, true, true, true, true, true, true, false, false] rfl rfl (by kernel_rfl) (by simp) (fun K hK => ?_)
                refine Kd.R_append_rows_step k47 (w0 := wX) wX.heap.size ?hw_118 (.tmp 40) (.tmp 45) 27 47 (.agg #[.string ⟨#[]⟩, .string ⟨#[]⟩]) 32 ?ho_118 Tryz.underlying27 info47 ?hz_118 (by decide) (by omega) v116 ([] ++ s.take (k)) [y] _ 1 1 (fun k => k ≠ b109) (fun _ => False) ?hs_118 ?hx_118 HR115.out (lit47 HZ117.out) (fun _ _ h => h) (fun _ h => h.elim) (fun k hk => by have := blk_lt HZ117.out; omega) HB114.out HB114.out.size ?hl_118 ?_
                (case hw_118 => rfl)
                (case ho_118 => rfl)
                (case hz_118 => rfl)
                (case hs_118 => rfl)
                (case hx_118 => rfl)
                (case hl_118 => simp only [List.length_append, List.length_nil, List.length_take]; have := HMS.out; have := HKM.out; omega)
                intro v122 w119 ho hb hg hat
                have HZ123 := Aside0.mk (grown_far hg HZ117.out (fun hh => HR115.out.1 _ hh.symm rfl))
                have HR121 := Aside0.mk ho
                have HB120 := Aside0.mk hb
                clear ho hb hg hat
                refine hK.out _ _ (LC_below HLC.out HB120.out) (fun hHeld => ?_)
                clear hK K
                refine norm_ (a' := ?_) ?_ ?_
                rotate_left
                · show Act.put _ (some 46) _ = _
                  simp only [Act.put, List.setIfInBounds_toArray, List.set_cons_zero, List.set_cons_succ]
                  rfl
                refine one_ (i := 14) (N := some 50) #[true, true, true, true, true, true, true, true, true, true, true, true, true, true, true, false] rfl rfl (by kernel_rfl) (by simp) (fun K hK => ?_)
                refine Kd.R_append_rows_step k47 (w0 := wX) wX.heap.size ?hw_124 (.tmp 46) (.tmp 49) 27 47 (.agg #[.string ⟨#[]⟩, .string ⟨#[]⟩]) 32 ?ho_124 Tryz.underlying27 info47 ?hz_124 (by decide) (by omega) v122 ([] ++ s.take (k) ++ [y]) (s.drop (k)) _ (m - (k)) (cs - (k)) (fun k => k ≠ b109) (fun _ => False) ?hs_124 ?hx_124 HR121.out (Kd.C_below HS2.out HB120.out) (fun _ _ h => h) (fun _ h => h.elim) (fun k hk => by have := blk_lt HZ123.out; omega) HB120.out HB120.out.size ?hl_124 ?_
                (case hw_124 => rfl)
                (case ho_124 => rfl)
                (case hz_124 => rfl)
                (case hs_124 => rfl)
                (case hx_124 => rfl)
                (case hl_124 => simp only [List.length_append, List.length_nil, List.length_take, List.length_singleton]; have := HMS.out; have := HKM.out; omega)
                intro v128 w125 ho hb hg hat
                obtain ⟨A9, c9, rfl, hc9⟩ := OwnRow.slice_ ho.2
                obtain ⟨m9, hm9⟩ : ∃ m9, m9 = ([] ++ s.take k ++ [y] ++ s.drop k).length := ⟨_, rfl⟩
                rw [← hm9]
                rw [← hm9] at ho
                have HM9 := Aside0.mk (show m9 = ([] ++ s.take k ++ [y] ++ s.drop k).length ∧ m9 ≤ c9 from ⟨hm9, by rw [hm9]; exact hc9⟩)
                clear hm9 hc9
                have HR127 := Aside0.mk ho
                have HB126 := Aside0.mk hb
                clear ho hb hg hat
                refine hK.out _ _ (LC_below HLC.out HB126.out) (fun hHeld => ?_)
                clear hK K
                refine norm_ (a' := ?_) ?_ ?_
                rotate_left
                · show Act.put _ (some 50) _ = _
                  simp only [Act.put, List.setIfInBounds_toArray, List.set_cons_zero, List.set_cons_succ]
                  rfl
                refine pure_ (i := 15) (N := some 4) #[true, true, true, true, true, true, true, true, true, true, true, true, true, true, true, true] rfl rfl (by kernel_rfl) (fun _ _ _ h => h) (.inl ⟨by rfl, by (intro w; go_simp <;> with_reducible rfl)⟩) rfl ?_
                (try simp only [Act.put, List.setIfInBounds_toArray, List.set_cons_zero, List.set_cons_succ])
                refine done_ (by kernel_rfl) ?_
                have HBF := Aside0.mk (HBP.out.trans (below_low (HBX.out.trans (below_low HB126.out HBX.out.size)) HBP.out.size))
                have HRF : Aside0 (k47.R 47 _ w.heap.size (fun _ => True) (.slice A9 m9 c9) ([] ++ s.take k ++ [y] ++ s.drop k)) := ⟨Kd.R_mono (Kd.R_lower HR127.out (Nat.le_trans HBP.out.size HBX.out.size)) (fun _ _ => trivial)⟩
                go_wp2
                all_goals
                  go_roundg (ga - 1)
                  case measure => have h1 := HG.out; omega
                  case rel => exact ⟨i + 1, m9, c9, A9, _, by go_num, rfl, ⟨by have h1 := HG.out; omega⟩, HBF, HRF, HM9, HFP, HFS⟩
          · skip
            refine lit_step (by rfl) (N := 45) rfl (cs := (cells2 y).toArray) (t := 47) ?hr_129 ?h_129
            (case hr_129 => first | (go_simp; done) | (go_simp; rfl))
            case h_129 =>
              intro b132 hbe w130 hk hbw
              have HB131 : Aside0 (Below wX.heap.size wX w130) := ⟨below_then HBX0.out HBX0.out.size hbw⟩
              have HZ133 := Aside0.mk hk
              clear hk hbw hbe
              refine hK.out _ _ (LC_below HLC.out HB131.out) (fun hHeld => ?_)
              clear hK K
              refine norm_ (a' := ?_) ?_ ?_
              rotate_left
              · show Act.put _ (some 45) _ = _
                simp only [Act.put, List.setIfInBounds_toArray, List.set_cons_zero, List.set_cons_succ]
                rfl
              refine one_ (i := 0) (N := some 36) #[true, true, true, true, false, true, true, true, true, true, false, true, true, true, false, false] rfl rfl (by kernel_rfl) (by simp) (fun K hK => ?_)
              refine Kd.R_lit_step k47 (w0 := wX) wX.heap.size 47 ?hw_134 (N := 36) ?hN_134 (xs := ([] : List S47)) (inner := []) (ok := (fun k => k ≠ b132)) (okp := fun _ => False) ?hr_134 (Reps.none _ _) (fun _ hk => hk.elim) (by have h_ := blk_lt HZ133.out; show _ ≠ _; omega) HB131.out HB131.out.size (by simp) ?_
              (case hw_134 => rfl)
              (case hN_134 => rfl)
              (case hr_134 => first | (go_simp; done) | (go_simp; rfl))
              intro v138 w135 ho hb hg hat
              have HZ139 := Aside0.mk (grown_far hg HZ133.out (by simp))
              have HR137 := Aside0.mk ho
              have HB136 := Aside0.mk hb
              clear ho hb hg hat
              refine hK.out _ _ (LC_below HLC.out HB136.out) (fun hHeld => ?_)
              clear hK K
              refine norm_ (a' := ?_) ?_ ?_
              rotate_left
              · show Act.put _ (some 36) _ = _
                simp only [Act.put, List.setIfInBounds_toArray, List.set_cons_zero, List.set_cons_succ]
                rfl
              refine one_ (i := 4) (N := some 40) #[true, true, true, true, true, true, true, true, true, true, false, true, true, true, false, false] rfl rfl (by kernel_rfl) (by simp) (fun K hK => ?_)
              refine Kd.R_append_rows_step k47 (w0 := wX) wX.heap.size ?hw_140 (.tmp 36) (.tmp 39) 27 47 (.agg #[.string ⟨#[]⟩, .string ⟨#[]⟩]) 32 ?ho_140 Tryz.underlying27 info47 ?hz_140 (by decide) (by omega) v138 [] (s.take (k)) _ (k) cs (fun k => k ≠ b132) (fun _ => False) ?hs_140 ?hx_140 HR137.out (Kd.C_below HS1.out HB136.out) (fun _ _ h => h) (fun _ h => h.elim) (fun k hk => by have := blk_lt HZ139.out; omega) HB136.out HB136.out.size ?hl_140 ?_
              (case hw_140 => rfl)
              (case ho_140 => rfl)
              (case hz_140 => rfl)
              (case hs_140 => rfl)
              (case hx_140 => rfl)
              (case hl_140 => simp only [List.length_nil]; have := HMS.out; have := HKM.out; omega)
              intro v144 w141 ho hb hg hat
              have HZ145 := Aside0.mk (grown_far hg HZ139.out (fun hh => HR137.out.1 _ hh.symm rfl))
              have HR143 := Aside0.mk ho
              have HB142 := Aside0.mk hb
              clear ho hb hg hat
              refine hK.out _ _ (LC_below HLC.out HB142.out) (fun hHeld => ?_)
              clear hK K
              refine norm_ (a' := ?_) ?_ ?_
              rotate_left
              · show Act.put _ (some 40) _ = _
                simp only [Act.put, List.setIfInBounds_toArray, List.set_cons_zero, List.set_cons_succ]
                rfl
              refine one_ (i := 10) (N := some 46) #[true, true, true, true, true, true, true, true, true, true, true, true, true, true, false, false] rfl rfl (by kernel_rfl) (by simp) (fun K hK => ?_)
              refine Kd.R_append_rows_step k47 (w0 := wX) wX.heap.size ?hw_146 (.tmp 40) (.tmp 45) 27 47 (.agg #[.string ⟨#[]⟩, .string ⟨#[]⟩]) 32 ?ho_146 Tryz.underlying27 info47 ?hz_146 (by decide) (by omega) v144 ([] ++ s.take (k)) [y] _ 1 1 (fun k => k ≠ b132) (fun _ => False) ?hs_146 ?hx_146 HR143.out (lit47 HZ145.out) (fun _ _ h => h) (fun _ h => h.elim) (fun k hk => by have := blk_lt HZ145.out; omega) HB142.out HB142.out.size ?hl_146 ?_
              (case hw_146 => rfl)
              (case ho_146 => rfl)
              (case hz_146 => rfl)
              (case hs_146 => rfl)
              (case hx_146 => rfl)
              (case hl_146 => simp only [List.length_append, List.length_nil, List.length_take]; have := HMS.out; have := HKM.out; omega)
              intro v150 w147 ho hb hg hat
              have HZ151 := Aside0.mk (grown_far hg HZ145.out (fun hh => HR143.out.1 _ hh.symm rfl))
              have HR149 := Aside0.mk ho
              have HB148 := Aside0.mk hb
              clear ho hb hg hat
              refine hK.out _ _ (LC_below HLC.out HB148.out) (fun hHeld => ?_)
              clear hK K
              refine norm_ (a' := ?_) ?_ ?_
              rotate_left
              · show Act.put _ (some 46) _ = _
                simp only [Act.put, List.setIfInBounds_toArray, List.set_cons_zero, List.set_cons_succ]
                rfl
              refine one_ (i := 14) (N := some 50) #[true, true, true, true, true, true, true, true, true, true, true, true, true, true, true, false] rfl rfl (by kernel_rfl) (by simp) (fun K hK => ?_)
              refine Kd.R_append_rows_step k47 (w0 := wX) wX.heap.size ?hw_152 (.tmp 46) (.tmp 49) 27 47 (.agg #[.string ⟨#[]⟩, .string ⟨#[]⟩]) 32 ?ho_152 Tryz.underlying27 info47 ?hz_152 (by decide) (by omega) v150 ([] ++ s.take (k) ++ [y]) (s.drop (k)) _ (m - (k)) (cs - (k)) (fun k => k ≠ b132) (fun _ => False) ?hs_152 ?hx_152 HR149.out (Kd.C_below HS2.out HB148.out) (fun _ _ h => h) (fun _ h => h.elim) (fun k hk => by have := blk_lt HZ151.out; omega) HB148.out HB148.out.size ?hl_152 ?_
              (case hw_152 => rfl)
              (case ho_152 => rfl)
              (case hz_152 => rfl)
              (case hs_152 => rfl)
              (case hx_152 => rfl)
              (case hl_152 => simp only [List.length_append, List.length_nil, List.length_take, List.length_singleton]; have := HMS.out; have := HKM.out; omega)
              intro v156 w153 ho hb hg hat
              obtain ⟨A9, c9, rfl, hc9⟩ := OwnRow.slice_ ho.2
              obtain ⟨m9, hm9⟩ : ∃ m9, m9 = ([] ++ s.take k ++ [y] ++ s.drop k).length := ⟨_, rfl⟩
              rw [← hm9]
              rw [← hm9] at ho
              have HM9 := Aside0.mk (show m9 = ([] ++ s.take k ++ [y] ++ s.drop k).length ∧ m9 ≤ c9 from ⟨hm9, by rw [hm9]; exact hc9⟩)
              clear hm9 hc9
              have HR155 := Aside0.mk ho
              have HB154 := Aside0.mk hb
              clear ho hb hg hat
              refine hK.out _ _ (LC_below HLC.out HB154.out) (fun hHeld => ?_)
              clear hK K
              refine norm_ (a' := ?_) ?_ ?_
              rotate_left
              · show Act.put _ (some 50) _ = _
                simp only [Act.put, List.setIfInBounds_toArray, List.set_cons_zero, List.set_cons_succ]
                rfl
              refine pure_ (i := 15) (N := some 4) #[true, true, true, true, true, true, true, true, true, true, true, true, true, true, true, true] rfl rfl (by kernel_rfl) (fun _ _ _ h => h) (.inl ⟨by rfl, by (intro w; go_simp <;> with_reducible rfl)⟩) rfl ?_
              (try simp only [Act.put, List.setIfInBounds_toArray, List.set_cons_zero, List.set_cons_succ])
              refine done_ (by kernel_rfl) ?_
              have HBF := Aside0.mk (HBP.out.trans (below_low (HBX.out.trans (below_low HB154.out HBX.out.size)) HBP.out.size))
              have HRF : Aside0 (k47.R 47 _ w.heap.size (fun _ => True) (.slice A9 m9 c9) ([] ++ s.take k ++ [y] ++ s.drop k)) := ⟨Kd.R_mono (Kd.R_lower HR155.out (Nat.le_trans HBP.out.size HBX.out.size)) (fun _ _ => trivial)⟩
              go_wp2
              all_goals
                go_roundg (ga - 1)
                case measure => have h1 := HG.out; omega
                case rel => exact ⟨i + 1, m9, c9, A9, _, by go_num, rfl, ⟨by have h1 := HG.out; omega⟩, HBF, HRF, HM9, HFP, HFS⟩
    · have hie : i = n := by have := HG.out; omega
      have HPT : Aside0 (s.Perm l) := ⟨by have h := HP.out; rw [hie, List.take_of_length_le (by rw [HN.out]; exact Nat.le_refl _)] at h; exact h⟩
      have hr := icehouseref02_Right.calls K As cs s (rB s) wr (Kd.R_reads' HRP.out).2.2 (by have := HM.out; omega) (HRT.out s HPT.out HSO.out)
      rw [← HM.out.1] at hr
      obtain ⟨b, hb⟩ : ∃ b, b = rB s := ⟨_, rfl⟩
      rw [← hb] at hr
      have HBB := Aside0.mk hb
      clear hie hb HP HG
      go_wp2_with fail
      refine hr.mono ?_
      rintro e w3 ⟨rfl, hb3⟩
      have HB3 := Aside0.mk hb3
      clear hr hb3
      cases b with
      | true =>
        go_wp2_with fail
        go_ret2
        exact ⟨s, _, HPT.out, HSO.out, by rw [← HBB.out]; rfl, by rw [← HBB.out, if_pos rfl]; exact Kd.R_below HRP.out HB3.out, HBP.out.trans (below_low HB3.out HBP.out.size)⟩
      | false =>
        go_wp2_with fail
        go_ret2
        exact ⟨s, _, HPT.out, HSO.out, by rw [← HBB.out]; rfl, by rw [← HBB.out, if_neg (by decide)]; exact Kd.R_nil _ _ _ _ _, HBP.out.trans (below_low HB3.out HBP.out.size)⟩
end Go.Proofs.YtgafnjgiikdofaaGreatDoor.Ro
