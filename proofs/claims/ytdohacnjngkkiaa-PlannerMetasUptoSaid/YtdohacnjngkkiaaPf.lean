/- planner.Fine, walked. -/
import Derived.Test.YtdohacnjngkkiaaMv
import Derived.Test.YtdohacnjngkkiaaPm
namespace Go.Proofs.Ytdohacnjngkkiaa.Pf
set_option linter.unusedVariables false
open Go.RowKit Go.Proofs.YtdohacnjngkkiaaW.PrintWords Go.Proofs.YtdohacnjngkkiaaW.PrintLast Go.Proofs.YtdohacnjngkkiaaW.PrintMore Go.Proofs.Ytdohacnjngkkiaa.Fr Go.Proofs.Ytdohacnjngkkiaa.Mv Go.Proofs.Ytdohacnjngkkiaa.A Go.Proofs.Ytdohacnjngkkiaa.Pm
theorem right_calls (x : S40) (w : World) : Calls Try.prog 32 #[ag x] w fun e w' => e = .returned (.bool (rightB x)) ∧ Below w.heap.size w w' :=
  planner_Right.calls x.f0 x.f1 x.f2 x.f3 x.f4 x.f5 x.f6 x.f7 _ w (right_is x)
/-- the cells of an element -/
theorem el_at {w : World} {A : Option Addr} {n : Nat} {l : List S40} (h : k40.C w A n l) (i : Nat) (hi : i < l.length) : ∃ ad, A = some ad ∧
    w.cell? (ad.add (i * 8)) = some (.int .i64 l[i].f0) ∧ w.cell? ⟨(ad.add (i * 8)).block, (ad.add (i * 8)).off + 1, none⟩ = some (.int .i64 l[i].f1) ∧ w.cell? ⟨(ad.add (i * 8)).block, (ad.add (i * 8)).off + 2, none⟩ = some (.int .i64 l[i].f2) ∧
    w.cell? ⟨(ad.add (i * 8)).block, (ad.add (i * 8)).off + 3, none⟩ = some (.int .i64 l[i].f3) ∧ w.cell? ⟨(ad.add (i * 8)).block, (ad.add (i * 8)).off + 4, none⟩ = some (.int .i64 l[i].f4) ∧ w.cell? ⟨(ad.add (i * 8)).block, (ad.add (i * 8)).off + 5, none⟩ = some (.int .i64 l[i].f5) ∧
    w.cell? ⟨(ad.add (i * 8)).block, (ad.add (i * 8)).off + 6, none⟩ = some (.int .i64 l[i].f6) ∧ w.cell? ⟨(ad.add (i * 8)).block, (ad.add (i * 8)).off + 7, none⟩ = some (.int .i64 l[i].f7) := by
  have hl := Kd.C_len h
  have h1 := at_T40 h (i : Int) (by omega) (by omega)
  have e : rd_T40 l (i : Int) = l[i] := by unfold rd_T40; simp [List.getD_eq_getElem?_getD, List.getElem?_eq_getElem hi]
  rw [e] at h1
  simpa using h1
theorem nodup_snoc {l : List Int} {x : Int} (h : l.Nodup) (hx : x ∉ l) : (l ++ [x]).Nodup := by
  rw [List.nodup_append]
  exact ⟨h, by simp, fun a ha b hb => by simp at hb; subst hb; exact fun e => hx (e ▸ ha)⟩
theorem map_start {w : World} {mb : Nat} {F : Int → Bool} (h : Eb.M w mb 0 (fun _ => Eb.z)) (hF : ∀ x, F x = false := by simp) : Eb.M w mb 0 F := by
  have : F = fun _ => Eb.z := funext hF
  rw [this]
  exact h
theorem wf64 {n : Int} (h1 : -9223372036854775808 ≤ n) (h2 : n ≤ 9223372036854775807) : (Lit.int .i64 n).wf = true := by
  simp [Lit.wf, IntKind.min, IntKind.max, IntKind.signed, IntKind.bits]
  omega
set_option maxHeartbeats 4000000 in
theorem fine_calls (A : Option Addr) (c : Nat) (l : List S40) (w : World) (hC : k40.C w A l.length l) (hl : l.length ≤ 1048576) :
    Calls Try.prog 17 #[.slice A l.length c] w fun e w' => e = .returned (.bool (fineB l)) ∧ Below w.heap.size w w' := by
  have HC := Aside0.mk hC
  obtain ⟨n, hn⟩ : ∃ n, n = l.length := ⟨_, rfl⟩
  rw [← hn] at hl ⊢
  have HN := Aside0.mk hn
  have hmm := @run_makeMap Try.prog
  have hmade := El.M.made (E := Eb) w
  obtain ⟨w1, hw1⟩ : ∃ w1, w1 = w.alloc (.map #[] 0) := ⟨_, rfl⟩
  rw [← hw1] at hmade
  have hb1 : Below w.heap.size w w1 := by rw [hw1]; exact below_alloc (Below.refl _ _) _
  have HM1 := Aside0.mk hmade
  have HB1 := Aside0.mk hb1
  obtain ⟨mb, hmb⟩ : ∃ mb, mb = w.heap.size := ⟨_, rfl⟩
  rw [← hmb] at HM1
  have HMB : Aside0 (w.heap.size ≤ mb) := ⟨by omega⟩
  clear hC hn hmade hb1
  go_enter Try.func17, Try.ntmps17
  go_upto_region 2 with fail
  rw [← hw1, ← hmb]
  clear hmm hw1 hmb
  go_wp2_with fail
  go_loopg [9] n (fun g s9 wx => ∃ k : Nat, s9 = .int .i64 (k : Int) ∧ Aside0 (k + g = n) ∧ Aside0 (Below w.heap.size w wx) ∧ Aside0 (Eb.M wx mb k (fun x => decide (x ∈ (l.take k).map (·.f0)))) ∧ Aside0 ((∀ x ∈ l.take k, rightB x = true) ∧ ((l.take k).map (·.f0)).Nodup))
  case atStart => exact ⟨0, rfl, ⟨by omega⟩, HB1, ⟨map_start HM1.out⟩, ⟨by simp, by simp⟩⟩
  case round =>
    obtain ⟨k, rfl, HK, HB, HM, HF⟩ := hrel
    have hkn : k ≤ n := by have := HK.out; omega
    by_cases hlt : (k : Int) < n
    · have hkl : k < l.length := by have := HN.out; omega
      obtain ⟨ad, hA, c0, c1, c2, c3, c4, c5, c6, c7⟩ := el_at (Kd.C_below HC.out HB.out) k hkl
      have HTK : Aside0 (l.take (k + 1) = l.take k ++ [l[k]]) := ⟨List.take_succ_eq_append_getElem hkl⟩
      have hin : l[k] ∈ l := List.getElem_mem hkl
      have HNF : Aside0 (l[k].f0 ∈ (l.take k).map (·.f0) → ¬ (l.map (·.f0)).Nodup) := ⟨fun hm hnd => by
        have hs : l = l.take k ++ l[k] :: l.drop (k + 1) := by rw [← List.drop_eq_getElem_cons hkl, List.take_append_drop]
        rw [hs, List.map_append, List.map_cons, List.nodup_append] at hnd
        exact hnd.2.2 _ hm _ (List.mem_cons_self) rfl⟩
      obtain ⟨x, hx⟩ : ∃ x, x = l[k] := ⟨_, rfl⟩
      rw [← hx] at c0 c1 c2 c3 c4 c5 c6 c7 HTK HNF hin
      have HIN := Aside0.mk hin
      subst hA
      clear hx hkl hin
      have hr := right_calls x
      unfold ag at hr
      by_cases hrt : rightB x = true
      · obtain ⟨a0, b0, _⟩ := right_wf hrt
        have hwf : (Lit.int .i64 x.f0).wf = true := wf64 (by omega) (by omega)
        have HWF := Aside0.mk hwf
        rw [hrt] at hr
        have HRT := Aside0.mk hrt
        clear hrt hwf
        go_upto_region 5 with fail
        obtain ⟨W1, hW1⟩ : ∃ W1, W1 = wr.alloc (.cells #[.int .i64 x.f0, .int .i64 x.f1, .int .i64 x.f2, .int .i64 x.f3, .int .i64 x.f4, .int .i64 x.f5, .int .i64 x.f6, .int .i64 x.f7] 40) := ⟨_, rfl⟩
        rw [← hW1]
        have hbk : W1.heap[wr.heap.size]? = some (.cells #[.int .i64 x.f0, .int .i64 x.f1, .int .i64 x.f2, .int .i64 x.f3, .int .i64 x.f4, .int .i64 x.f5, .int .i64 x.f6, .int .i64 x.f7] 40 (0, 0)) := by rw [hW1]; exact blk_new _ _
        have hbw : Below wr.heap.size wr W1 := by rw [hW1]; exact below_alloc (Below.refl _ _) _
        have HBW : Aside0 (Below w.heap.size w W1) := ⟨below_step HB.out hbw⟩
        have HM2 := Aside0.mk (HM.out.below hbw)
        obtain ⟨bx, hbx⟩ : ∃ bx, bx = wr.heap.size := ⟨_, rfl⟩
        rw [← hbx] at hbk ⊢
        have HBK := Aside0.mk hbk
        have e0 := blk_cell hbk 0
        have e1 := blk_cell hbk 1
        have e2 := blk_cell hbk 2
        have e3 := blk_cell hbk 3
        have e4 := blk_cell hbk 4
        have e5 := blk_cell hbk 5
        have e6 := blk_cell hbk 6
        have e7 := blk_cell hbk 7
        simp at e0 e1 e2 e3 e4 e5 e6 e7
        clear hW1 hbk hbw hbx c0 c1 c2 c3 c4 c5 c6 c7
        go_wp2_with fail
        refine (hr _).mono ?_
        rintro e w2 ⟨rfl, hb2⟩
        have hbk2 := (hb2.block bx (blk_lt HBK.out)).trans HBK.out
        have d0 := blk_cell hbk2 0
        simp at d0
        have hm2 := HM2.out.below hb2
        have hlk0 := hm2.look HWF.out
        have HB2 := Aside0.mk (below_step HBW.out hb2)
        by_cases hmem : x.f0 ∈ (l.take k).map (·.f0)
        · have hlk : (Instr.lookup 38 (.map (some mb)) (.int .i64 x.f0) false).run Try.prog w2 = .ok (.bool true) w2 := by
            have h := hlk0
            rw [show decide (x.f0 ∈ (l.take k).map (·.f0)) = true from decide_eq_true hmem] at h
            exact h
          have HMM := Aside0.mk hmem
          clear hr hb2 hbk2 hm2 hlk0 hmem e0 e1 e2 e3 e4 e5 e6 e7
          go_wp2
          go_ret
          refine ⟨?_, HB2.out⟩
          have : fineB l = false := by
            cases hf : fineB l with
            | false => rfl
            | true => exact absurd (fine_iff.1 hf).2 (HNF.out HMM.out)
          rw [this]
          rfl
        · have hlk : (Instr.lookup 38 (.map (some mb)) (.int .i64 x.f0) false).run Try.prog w2 = .ok (.bool false) w2 := by
            have h := hlk0
            rw [show decide (x.f0 ∈ (l.take k).map (·.f0)) = false from decide_eq_false hmem] at h
            exact h
          obtain ⟨w3, hrun3, hm3, ht3⟩ := hm2.store HWF.out (by simp only [maxLen]; omega) true
          have hup : (Instr.mapUpdate 38 (.map (some mb)) (.int .i64 x.f0) (.bool true)).run Try.prog w2 = .ok () w3 := hrun3
          have HB3 : Aside0 (Below w.heap.size w w3) := ⟨HB2.out.trans ((turned_fr (S := fun j => j = mb) ht3 rfl).below HB2.out.size (fun j hj => by have := HMB.out; omega))⟩
          have HM3 : Aside0 (Eb.M w3 mb (k + 1) (fun y => decide (y ∈ (l.take (k + 1)).map (·.f0)))) := ⟨by
            have e : (fun y => decide (y ∈ (l.take (k + 1)).map (·.f0))) = upd (fun y => decide (y ∈ (l.take k).map (·.f0))) x.f0 true := by
              funext y
              rw [HTK.out, List.map_append]
              unfold upd
              by_cases hy : y = x.f0
              · simp [hy]
              · simp [hy]
            rw [e]
            exact hm3⟩
          have HF3 : Aside0 ((∀ y ∈ l.take (k + 1), rightB y = true) ∧ ((l.take (k + 1)).map (·.f0)).Nodup) := ⟨by
            rw [HTK.out]
            refine ⟨fun y hy => ?_, ?_⟩
            · rcases List.mem_append.1 hy with h | h
              · exact HF.out.1 y h
              · simp at h; rw [h]; exact HRT.out
            · rw [List.map_append]
              exact nodup_snoc HF.out.2 hmem⟩
          clear hr hb2 hbk2 hm2 hlk0 hmem hrun3 hm3 ht3 e0 e1 e2 e3 e4 e5 e6 e7
          go_wp2
          go_roundg (gk - 1)
          case measure => have := HK.out; omega
          case rel => exact ⟨k + 1, by go_num, ⟨by have := HK.out; omega⟩, HB3, HM3, HF3⟩
      · have hrf : rightB x = false := by simpa using hrt
        rw [hrf] at hr
        have HRF := Aside0.mk hrf
        clear hrt hrf
        go_wp2_with fail
        refine (hr _).mono ?_
        rintro e w2 ⟨rfl, hb2⟩
        have HB2 := Aside0.mk (below_then (below_alloc HB.out _) (below_alloc HB.out _).size hb2)
        clear hr hb2 c0 c1 c2 c3 c4 c5 c6 c7
        go_wp2
        go_ret
        refine ⟨?_, HB2.out⟩
        have : fineB l = false := by
          cases hf : fineB l with
          | false => rfl
          | true =>
            have := (fine_iff.1 hf).1 x HIN.out
            rw [HRF.out] at this
            cases this
        rw [this]
        rfl
    · have hk : k = n := by omega
      have HK2 : Aside0 (fineB l = true) := ⟨by
        have h := HF.out
        rw [List.take_of_length_le (by have := HN.out; omega)] at h
        exact fine_iff.2 h⟩
      clear hk HK
      go_wp2
      go_ret
      exact ⟨by rw [HK2.out]; rfl, HB.out⟩
end Go.Proofs.Ytdohacnjngkkiaa.Pf
