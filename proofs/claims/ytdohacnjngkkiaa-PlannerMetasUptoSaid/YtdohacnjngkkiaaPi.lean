/- planner's ids, Look and Over, walked. -/
import Derived.Test.YtdohacnjngkkiaaPf
import Derived.Shelf.Abstract
namespace Go.Proofs.Ytdohacnjngkkiaa.Pi
set_option linter.unusedVariables false
set_option linter.unusedSimpArgs false
open Go.Shelf Go.RowKit Go.Proofs.YtdohacnjngkkiaaW.PrintWords Go.Proofs.YtdohacnjngkkiaaW.PrintLast Go.Proofs.YtdohacnjngkkiaaW.PrintMore Go.Proofs.Ytdohacnjngkkiaa.Fr Go.Proofs.Ytdohacnjngkkiaa.Mv Go.Proofs.Ytdohacnjngkkiaa.A Go.Proofs.Ytdohacnjngkkiaa.Pm Go.Proofs.Ytdohacnjngkkiaa.Pf
theorem info3 : (Try.prog.info? 3).map (fun i => (i.zero, i.size, i.bytes)) = some (some (.int .i64 0), 1, 8) := by kernel_rfl
/-- what a function value answers, wherever it is asked -/
def Asks (g : Nat) (lb : Array Value) (p : S40 → Bool) (w : World) : Prop := ∀ (x : S40) (W : World), Below w.heap.size w W → Calls Try.prog g (#[ag x] ++ lb) W fun e w' => e = .returned (.bool (p x)) ∧ Below W.heap.size W w'
set_option maxHeartbeats 4000000 in
theorem ids_calls (A : Option Addr) (c : Nat) (l : List S40) (g : Nat) (lb : Array Value) (p : S40 → Bool) (w : World) (eg : ∀ args w, (callFunc g args).run Try.prog w = .ok (.enter g args) w) (hp : Asks g lb p w) (hC : k40.C w A l.length l) (hl : l.length ≤ 1048576) :
    Calls Try.prog 34 #[.slice A l.length c, .func (.func g) #[] lb] w fun e w' => ∃ v, e = .returned v ∧ (Kd.int .i64).R 3 w' w.heap.size (fun _ => True) v (idsB l p) ∧ Below w.heap.size w w' := by
  have hf := fine_calls A c l w hC hl
  have HC := Aside0.mk hC
  obtain ⟨n, hn⟩ : ∃ n, n = l.length := ⟨_, rfl⟩
  rw [← hn] at hl hf ⊢
  have HN := Aside0.mk hn
  have HP := Aside0.mk hp
  clear hC hn hp
  by_cases hfine : fineB l = true
  · rw [hfine] at hf
    have HID : Aside0 (idsB l p = (l.filter p).map (·.f0)) := ⟨by unfold idsB; rw [if_pos hfine]⟩
    clear hfine
    go_enter Try.func34, Try.ntmps34
    go_wp2_with fail
    refine hf.mono ?_
    rintro e w1 ⟨rfl, hb1⟩
    have HB1 := Aside0.mk hb1
    clear hf hb1
    go_wp2_with fail
    go_loopg [5, 13] n (fun g s5 s13 wx => ∃ k : Nat, s13 = .int .i64 (k : Int) ∧ Aside0 (k + g = n) ∧ Aside0 (Below w.heap.size w wx) ∧ Aside0 ((Kd.int .i64).R 3 wx w.heap.size (fun _ => True) s5 (((l.take k).filter p).map (·.f0))))
    case atStart => exact ⟨0, rfl, ⟨by omega⟩, HB1, ⟨Kd.R_nil _ _ _ _ _⟩⟩
    case round =>
      obtain ⟨k, rfl, HK, HB, HR⟩ := hrel
      have hkn : k ≤ n := by have := HK.out; omega
      by_cases hlt : (k : Int) < n
      · have hkl : k < l.length := by have := HN.out; omega
        obtain ⟨ad, hA, c0, c1, c2, c3, c4, c5, c6, c7⟩ := el_at (Kd.C_below HC.out HB.out) k hkl
        have HTK : Aside0 (l.take (k + 1) = l.take k ++ [l[k]]) := ⟨List.take_succ_eq_append_getElem hkl⟩
        obtain ⟨x, hx⟩ : ∃ x, x = l[k] := ⟨_, rfl⟩
        rw [← hx] at c0 c1 c2 c3 c4 c5 c6 c7 HTK
        subst hA
        clear hx hkl
        go_upto_region 7 with fail
        obtain ⟨W1, hW1⟩ : ∃ W1, W1 = wr.alloc (.cells #[.int .i64 x.f0, .int .i64 x.f1, .int .i64 x.f2, .int .i64 x.f3, .int .i64 x.f4, .int .i64 x.f5, .int .i64 x.f6, .int .i64 x.f7] 40) := ⟨_, rfl⟩
        rw [← hW1]
        have hbk : W1.heap[wr.heap.size]? = some (.cells #[.int .i64 x.f0, .int .i64 x.f1, .int .i64 x.f2, .int .i64 x.f3, .int .i64 x.f4, .int .i64 x.f5, .int .i64 x.f6, .int .i64 x.f7] 40 (0, 0)) := by rw [hW1]; exact blk_new _ _
        have hbw : Below wr.heap.size wr W1 := by rw [hW1]; exact below_alloc (Below.refl _ _) _
        have HBW : Aside0 (Below w.heap.size w W1) := ⟨below_step HB.out hbw⟩
        have HR1 := Aside0.mk (Kd.R_below HR.out hbw)
        obtain ⟨bx, hbx⟩ : ∃ bx, bx = wr.heap.size := ⟨_, rfl⟩
        rw [← hbx] at hbk ⊢
        have HBK := Aside0.mk hbk
        have e0 := blk_cell hbk 0
        have e1 := blk_cell hbk 1
        have e2 := blk_cell hbk 2
        have e3 := blk_cell hbk 3
        have e4 := blk_cell hbk 4
        have e5 := blk_cell hbk 5
        have e6 := blk_cell hbk 6
        have e7 := blk_cell hbk 7
        simp at e0 e1 e2 e3 e4 e5 e6 e7
        have hq := HP.out x W1 HBW.out
        unfold ag at hq
        clear hW1 hbk hbw hbx c0 c1 c2 c3 c4 c5 c6 c7
        go_wp2_with fail
        refine hq.mono ?_
        rintro e w2 ⟨rfl, hb2⟩
        have hbk2 := (hb2.block bx (blk_lt HBK.out)).trans HBK.out
        have d0 := blk_cell hbk2 0
        simp at d0
        have HB2 := Aside0.mk (below_step HBW.out hb2)
        have HR2 := Aside0.mk (Kd.R_below HR1.out hb2)
        clear hq hb2 hbk2 e0 e1 e2 e3 e4 e5 e6 e7
        cases hpx : p x with
        | false =>
          have HK3 : Aside0 (((l.take (k + 1)).filter p).map (·.f0) = ((l.take k).filter p).map (·.f0)) := ⟨by rw [HTK.out, List.filter_append]; simp [List.filter_cons, hpx]⟩
          clear hpx
          go_wp2
          go_roundg (gk - 1)
          case measure => have := HK.out; omega
          case rel => exact ⟨k + 1, by go_num, ⟨by have := HK.out; omega⟩, HB2, ⟨by rw [HK3.out]; exact HR2.out⟩⟩
        | true =>
          have HK3 : Aside0 (((l.take (k + 1)).filter p).map (·.f0) = ((l.take k).filter p).map (·.f0) ++ [x.f0]) := ⟨by rw [HTK.out, List.filter_append]; simp [List.filter_cons, hpx]⟩
          have HLX : Aside0 ((((l.take k).filter p).map (·.f0)).length + 1 ≤ 1048577) := ⟨by
            have h1 := List.length_filter_le p (l.take k)
            rw [List.length_map]
            have h2 : (l.take k).length ≤ k := List.length_take_le _ _
            omega⟩
          clear hpx
          go_wp2_with (first | ((with_reducible refine gate_builtin (b := .append) (xs := #[.tmp 20, .tmp 23]) rfl ?_); at_builtin; refine Kd.R_append (Kd.int .i64) (w0 := w) w.heap.size rfl (.tmp 20) (.tmp 23) 26 3 (.int .i64 0) 8 rfl Try.underlying26 info3 rfl (by decide) (by omega) u5 (((l.take k).filter p).map (·.f0)) x.f0 [.int .i64 x.f0] (fun _ => True) (fun _ => False) rfl rfl ?aP (fun _ hk => hk.elim) ?aF ?aO ?aB ?aS ?aL ?_; (case aP => exact rfl); (case aB => exact HB2.out); (case aF => exact (fun _ _ => trivial)); (case aO => exact HR2.out); (case aS => exact HB2.out.size); (case aL => have := HLX.out; omega); intro v2 w4 ho hb hg hat; have HO := Aside0.mk ho; have HB4 := Aside0.mk hb; clear ho hb hg hat))
          go_roundg (gk - 1)
          case measure => have := HK.out; omega
          case rel => exact ⟨k + 1, by go_num, ⟨by have := HK.out; omega⟩, HB4, ⟨by rw [HK3.out]; exact HO.out⟩⟩
      · have hk : k = n := by omega
        have HK2 : Aside0 (((l.take k).filter p).map (·.f0) = idsB l p) := ⟨by rw [HID.out, List.take_of_length_le (by have := HN.out; omega)]⟩
        clear hk HK
        go_wp2
        go_ret
        exact ⟨_, rfl, by rw [← HK2.out]; exact HR.out, HB.out⟩
  · have hff : fineB l = false := by simpa using hfine
    rw [hff] at hf
    have HID : Aside0 (idsB l p = []) := ⟨by unfold idsB; rw [if_neg hfine]⟩
    clear hfine hff
    go_enter Try.func34, Try.ntmps34
    go_wp2_with fail
    refine hf.mono ?_
    rintro e w1 ⟨rfl, hb1⟩
    have HB1 := Aside0.mk hb1
    clear hf hb1
    go_wp2
    go_ret
    exact ⟨_, rfl, by rw [HID.out]; exact Kd.R_nil _ _ _ _ _, HB1.out⟩
theorem box_cell {w W : World} {b : Nat} {v : Value} {t : TypeId} (h : w.heap[b]? = some (.cells #[v] t (0, 0))) (hb : Below w.heap.size w W) : W.cell? ⟨b, 0, none⟩ = some v := by
  have h2 := blk_cell ((hb.block b (blk_lt h)).trans h) 0
  simpa using h2
set_option maxHeartbeats 1000000 in
/-- the function value of Look -/
theorem look_asks (b1 b2 : Nat) (fr up : Int) (w : World) (h1 : w.heap[b1]? = some (.cells #[.int .i64 up] 3 (0, 0))) (h2 : w.heap[b2]? = some (.cells #[.int .i64 fr] 3 (0, 0))) :
    Asks 35 #[.pointer (some ⟨b1, 0, none⟩), .pointer (some ⟨b2, 0, none⟩)] (lookB fr up) w := by
  intro x W hb
  obtain ⟨W1, hW1⟩ : ∃ W1, W1 = W.alloc (.cells #[.int .i64 x.f0, .int .i64 x.f1, .int .i64 x.f2, .int .i64 x.f3, .int .i64 x.f4, .int .i64 x.f5, .int .i64 x.f6, .int .i64 x.f7] 40) := ⟨_, rfl⟩
  have hbw : Below W.heap.size W W1 := by rw [hW1]; exact below_alloc (Below.refl _ _) _
  have hbk : W1.heap[W.heap.size]? = some (.cells #[.int .i64 x.f0, .int .i64 x.f1, .int .i64 x.f2, .int .i64 x.f3, .int .i64 x.f4, .int .i64 x.f5, .int .i64 x.f6, .int .i64 x.f7] 40 (0, 0)) := by rw [hW1]; exact blk_new _ _
  have c1 := box_cell h1 (below_step hb hbw)
  have c2 := box_cell h2 (below_step hb hbw)
  have e1 := blk_cell hbk 1
  have e2 := blk_cell hbk 2
  simp at e1 e2
  have HBW := Aside0.mk hbw
  by_cases g1 : x.f1 < up
  · by_cases g2 : fr ≤ x.f2
    · have HL : Aside0 (lookB fr up x = true) := ⟨by simp [lookB, g1, g2]⟩
      clear h1 h2 hb hbk hbw
      unfold ag
      go_enter Try.func35, Try.ntmps35
      go_upto_region 1 with fail
      rw [← hW1]
      clear hW1
      go_wp2
      go_ret
      exact ⟨by rw [HL.out]; rfl, HBW.out⟩
    · have HL : Aside0 (lookB fr up x = false) := ⟨by simp [lookB, g2]⟩
      clear h1 h2 hb hbk hbw
      unfold ag
      go_enter Try.func35, Try.ntmps35
      go_upto_region 1 with fail
      rw [← hW1]
      clear hW1
      go_wp2
      go_ret
      exact ⟨by rw [HL.out]; rfl, HBW.out⟩
  · have HL : Aside0 (lookB fr up x = false) := ⟨by simp [lookB, g1]⟩
    clear h1 h2 hb hbk hbw
    unfold ag
    go_enter Try.func35, Try.ntmps35
    go_upto_region 1 with fail
    rw [← hW1]
    clear hW1
    go_wp2
    go_ret
    exact ⟨by rw [HL.out]; rfl, HBW.out⟩
set_option maxHeartbeats 1000000 in
theorem look_calls (A : Option Addr) (c : Nat) (l : List S40) (fr up : Int) (w : World) (hC : k40.C w A l.length l) (hl : l.length ≤ 1048576) :
    Calls Try.prog 11 #[.slice A l.length c, .int .i64 fr, .int .i64 up] w fun e w' => ∃ v, e = .returned v ∧ (Kd.int .i64).R 3 w' w.heap.size (fun _ => True) v (idsB l (lookB fr up)) ∧ Below w.heap.size w w' := by
  obtain ⟨w1, hw1⟩ : ∃ w1, w1 = w.alloc (.cells #[.int .i64 fr] 3) := ⟨_, rfl⟩
  obtain ⟨w2, hw2⟩ : ∃ w2, w2 = w1.alloc (.cells #[.int .i64 up] 3) := ⟨_, rfl⟩
  have b1 : Below w.heap.size w w1 := by rw [hw1]; exact below_alloc (Below.refl _ _) _
  have b2 : Below w1.heap.size w1 w2 := by rw [hw2]; exact below_alloc (Below.refl _ _) _
  have s1 : w1.heap.size = w.heap.size + 1 := by rw [hw1]; exact World.size_alloc _ _
  have k1 : w1.heap[w.heap.size]? = some (.cells #[.int .i64 fr] 3 (0, 0)) := by rw [hw1]; exact blk_new _ _
  have k2 : w2.heap[w.heap.size + 1]? = some (.cells #[.int .i64 up] 3 (0, 0)) := by rw [hw2, ← s1]; exact blk_new _ _
  have k1' := (b2.block _ (blk_lt k1)).trans k1
  have hB := Aside0.mk (below_step b1 b2)
  have eg : ∀ args w, (callFunc 35 args).run Try.prog w = .ok (.enter 35 args) w := enters_of Try.func35 (by kernel_rfl) rfl
  have hids := ids_calls A c l 35 _ _ w2 eg (look_asks _ _ fr up w2 k2 k1') (Kd.C_below hC hB.out) hl
  have HS : Aside0 (w.heap.size ≤ w2.heap.size) := ⟨hB.out.size⟩
  obtain ⟨n, hn⟩ : ∃ n, n = l.length := ⟨_, rfl⟩
  rw [← hn] at hids ⊢
  clear hC hl b1 b2 s1 k1 k2 k1' eg hn
  go_enter Try.func11, Try.ntmps11
  go_wp2_with fail
  rw [← hw1, ← hw2]
  refine hids.mono ?_
  rintro e w3 ⟨v, rfl, hr, hb⟩
  have HR := Aside0.mk (Kd.R_lower hr HS.out)
  have HB3 := Aside0.mk (below_then hB.out hB.out.size hb)
  clear hids hr hb hw1 hw2
  go_wp2
  go_ret
  exact ⟨v, rfl, HR.out, HB3.out⟩
theorem over_fn (x : S40) (keep now : Int) (w : World) : Calls Try.prog 37 #[ag x, .int .i64 keep, .int .i64 now] w fun e w' => e = .returned (.bool (overB keep now x)) ∧ Below w.heap.size w w' :=
  planner_Meta_over.calls x.f0 x.f1 x.f2 x.f3 x.f4 x.f5 x.f6 x.f7 keep now _ w (over_is x keep now)
set_option maxHeartbeats 1000000 in
/-- the function value of Over -/
theorem over_asks (b1 b2 : Nat) (keep now : Int) (w : World) (h1 : w.heap[b1]? = some (.cells #[.int .i64 keep] 3 (0, 0))) (h2 : w.heap[b2]? = some (.cells #[.int .i64 now] 3 (0, 0))) :
    Asks 36 #[.pointer (some ⟨b1, 0, none⟩), .pointer (some ⟨b2, 0, none⟩)] (overB keep now) w := by
  intro x W hb
  obtain ⟨W1, hW1⟩ : ∃ W1, W1 = W.alloc (.cells #[.int .i64 x.f0, .int .i64 x.f1, .int .i64 x.f2, .int .i64 x.f3, .int .i64 x.f4, .int .i64 x.f5, .int .i64 x.f6, .int .i64 x.f7] 40) := ⟨_, rfl⟩
  have hbw : Below W.heap.size W W1 := by rw [hW1]; exact below_alloc (Below.refl _ _) _
  have hbk : W1.heap[W.heap.size]? = some (.cells #[.int .i64 x.f0, .int .i64 x.f1, .int .i64 x.f2, .int .i64 x.f3, .int .i64 x.f4, .int .i64 x.f5, .int .i64 x.f6, .int .i64 x.f7] 40 (0, 0)) := by rw [hW1]; exact blk_new _ _
  have c1 := box_cell h1 (below_step hb hbw)
  have c2 := box_cell h2 (below_step hb hbw)
  have e0 := blk_cell hbk 0
  have e1 := blk_cell hbk 1
  have e2 := blk_cell hbk 2
  have e3 := blk_cell hbk 3
  have e4 := blk_cell hbk 4
  have e5 := blk_cell hbk 5
  have e6 := blk_cell hbk 6
  have e7 := blk_cell hbk 7
  simp at e0 e1 e2 e3 e4 e5 e6 e7
  have HBW := Aside0.mk hbw
  have hov := over_fn x keep now W1
  unfold ag at hov
  clear h1 h2 hb hbk hbw
  unfold ag
  go_enter Try.func36, Try.ntmps36
  go_upto_region 1 with fail
  rw [← hW1]
  clear hW1
  go_wp2_with fail
  refine hov.mono ?_
  rintro e w2 ⟨rfl, hb2⟩
  have HB2 := Aside0.mk (below_then HBW.out HBW.out.size hb2)
  clear hov hb2
  go_wp2
  go_ret
  exact ⟨rfl, HB2.out⟩
set_option maxHeartbeats 1000000 in
theorem over_calls (A : Option Addr) (c : Nat) (l : List S40) (keep now : Int) (w : World) (hC : k40.C w A l.length l) (hl : l.length ≤ 1048576) :
    Calls Try.prog 13 #[.slice A l.length c, .int .i64 keep, .int .i64 now] w fun e w' => ∃ v, e = .returned v ∧ (Kd.int .i64).R 3 w' w.heap.size (fun _ => True) v (idsB l (overB keep now)) ∧ Below w.heap.size w w' := by
  obtain ⟨w1, hw1⟩ : ∃ w1, w1 = w.alloc (.cells #[.int .i64 keep] 3) := ⟨_, rfl⟩
  obtain ⟨w2, hw2⟩ : ∃ w2, w2 = w1.alloc (.cells #[.int .i64 now] 3) := ⟨_, rfl⟩
  have b1 : Below w.heap.size w w1 := by rw [hw1]; exact below_alloc (Below.refl _ _) _
  have b2 : Below w1.heap.size w1 w2 := by rw [hw2]; exact below_alloc (Below.refl _ _) _
  have s1 : w1.heap.size = w.heap.size + 1 := by rw [hw1]; exact World.size_alloc _ _
  have k1 : w1.heap[w.heap.size]? = some (.cells #[.int .i64 keep] 3 (0, 0)) := by rw [hw1]; exact blk_new _ _
  have k2 : w2.heap[w.heap.size + 1]? = some (.cells #[.int .i64 now] 3 (0, 0)) := by rw [hw2, ← s1]; exact blk_new _ _
  have k1' := (b2.block _ (blk_lt k1)).trans k1
  have hB := Aside0.mk (below_step b1 b2)
  have eg : ∀ args w, (callFunc 36 args).run Try.prog w = .ok (.enter 36 args) w := enters_of Try.func36 (by kernel_rfl) rfl
  have hids := ids_calls A c l 36 _ _ w2 eg (over_asks _ _ keep now w2 k1' k2) (Kd.C_below hC hB.out) hl
  have HS : Aside0 (w.heap.size ≤ w2.heap.size) := ⟨hB.out.size⟩
  obtain ⟨n, hn⟩ : ∃ n, n = l.length := ⟨_, rfl⟩
  rw [← hn] at hids ⊢
  clear hC hl b1 b2 s1 k1 k2 k1' eg hn
  go_enter Try.func13, Try.ntmps13
  go_wp2_with fail
  rw [← hw1, ← hw2]
  refine hids.mono ?_
  rintro e w3 ⟨v, rfl, hr, hb⟩
  have HR := Aside0.mk (Kd.R_lower hr HS.out)
  have HB3 := Aside0.mk (below_then hB.out hB.out.size hb)
  clear hids hr hb hw1 hw2
  go_wp2
  go_ret
  exact ⟨v, rfl, HR.out, HB3.out⟩
end Go.Proofs.Ytdohacnjngkkiaa.Pi
