/- The law PlannerEnds, walked. -/
import Derived.Test.YtdohacnjngkkiaaLk
import Derived.Test.YtdohacnjngkkiaaJo
import Derived.Test.YtdohacnjngkkiaaEp
namespace Go.Proofs.Ytdohacnjngkkiaa.En
set_option linter.unusedVariables false
set_option linter.unusedSimpArgs false
open Go.Proofs.Ytdohacnjngkkiaa.Ep Go.Proofs.Ytdohacnjngkkiaa.Jd Go.Proofs.Ytdohacnjngkkiaa.Jp Go.Proofs.Ytdohacnjngkkiaa.Jo Go.Proofs.Ytdohacnjngkkiaa.Bx Go.Proofs.Ytdohacnjngkkiaa.Wp Go.Proofs.Ytdohacnjngkkiaa.Mv Go.Proofs.Ytdohacnjngkkiaa.Lk Go.Proofs.Ytdohacnjngkkiaa.Kn Go.Proofs.Ytdohacnjngkkiaa.Rl Go.Proofs.Ytdohacnjngkkiaa.Sm Go.Proofs.Ytdohacnjngkkiaa.Sr Go.Proofs.Ytdohacnjngkkiaa.Pk Go.Proofs.Ytdohacnjngkkiaa.Pq Go.Proofs.Ytdohacnjngkkiaa.Pw Go.Shelf Go.RowKit Go.Proofs.YtdohacnjngkkiaaW.PrintWords Go.Proofs.YtdohacnjngkkiaaW.PrintLast Go.Proofs.YtdohacnjngkkiaaW.PrintMore Go.Proofs.Ytdohacnjngkkiaa.Fr Go.Proofs.Ytdohacnjngkkiaa.A Go.Proofs.Ytdohacnjngkkiaa.Pm Go.Proofs.Ytdohacnjngkkiaa.Pf Go.Proofs.Ytdohacnjngkkiaa.Pi Go.Proofs.Ytdohacnjngkkiaa.Pc Go.Proofs.Ytdohacnjngkkiaa.Pd
theorem int_at {w : World} {A : Option Addr} {n : Nat} {l : List Int} (h : (Kd.int .i64).C w A n l) (i : Nat) (hi : i < l.length) : ∃ ad, A = some ad ∧ w.cell? (ad.add i) = some (.int .i64 l[i]) := by
  obtain ⟨h1, h2, h3⟩ := Kd.reads_of_C (d := (0 : Int)) h
  obtain ⟨ad, e, hc⟩ := h3 (by omega)
  refine ⟨ad, e, ?_⟩
  rw [hc i (by omega)]
  simp [List.getD_eq_getElem?_getD, List.getElem?_eq_getElem hi]
theorem rules_calls (fan mx keep : Int) (w : World) : Calls Try.prog 19 #[.agg #[.int .i64 fan, .int .i64 mx, .int .i64 keep]] w fun e w' => e = .returned (.agg #[.int .i64 fan, .int .i64 mx, .int .i64 keep]) ∧ Below w.heap.size w w' :=
  icehouselaw09_rules.calls fan mx keep fan mx keep w rfl
theorem own_base' {e base : Nat} {w : World} {ok : Nat → Prop} {l : List Int} {A : Option Addr} {n c : Nat} (h : (Kd.int .i64).R e w base ok (.slice A n c) l) (hn : 0 < n) : ∀ ad, A = some ad → base ≤ ad.block := by
  intro ad e; subst e
  have hb := (Kd.R_bound h).1 ad.block rfl
  exact hb.2.1
theorem mem_snoc_upd (l : List Int) (j : Nat) (hj : j < l.length) : upd (fun y => decide (y ∈ l.take j)) l[j] true = fun y => decide (y ∈ l.take (j + 1)) := by
  funext y
  rw [List.take_succ_eq_append_getElem hj]
  unfold upd
  by_cases hy : y = l[j]
  · rw [if_pos hy]; simp only [List.mem_append, List.mem_singleton, hy, or_true, decide_true]
  · rw [if_neg hy]; simp only [List.mem_append, List.mem_singleton, hy, or_false]
/-- one field of a block of a row of one's own is written -/
theorem R_fld {w : World} {base gb n cap : Nat} {ok : Nat → Prop} {xs : List S40} (h : k40.R 40 w base ok (.slice (some ⟨gb, 0, none⟩) n cap) xs) (i : Nat) (hi : i < xs.length) (j : Nat) (hj : j < 8) (v : Value) (x' : S40)
    (hx : (cells8 xs[i]).take j ++ [v] ++ (cells8 xs[i]).drop (j + 1) = cells8 x') : k40.R 40 (w.setCell ⟨gb, i * 8 + j, none⟩ v) base ok (.slice (some ⟨gb, 0, none⟩) n cap) (xs.set i x') := by
  obtain ⟨h1, h2, hC⟩ := Kd.R_reads' h
  have hc := el_own hC i hi
  have hs := Kd.R_seg h (i : Int) (by omega) (by omega) (c := cells8 xs[i]) (seg := [v]) (j := j) (x' := x') rfl (fun q u hq => by
      simp only [Int.toNat_natCast]
      show w.cell? ⟨gb, i * 8 + q, none⟩ = some u
      match q, hq with
      | 0, hq => cases hq; exact hc.1
      | 1, hq => cases hq; exact hc.2.1
      | 2, hq => cases hq; exact hc.2.2.1
      | 3, hq => cases hq; exact hc.2.2.2.1
      | 4, hq => cases hq; exact hc.2.2.2.2.1
      | 5, hq => cases hq; exact hc.2.2.2.2.2.1
      | 6, hq => cases hq; exact hc.2.2.2.2.2.2.1
      | 7, hq => cases hq; exact hc.2.2.2.2.2.2.2
      | q + 8, hq => cases hq) (by show j + 1 ≤ 8; omega) (okp := fun _ => False) (by rw [show j + [v].length = j + 1 from rfl, hx]; exact k40_mkM _ _ _ x') (fun _ h => h.elim)
  simp only [Int.toNat_natCast] at hs
  exact hs.1
def ini (i : Nat) (x : S40) : S40 := { x with f0 := (i : Int) + 1, f5 := 1 + x.f5 % 1000, f6 := x.f6 % 10000 }
def mixF (xs : List S40) (j : Nat) : List S40 := xs.mapIdx (fun i x => if i < j then ini i x else x)
theorem mix_len (xs : List S40) (j : Nat) : (mixF xs j).length = xs.length := by unfold mixF; simp
theorem mix_at (xs : List S40) (j i : Nat) (hi : i < xs.length) : (mixF xs j)[i]'(by rw [mix_len]; exact hi) = if i < j then ini i xs[i] else xs[i] := by unfold mixF; simp
theorem mix_0 (xs : List S40) : mixF xs 0 = xs := by
  apply List.ext_getElem (mix_len xs 0)
  intro i h1 h2
  rw [mix_at xs 0 i h2, if_neg (Nat.not_lt_zero _)]
theorem mix_succ (xs : List S40) (j : Nat) (hj : j < xs.length) : (mixF xs j).set j (ini j xs[j]) = mixF xs (j + 1) := by
  apply List.ext_getElem (by simp [mix_len])
  intro i h1 h2
  rw [mix_len] at h2
  rw [List.getElem_set, mix_at xs (j + 1) i h2]
  by_cases h : j = i
  · subst h; rw [if_pos rfl, if_pos (by omega)]
  · rw [if_neg h, mix_at xs j i h2]
    by_cases h3 : i < j
    · rw [if_pos h3, if_pos (by omega)]
    · rw [if_neg h3, if_neg (by omega)]
theorem mix_good {xs : List S40} (hf : fineB xs = true) (h60 : xs.length ≤ 60) : Ep.Good (mixF xs xs.length) ((xs.length : Int) + 1) ∧ sumI ((mixF xs xs.length).map (·.f5)) ≤ 60000 ∧ sumI ((mixF xs xs.length).map (·.f6)) ≤ 600000 ∧ (∀ x ∈ mixF xs xs.length, 1 ≤ x.f5 ∧ x.f5 ≤ 1000) := by
  have hr := (fine_iff.1 hf).1
  have hm : ∀ x ∈ mixF xs xs.length, ∃ i, ∃ (h : i < xs.length), x = ini i xs[i] := fun x hx => by
    obtain ⟨i, hi, rfl⟩ := List.getElem_of_mem hx
    rw [mix_len] at hi
    exact ⟨i, hi, by rw [mix_at xs _ i hi, if_pos hi]⟩
  have hq : ∀ x ∈ mixF xs xs.length, rightB x = true ∧ x.f0 < (xs.length : Int) + 1 ∧ 1 ≤ x.f5 ∧ x.f5 ≤ 1000 ∧ 0 ≤ x.f6 ∧ x.f6 ≤ 10000 := fun x hx => by
    obtain ⟨i, hi, rfl⟩ := hm x hx
    have hw := right_wf (hr xs[i] (List.getElem_mem hi))
    generalize xs[i] = y at hw
    refine ⟨?_, ?_, ?_, ?_, ?_, ?_⟩
    · unfold rightB inB ini
      simp only [Bool.and_eq_true, decide_eq_true_eq]
      omega
    · show (i : Int) + 1 < _; omega
    · show 1 ≤ 1 + y.f5 % 1000; omega
    · show 1 + y.f5 % 1000 ≤ 1000; omega
    · show 0 ≤ y.f6 % 10000; omega
    · show y.f6 % 10000 ≤ 10000; omega
  have hs : ∀ (l : List S40), (∀ x ∈ l, x.f5 ≤ 1000 ∧ x.f6 ≤ 10000) → sumI (l.map (·.f5)) ≤ 1000 * l.length ∧ sumI (l.map (·.f6)) ≤ 10000 * l.length := by
    intro l
    induction l with
    | nil => intro _; simp [sumI]
    | cons a t ih =>
      intro h
      have h1 := ih (fun x hx => h x (List.mem_cons_of_mem _ hx))
      have h2 := h a (List.mem_cons_self)
      rw [List.map_cons, List.map_cons, sum_cons, sum_cons, List.length_cons]
      omega
  have hss := hs _ (fun x hx => ⟨(hq x hx).2.2.2.1, (hq x hx).2.2.2.2.2⟩)
  rw [mix_len] at hss
  refine ⟨⟨fun x hx => (hq x hx).1, fun x hx => (hq x hx).2.1, ?_⟩, by omega, by omega, fun x hx => ⟨(hq x hx).2.2.1, (hq x hx).2.2.2.1⟩⟩
  rw [List.nodup_iff_pairwise_ne, List.pairwise_iff_getElem]
  intro i j hi hj hij
  rw [List.length_map, mix_len] at hi hj
  rw [List.getElem_map, List.getElem_map, mix_at xs _ i hi, mix_at xs _ j hj, if_pos hi, if_pos hj]
  show (i : Int) + 1 ≠ (j : Int) + 1
  omega
theorem below_low {B B' : Nat} {w w' : World} (h : Below B' w w') (hB : B ≤ B') : Below B w w' := ⟨h.os, h.tape, h.output, h.size, fun k hk => h.block k (by omega)⟩
theorem own_lt' {α : Type} {d : Kd α} {e base : Nat} {w : World} {ok : Nat → Prop} {v : Value} {l : List α} (h : d.R e w base ok v l) {k : Nat} (hk : w.heap.size ≤ k) : some k ≠ v.ownBlock := by
  intro he
  have := ((Kd.R_bound h).1 k he.symm).2.2.1
  omega
/-- a row beside another one that has grown -/
theorem other_row {w w1 : World} {base : Nat} {v v1 u : Value} {l : List S40} (h : k40.R 40 w base (fun k => some k ≠ v.ownBlock) u l) (hg : w.grownBy w1 v.ownBlock) (hat : v1.ownBlock = v.ownBlock ∨ ∃ b, v1.ownBlock = some b ∧ w.heap.size ≤ b) :
    k40.R 40 w1 base (fun k => some k ≠ v1.ownBlock) u l := by
  refine Kd.R_mono (Kd.R_step (Kd.R_bound h) (fun k ho hk => hg.block k hk ho.1)) (fun k hk => ?_)
  rcases hat with h2 | ⟨b, h2, h3⟩
  · rw [h2]; exact hk.1
  · rw [h2]; intro he; injection he with he; have := hk.2.2.1; omega
set_option maxHeartbeats 16000000 in
set_option maxRecDepth 100000 in
theorem ends_true (A : Option Addr) (c : Nat) (l : List S44) (fan mx keep now : Int) (w : World) (hC : k44.C w A l.length l) (hc : l.length ≤ c) (hl : l.length ≤ 1048576) :
    Calls Try.prog 6 #[.slice A l.length c, .agg #[.int .i64 fan, .int .i64 mx, .int .i64 keep], .int .i64 now] w fun e w' => e = .returned (.bool true) ∧ Below w.heap.size w w' := by
  obtain ⟨w0, hw0⟩ : ∃ w0, w0 = w.alloc (.cells #[.int .i64 fan, .int .i64 mx, .int .i64 keep] 33) := ⟨_, rfl⟩
  have b0 : Below w.heap.size w w0 := by rw [hw0]; exact below_alloc (Below.refl _ _) _
  have k0 : w0.heap[w.heap.size]? = some (.cells #[.int .i64 fan, .int .i64 mx, .int .i64 keep] 33 (0, 0)) := by rw [hw0]; exact blk_new _ _
  have hli := list_calls A c l w0 (Kd.C_below hC b0) hc hl
  have HXL : Aside0 ((l.map cv).length = l.length) := ⟨List.length_map ..⟩
  obtain ⟨xs, hxs⟩ : ∃ xs, xs = l.map cv := ⟨_, rfl⟩
  rw [← hxs] at hli HXL
  obtain ⟨n, hn⟩ : ∃ n, n = l.length := ⟨_, rfl⟩
  rw [← hn] at hli HXL hl ⊢
  have HL := Aside0.mk hl
  have HB0 := Aside0.mk b0
  have HK0 := Aside0.mk k0
  obtain ⟨b8, hb8⟩ : ∃ b8, b8 = w.heap.size := ⟨_, rfl⟩
  rw [← hb8] at HK0
  have HLT0 : Aside0 (b8 < w0.heap.size) := ⟨blk_lt HK0.out⟩
  clear hC hc hn hxs b0 k0 hl
  go_enter Try.func6, Try.ntmps6
  go_upto_region 1 with fail
  rw [← hw0, ← hb8]
  clear hw0 hb8
  go_wp2_with fail
  refine hli.mono ?_
  rintro e w1 ⟨v, rfl, hr1, hb1⟩
  obtain ⟨X, cx, rfl, hcx⟩ := OwnRow.slice_ hr1.2
  have HX := Aside0.mk (Kd.R_reads' hr1).2.2
  have HR1 := Aside0.mk hr1
  have HCX := Aside0.mk hcx
  have HB01 := Aside0.mk hb1
  rw [HXL.out]
  rw [HXL.out] at HR1
  have hfi := fine_calls X cx xs w1 HX.out (by rw [HXL.out]; exact HL.out)
  rw [HXL.out] at hfi
  clear hli hr1 hb1 hcx
  obtain ⟨f, hf⟩ : ∃ f, f = fineB xs := ⟨_, rfl⟩
  rw [← hf] at hfi
  go_wp2_with fail
  refine hfi.mono ?_
  rintro e w2 ⟨rfl, hb2⟩
  have HR2 := Aside0.mk (Kd.R_below HR1.out hb2)
  have HB02 := Aside0.mk (below_step HB01.out hb2)
  clear hfi hb2
  cases f with
  | false =>
    clear hf
    have hkn := knows_true w2
    go_wp2_with fail
    refine hkn.mono ?_
    rintro e w3 ⟨rfl, hb3⟩
    have HB3 := Aside0.mk (below_then HB0.out HB0.out.size (below_step HB02.out hb3))
    clear hkn hb3
    go_wp2
    go_ret
    exact ⟨rfl, HB3.out⟩
  | true =>
    have HF := Aside0.mk hf.symm
    clear hf
    by_cases h60 : 60 < n
    · have h60' : decide ((60 : Int) < n) = true := by simp; omega
      have hkn := knows_true w2
      clear h60
      go_wp2_with fail
      refine hkn.mono ?_
      rintro e w3 ⟨rfl, hb3⟩
      have HB3 := Aside0.mk (below_then HB0.out HB0.out.size (below_step HB02.out hb3))
      clear hkn hb3
      go_wp2
      go_ret
      exact ⟨rfl, HB3.out⟩
    · have h60' : decide ((60 : Int) < n) = false := by simp; omega
      have hn60 : n ≤ 60 := by omega
      have HG0 := Aside0.mk (mix_good HF.out (by rw [HXL.out]; exact hn60))
      rw [HXL.out] at HG0
      obtain ⟨zs, hzs⟩ : ∃ zs, zs = mixF xs n := ⟨_, rfl⟩
      rw [← hzs] at HG0
      have HZS := Aside0.mk hzs
      have HZL : Aside0 (zs.length = n) := ⟨by rw [hzs, mix_len, HXL.out]⟩
      clear h60 hzs
      go_wp2_with fail
      go_loopg [8, 9, 10] n (fun g s8 s9 s10 wx => ∃ j : Nat, s10 = .int .i64 (j : Int) ∧ s9 = .int .i64 ((j : Int) + 1) ∧ s8 = .int .i64 (sumI ((zs.take j).map (·.f5))) ∧ Aside0 (j + g = n) ∧ Aside0 (Below w0.heap.size w0 wx) ∧ Aside0 (k40.R 40 wx w0.heap.size (fun _ => True) (.slice X n cx) (mixF xs j)))
      case atStart => exact ⟨0, rfl, rfl, rfl, ⟨Nat.zero_add _⟩, HB02, ⟨by rw [mix_0]; exact HR2.out⟩⟩
      case round =>
      obtain ⟨j, rfl, rfl, rfl, HG, HBJ, HRJ⟩ := hrel
      by_cases hj : (j : Int) < n
      · have hjl : j < xs.length := by have := HXL.out; omega
        obtain ⟨gb, cur, hA', hg1, hg2, hg3, hg4⟩ := R_form HRJ.out (by omega)
        subst hA'
        have hC := (Kd.R_reads' HRJ.out).2.2
        have hjm : j < (mixF xs j).length := by rw [mix_len]; exact hjl
        obtain ⟨c0, c1, c2, c3, c4, c5, c6, c7⟩ := el_own hC j hjm
        have hmx : (mixF xs j)[j] = xs[j] := by rw [mix_at xs j j hjl, if_neg (Nat.lt_irrefl _)]
        rw [hmx] at c0 c1 c2 c3 c4 c5 c6 c7
        have hrw := right_wf ((fine_iff.1 HF.out).1 xs[j] (List.getElem_mem hjl))
        have HR3 : Aside0 (∀ W, W = ((wr.setCell ⟨gb, j * 8 + 5, none⟩ (.int .i64 (1 + xs[j].f5 % 1000))).setCell ⟨gb, j * 8 + 6, none⟩ (.int .i64 (xs[j].f6 % 10000))).setCell ⟨gb, j * 8, none⟩ (.int .i64 ((j : Int) + 1)) → k40.R 40 W w0.heap.size (fun _ => True) (.slice (some ⟨gb, 0, none⟩) n cx) (mixF xs (j + 1)) ∧ Below w0.heap.size w0 W) := ⟨fun W hW => by
          have r1 := R_fld HRJ.out j hjm 5 (by omega) (.int .i64 (1 + xs[j].f5 % 1000)) { xs[j] with f5 := 1 + xs[j].f5 % 1000 } (by rw [hmx]; rfl)
          have r2 := R_fld r1 j (by rw [List.length_set]; exact hjm) 6 (by omega) (.int .i64 (xs[j].f6 % 10000)) { xs[j] with f5 := 1 + xs[j].f5 % 1000, f6 := xs[j].f6 % 10000 } (by rw [List.getElem_set_self]; rfl)
          have r3 := R_fld r2 j (by rw [List.length_set, List.length_set]; exact hjm) 0 (by omega) (.int .i64 ((j : Int) + 1)) (ini j xs[j]) (by rw [List.getElem_set_self]; rfl)
          rw [List.set_set, List.set_set, mix_succ xs j hjl] at r3
          rw [hW]
          refine ⟨r3, ?_⟩
          refine HBJ.out.trans ⟨rfl, rfl, rfl, by simp, fun k hk => ?_⟩
          have hne : k ≠ gb := by omega
          exact (Below.heap_setCell _ _ _ _ hne).trans ((Below.heap_setCell _ _ _ _ hne).trans (Below.heap_setCell _ _ _ _ hne))⟩
        have HTK : Aside0 (sumI ((zs.take (j + 1)).map (·.f5)) = sumI ((zs.take j).map (·.f5)) + (1 + xs[j].f5 % 1000)) := ⟨by
          have hz : j < zs.length := by rw [HZL.out]; omega
          have e : zs[j] = ini j xs[j] := by simp only [HZS.out]; rw [mix_at xs n j hjl, if_pos (by omega)]
          rw [List.take_succ_eq_append_getElem hz, List.map_append, sum_append]
          show _ + sumI [zs[j].f5] = _
          rw [e, sum_cons]; show _ + (1 + xs[j].f5 % 1000 + 0) = _; omega⟩
        have hsb := sum_bd ((zs.take j).map (·.f5)) (fun v hv => by obtain ⟨z, hz, rfl⟩ := List.mem_map.1 hv; have := HG0.out.2.2.2 z (List.mem_of_mem_take hz); omega)
        have hlj : ((zs.take j).length : Int) ≤ 60 := by rw [List.length_take, HZL.out]; omega
        rw [List.length_map] at hsb
        have z5 := blk_frozen hg3 (j * 8 + 5)
        have z6 := blk_frozen hg3 (j * 8 + 6)
        have z0 := blk_frozen hg3 (j * 8)
        obtain ⟨y, hy⟩ : ∃ y, y = xs[j] := ⟨_, rfl⟩
        obtain ⟨a5, ha5⟩ : ∃ a5, a5 = sumI ((zs.take j).map (·.f5)) := ⟨_, rfl⟩
        rw [← hy] at c0 c1 c2 c3 c4 c5 c6 c7 hrw HR3 HTK
        rw [← ha5] at hsb HTK ⊢
        have hcx : n ≤ cx := by have h := HCX.out; rw [HXL.out] at h; exact h
        clear hg1 hg2 hg3 hg4 hC hjm hmx hy ha5 hjl
        go_upto_region 13 with fail
        obtain ⟨W3, hW3⟩ : ∃ W3, W3 = ((wr.setCell ⟨gb, j * 8 + 5, none⟩ (.int .i64 (1 + y.f5 % 1000))).setCell ⟨gb, j * 8 + 6, none⟩ (.int .i64 (y.f6 % 10000))).setCell ⟨gb, j * 8, none⟩ (.int .i64 ((j : Int) + 1)) := ⟨_, rfl⟩
        rw [← hW3]
        have HN3 := Aside0.mk (HR3.out W3 hW3)
        clear hW3 HR3 c0 c1 c2 c3 c4 c5 c6 c7 z0 z5 z6
        go_wp2
        go_roundg (gk - 1)
        case measure => have h1 := HG.out; omega
        case rel => exact ⟨j + 1, by go_num, by go_num, by rw [HTK.out], ⟨by have h1 := HG.out; omega⟩, ⟨HN3.out.2⟩, ⟨HN3.out.1⟩⟩
      have hje : j = n := by have := HG.out; omega
      obtain ⟨TOT, hTOT⟩ : ∃ TOT, TOT = sumI (zs.map (·.f5)) := ⟨_, rfl⟩
      have e8 : sumI ((zs.take j).map (·.f5)) = TOT := by rw [hTOT, hje, List.take_of_length_le (by rw [HZL.out]; exact Nat.le_refl _)]
      rw [e8]
      have HRZ : Aside0 (k40.R 40 wr w0.heap.size (fun _ => True) (.slice X n cx) zs) := ⟨by have h := HRJ.out; rw [hje, ← HZS.out] at h; exact h⟩
      have HTOT := Aside0.mk hTOT
      have e9 : (j : Int) + 1 = (n : Int) + 1 + ((0 : Nat) : Int) := by omega
      rw [e9]
      have hncx : n ≤ cx := by have h := HCX.out; rw [HXL.out] at h; exact h
      have HNCX := Aside0.mk hncx
      obtain ⟨wq, hwq⟩ : ∃ wq, wq = wr := ⟨_, rfl⟩
      rw [← hwq] at HRZ HBJ ⊢
      clear hje hTOT e8 e9 hncx hwq HRJ HG HX HR1 HR2 HB01 HB02
      go_wp2_with fail
      go_loopg [7, 9, 11] (n + 1) (fun g s7 s9 s11 wx => ∃ (t m cX : Nat) (AX : Option Addr) (ys : List S40), s11 = .int .i64 (t : Int) ∧ s9 = .int .i64 ((n : Int) + 1 + (t : Int)) ∧ s7 = .slice AX m cX ∧ Aside0 (t + g = n + 1) ∧ Aside0 (Below w0.heap.size w0 wx) ∧ Aside0 (k40.R 40 wx w0.heap.size (fun _ => True) (.slice AX m cX) ys) ∧ Aside0 (m = ys.length ∧ m ≤ cX) ∧ Aside0 (Ep.Good ys ((n : Int) + 1 + (t : Int))) ∧ Aside0 (sumI (ys.map (·.f5)) = TOT ∧ sumI (ys.map (·.f6)) ≤ 600000) ∧ Aside0 (m + t ≤ n))
      case atStart => exact ⟨0, n, cx, X, zs, rfl, rfl, rfl, ⟨Nat.zero_add _⟩, HBJ, HRZ, ⟨HZL.out.symm, HNCX.out⟩, ⟨by have h := HG0.out.1; simpa using h⟩, ⟨HTOT.out.symm, HG0.out.2.2.1⟩, ⟨Nat.le_refl _⟩⟩
      case round =>
      obtain ⟨t, m, cX, AX, ys, rfl, rfl, rfl, HG, HBJ, HRJ, HM, HGD, HS, HT⟩ := hrel
      have ht : (t : Int) ≤ n := by have := HT.out; omega
      obtain ⟨ga, rfl⟩ : ∃ ga, ga = gk := ⟨_, rfl⟩
      obtain ⟨wa, rfl⟩ : ∃ wa, wa = wr := ⟨_, rfl⟩
      have HMB : Aside0 (m ≤ 60) := ⟨by have := HT.out; omega⟩
      have HKA := Aside0.mk ((HBJ.out.block b8 HLT0.out).trans HK0.out)
      have hkk := HKA.out
      have f0 := blk_cell hkk 0
      have f1 := blk_cell hkk 1
      have f2 := blk_cell hkk 2
      simp at f0 f1 f2
      have hru := rules_calls fan mx keep wa
      clear hkk
      go_wp2_with fail
      refine hru.mono ?_
      rintro e w3 ⟨rfl, hb3⟩
      have HR3 := Aside0.mk (Kd.R_below HRJ.out hb3)
      have HB3 := Aside0.mk (below_step HBJ.out hb3)
      have HC3 := Aside0.mk (Kd.R_reads' HR3.out).2.2
      have hpk := pack_calls AX cX ys fan mx keep now w3 HC3.out (by rw [← HM.out.1]; exact HM.out.2) (by rw [← HM.out.1]; have := HMB.out; omega)
      rw [← HM.out.1] at hpk
      clear hru hb3 f0 f1 f2
      go_wp2_with fail
      refine hpk.mono ?_
      rintro e w4 ⟨v4, s, rfl, hp4, hs4, hr4, hb4⟩
      have HR4 := Aside0.mk (Kd.R_below HR3.out hb4)
      have HB4 := Aside0.mk (below_step HB3.out hb4)
      have HC4 := Aside0.mk (Kd.R_reads' HR4.out).2.2
      rcases packR_is (l := ys) (s := s) (fan := fan) (mx := mx) (keep := keep) with hno | ⟨F, lv, i, hfan, hF2, hF16, hlv, hiF, hok, hpr⟩
      · rw [hno] at hr4
        obtain ⟨A4, c4, rfl, hc4⟩ := OwnRow.slice_ hr4.2
        clear hpk hr4 hp4 hs4 hb4 hno hc4
        simp only [show ([] : List Int).length = 0 from rfl]
        go_wp2_with fail
        go_loopg [13, 14] m (fun g s13 s14 wx => ∃ j : Nat, s14 = .int .i64 (j : Int) ∧ s13 = .int .i64 (sumI ((ys.take j).map (·.f5))) ∧ Aside0 (j + g = m) ∧ Aside0 (Below w4.heap.size w4 wx))
        case atStart => exact ⟨0, rfl, rfl, ⟨Nat.zero_add _⟩, ⟨Below.refl _ _⟩⟩
        case round =>
        obtain ⟨j, rfl, rfl, HGI, HBI⟩ := hrel
        by_cases hj : (j : Int) < m
        · have hjl : j < ys.length := by have := HM.out; omega
          obtain ⟨ad, hA2, c0, c1, c2, c3, c4', c5, c6, c7⟩ := el_at (Kd.C_below HC4.out HBI.out) j hjl
          subst hA2
          have HTK5 : Aside0 (sumI ((ys.take (j + 1)).map (·.f5)) = sumI ((ys.take j).map (·.f5)) + ys[j].f5) := ⟨by rw [List.take_succ_eq_append_getElem hjl, List.map_append]; exact sum_snoc _ _⟩
          have hrj := right_wf (HGD.out.right ys[j] (List.getElem_mem hjl))
          have hs5 := sum_bd ((ys.take j).map (·.f5)) (fun v hv => by obtain ⟨z, hz, rfl⟩ := List.mem_map.1 hv; have := right_wf (HGD.out.right z (List.mem_of_mem_take hz)); omega)
          have hlj : ((ys.take j).length : Int) ≤ 60 := by rw [List.length_take]; have := HM.out; have := HMB.out; omega
          rw [List.length_map] at hs5
          obtain ⟨y, hy⟩ : ∃ y, y = ys[j] := ⟨_, rfl⟩
          obtain ⟨a5, ha5⟩ : ∃ a5, a5 = sumI ((ys.take j).map (·.f5)) := ⟨_, rfl⟩
          rw [← hy] at c0 c1 c2 c3 c4' c5 c6 c7 HTK5 hrj
          rw [← ha5] at hs5 HTK5 ⊢
          have e5 : wrap64 (a5 + y.f5) = a5 + y.f5 := Go.IntWalk.wrap64_in _ (by omega)
          have hm60 : m ≤ 60 := HMB.out
          have HE5 := Aside0.mk e5
          clear hy ha5 hjl hs5 hlj hrj e5
          go_wp2
          go_roundg (gk - 1)
          case measure => have h1 := HGI.out; omega
          case rel => exact ⟨j + 1, by go_num, by rw [HTK5.out, HE5.out], ⟨by have h1 := HGI.out; omega⟩, HBI⟩
        have hje : j = m := by have := HGI.out; omega
        have e5 : sumI ((ys.take j).map (·.f5)) = TOT := by rw [hje, List.take_of_length_le (by rw [HM.out.1]; exact Nat.le_refl _)]; exact HS.out.1
        rw [e5]
        have hkn := knows_true wr
        have HBE := Aside0.mk (below_then HB0.out HB0.out.size (below_step HB4.out HBI.out))
        clear e5 hje
        go_wp2_with fail
        refine hkn.mono ?_
        rintro e w9 ⟨rfl, hb9⟩
        have HBF := Aside0.mk (below_step HBE.out hb9)
        clear hkn hb9
        go_wp2
        go_ret
        exact ⟨rfl, HBF.out⟩
      · have hturn := turn_ok (xs := ys) (mx := mx) (keep := keep) (now := now) (next := (n : Int) + 1 + (t : Int)) (F := F) (lv := lv) (i := i) HGD.out (by omega) (by rw [HS.out.1, HTOT.out]; have := HG0.out.2.1; omega) (by have := HS.out.2; omega) hp4 hiF hF2 hlv hok
        have hin : ∀ v ∈ (runAt F s i).map (·.f0), (Lit.int .i64 v).wf = true := fun v hv => by
          obtain ⟨z, hz, rfl⟩ := List.mem_map.1 hv
          have h1 := (List.mem_filter.1 (hp4.mem_iff.1 ((run_sub F i s).subset hz))).1
          have := right_wf (HGD.out.right z h1)
          exact wf64 (by omega) (by omega)
        have hpl : ((runAt F s i).map (·.f0)).length = F := by rw [List.length_map, run_len hiF]
        rw [hpr] at hr4
        obtain ⟨p, hp⟩ : ∃ p, p = (runAt F s i).map (·.f0) := ⟨_, rfl⟩
        rw [← hp] at hturn hin hpl hr4
        have HTU := Aside0.mk hturn
        have HIN := Aside0.mk hin
        have HPL := Aside0.mk hpl
        have HFF : Aside0 (2 ≤ F ∧ F ≤ 16 ∧ fan = (F : Int)) := ⟨hF2, hF16, hfan⟩
        obtain ⟨A4, c4, rfl, hc4⟩ := OwnRow.slice_ hr4.2
        have HI4 := Aside0.mk (Kd.R_reads' hr4).2.2
        have HO4 : Aside0 (∀ ad, A4 = some ad → ad.block < w4.heap.size) := ⟨fun ad e => by subst e; exact ((Kd.R_bound hr4).1 ad.block rfl).2.2.1⟩
        rw [hpl]
        rw [hpl] at HI4
        have z0 : ((F : Int) == 0) = false := beq_eq_false_iff_ne.mpr (by omega)
        clear hpk hr4 hp4 hs4 hb4 hc4 hturn hin hpl hp hpr hok hiF hlv hF2 hF16 hfan
        obtain ⟨mb, hmb⟩ : ∃ mb, mb = w4.heap.size := ⟨_, rfl⟩
        have hmm := @run_makeMap Try.prog
        have hmade := El.M.made (E := Eb) w4
        obtain ⟨w5, hw5⟩ : ∃ w5, w5 = w4.alloc (.map #[] 0) := ⟨_, rfl⟩
        rw [← hw5, ← hmb] at hmade
        have hb5 : Below w4.heap.size w4 w5 := by rw [hw5]; exact below_alloc (Below.refl _ _) _
        have HM5 := Aside0.mk hmade
        have HI5 := Aside0.mk (Kd.C_below HI4.out hb5)
        have HR5 := Aside0.mk (Kd.R_below (Kd.R_elderB HR4.out mb (by rw [hmb]; exact Nat.le_refl _)) hb5)
        have HB5 := Aside0.mk (below_step HB4.out hb5)
        have HMB5 : Aside0 (w4.heap.size = mb ∧ w0.heap.size ≤ mb) := ⟨by rw [hmb]; exact ⟨rfl, HB4.out.size⟩⟩
        go_upto_region 26 with fail
        rw [← hw5, ← hmb]
        clear hmm hw5 hmb hmade hb5
        go_wp2_with fail
        go_loopg [16] F (fun g s16 wx => ∃ j : Nat, s16 = .int .i64 (j : Int) ∧ Aside0 (j + g = F) ∧ Aside0 (Fr (fun k => k = mb) w5 wx) ∧ Aside0 (Eb.M wx mb j (fun y => decide (y ∈ p.take j))))
        case atStart => exact ⟨0, rfl, ⟨Nat.zero_add _⟩, ⟨Fr.refl _ _⟩, ⟨map_start HM5.out⟩⟩
        case round =>
        obtain ⟨j, rfl, HGI, HFR, HMJ⟩ := hrel
        by_cases hj : (j : Int) < F
        · have hjl : j < p.length := by have := HPL.out; omega
          have hcr := HFR.out.C HI5.out (fun ad e hp => by have h1 := HO4.out ad e; have h2 := HMB5.out; omega)
          obtain ⟨ad, hA, hcell⟩ := int_at hcr j hjl
          subst hA
          obtain ⟨w6, hrun6, hm6, ht6⟩ := HMJ.out.store (HIN.out _ (List.getElem_mem hjl)) (by simp only [maxLen]; have := HFF.out; omega) true
          have hup : (Instr.mapUpdate 38 (.map (some mb)) (.int .i64 p[j]) (.bool true)).run Try.prog wr = .ok () w6 := hrun6
          rw [mem_snoc_upd p j hjl] at hm6
          have HM6 := Aside0.mk hm6
          have HFR6 := Aside0.mk (HFR.out.trans (turned_fr (S := fun k => k = mb) ht6 rfl))
          obtain ⟨y, hy⟩ : ∃ y, y = p[j] := ⟨_, rfl⟩
          rw [← hy] at hcell hup
          have hbd : F ≤ 16 := HFF.out.2.1
          clear hcr hjl hrun6 hm6 ht6 hy
          go_wp2
          go_roundg (gk - 1)
          case measure => have h1 := HGI.out; omega
          case rel => exact ⟨j + 1, by go_num, ⟨by have h1 := HGI.out; omega⟩, HFR6, HM6⟩
        have hje : j = F := by have := HGI.out; omega
        have HML : Aside0 (Eb.M wr mb F (fun y => decide (y ∈ p))) := ⟨by have h := HMJ.out; rw [hje, List.take_of_length_le (by rw [HPL.out]; exact Nat.le_refl _)] at h; exact h⟩
        obtain ⟨wS, hwS⟩ : ∃ wS, wS = wr := ⟨_, rfl⟩
        rw [← hwS] at HFR HML ⊢
        have HBS : Aside0 (Below w0.heap.size w0 wS) := ⟨HB5.out.trans (HFR.out.below HB5.out.size (fun k hk => by have := HMB5.out; omega))⟩
        have HRS : Aside0 (k40.R 40 wS w0.heap.size (fun _ => True) (.slice AX m cX) ys) := ⟨Kd.R_mono (Kd.R_step HR5.out (fun k hk hl => HFR.out.block k hl hk.2)) (fun _ _ => trivial)⟩
        have HCS := Aside0.mk (Kd.R_reads' HRS.out).2.2
        clear hje hwS HMJ HGI HFR HI4 HI5 HO4 HR4 HR5 HB4 HB5 HC3 HC4 HR3 HB3 HRJ HM5 HMB5
        go_wp2_with fail
        go_loopg [17, 18, 19] m (fun g s17 s18 s19 wx => ∃ (j : Nat) (v17 v18 : Value), s19 = .int .i64 (j : Int) ∧ s17 = v17 ∧ s18 = v18 ∧ Aside0 (j + g = m) ∧ Aside0 (Below wS.heap.size wS wx) ∧ Aside0 (k40.R 40 wx wS.heap.size (fun k => some k ≠ v18.ownBlock) v17 ((ys.take j).filter (inP p))) ∧ Aside0 (k40.R 40 wx wS.heap.size (fun k => some k ≠ v17.ownBlock) v18 ((ys.take j).filter (fun x => !inP p x))))
        case atStart => exact ⟨0, _, _, rfl, rfl, rfl, ⟨Nat.zero_add _⟩, ⟨Below.refl _ _⟩, ⟨Kd.R_nil _ _ _ _ _⟩, ⟨Kd.R_nil _ _ _ _ _⟩⟩
        case round =>
        obtain ⟨j, v17, v18, rfl, rfl, rfl, HGI, HBI, HR17, HR18⟩ := hrel
        by_cases hj : (j : Int) < m
        · have hjl : j < ys.length := by have := HM.out; omega
          obtain ⟨ad, hA2, c0, c1, c2, c3, c4', c5, c6, c7⟩ := el_at (Kd.C_below HCS.out HBI.out) j hjl
          subst hA2
          have hrj := right_wf (HGD.out.right ys[j] (List.getElem_mem hjl))
          have hwf : (Lit.int .i64 ys[j].f0).wf = true := wf64 (by omega) (by omega)
          have hlk := (HML.out.below HBI.out).look hwf
          have HTK : Aside0 (ys.take (j + 1) = ys.take j ++ [ys[j]]) := ⟨List.take_succ_eq_append_getElem hjl⟩
          obtain ⟨y, hy⟩ : ∃ y, y = ys[j] := ⟨_, rfl⟩
          rw [← hy] at c0 c1 c2 c3 c4' c5 c6 c7 hlk HTK
          have hm60 : m ≤ 60 := HMB.out
          clear hy hjl hrj hwf
          by_cases hy : y.f0 ∈ p
          · have hl : (Instr.lookup 38 (.map (some mb)) (.int .i64 y.f0) false).run Try.prog wr = .ok (.bool true) wr := by rw [decide_eq_true hy] at hlk; exact hlk
            have HA : Aside0 ((ys.take (j + 1)).filter (inP p) = (ys.take j).filter (inP p) ++ [y]) := ⟨by rw [HTK.out, List.filter_append]; simp [List.filter_cons, inP, hy]⟩
            have HB : Aside0 ((ys.take (j + 1)).filter (fun x => !inP p x) = (ys.take j).filter (fun x => !inP p x)) := ⟨by rw [HTK.out, List.filter_append]; simp [List.filter_cons, inP, hy]⟩
            clear hlk hy
            go_wp2_with (first | ((with_reducible refine gate_builtin (b := .append) (xs := #[.tmp 133, .tmp 138]) rfl ?_); at_builtin; refine Kd.R_append k40 (w0 := wS) wS.heap.size rfl (.tmp 133) (.tmp 138) 23 40 (.agg #[.int .i64 0, .int .i64 0, .int .i64 0, .int .i64 0, .int .i64 0, .int .i64 0, .int .i64 0, .int .i64 0]) 64 rfl Try.underlying23 Pc.info40 rfl (by decide) (by omega) u17 ((ys.take j).filter (inP p)) y [.int .i64 y.f0, .int .i64 y.f1, .int .i64 y.f2, .int .i64 y.f3, .int .i64 y.f4, .int .i64 y.f5, .int .i64 y.f6, .int .i64 y.f7] (fun k => some k ≠ u18.ownBlock) (fun _ => False) rfl rfl ?aP138 (fun _ hk => hk.elim) ?aF138 ?aO138 ?aB138 ?aS138 ?aL138 ?_; (case aP138 => exact k40_mkM _ _ _ y); (case aB138 => exact HBI.out); (case aF138 => exact (fun k hk => own_lt' HR18.out hk)); (case aO138 => exact HR17.out); (case aS138 => exact (HBI.out).size); (case aL138 => have h1 := List.length_filter_le (inP p) (ys.take j); have h2 : (ys.take j).length ≤ j := List.length_take_le _ _; have h3 := HGI.out; have h4 := HMB.out; omega); intro v1 w6 ho hb hg hat; have HON := Aside0.mk ho; have HBN := Aside0.mk hb; have HOT := Aside0.mk (other_row HR18.out hg hat); clear ho hb hg hat))
            go_roundg (gk - 1)
            case measure => have h1 := HGI.out; omega
            case rel => exact ⟨j + 1, _, _, by go_num, rfl, rfl, ⟨by have h1 := HGI.out; omega⟩, HBN, ⟨by rw [HA.out]; exact HON.out⟩, ⟨by rw [HB.out]; exact HOT.out⟩⟩
          · have hl : (Instr.lookup 38 (.map (some mb)) (.int .i64 y.f0) false).run Try.prog wr = .ok (.bool false) wr := by rw [decide_eq_false hy] at hlk; exact hlk
            have HA : Aside0 ((ys.take (j + 1)).filter (fun x => !inP p x) = (ys.take j).filter (fun x => !inP p x) ++ [y]) := ⟨by rw [HTK.out, List.filter_append]; simp [List.filter_cons, inP, hy]⟩
            have HB : Aside0 ((ys.take (j + 1)).filter (inP p) = (ys.take j).filter (inP p)) := ⟨by rw [HTK.out, List.filter_append]; simp [List.filter_cons, inP, hy]⟩
            clear hlk hy
            go_wp2_with (first | ((with_reducible refine gate_builtin (b := .append) (xs := #[.tmp 140, .tmp 145]) rfl ?_); at_builtin; refine Kd.R_append k40 (w0 := wS) wS.heap.size rfl (.tmp 140) (.tmp 145) 23 40 (.agg #[.int .i64 0, .int .i64 0, .int .i64 0, .int .i64 0, .int .i64 0, .int .i64 0, .int .i64 0, .int .i64 0]) 64 rfl Try.underlying23 Pc.info40 rfl (by decide) (by omega) u18 ((ys.take j).filter (fun x => !inP p x)) y [.int .i64 y.f0, .int .i64 y.f1, .int .i64 y.f2, .int .i64 y.f3, .int .i64 y.f4, .int .i64 y.f5, .int .i64 y.f6, .int .i64 y.f7] (fun k => some k ≠ u17.ownBlock) (fun _ => False) rfl rfl ?aP145 (fun _ hk => hk.elim) ?aF145 ?aO145 ?aB145 ?aS145 ?aL145 ?_; (case aP145 => exact k40_mkM _ _ _ y); (case aB145 => exact HBI.out); (case aF145 => exact (fun k hk => own_lt' HR17.out hk)); (case aO145 => exact HR18.out); (case aS145 => exact (HBI.out).size); (case aL145 => have h1 := List.length_filter_le (fun x => !inP p x) (ys.take j); have h2 : (ys.take j).length ≤ j := List.length_take_le _ _; have h3 := HGI.out; have h4 := HMB.out; omega); intro v1 w6 ho hb hg hat; have HON := Aside0.mk ho; have HBN := Aside0.mk hb; have HOT := Aside0.mk (other_row HR17.out hg hat); clear ho hb hg hat))
            go_roundg (gk - 1)
            case measure => have h1 := HGI.out; omega
            case rel => exact ⟨j + 1, _, _, by go_num, rfl, rfl, ⟨by have h1 := HGI.out; omega⟩, HBN, ⟨by rw [HB.out]; exact HOT.out⟩, ⟨by rw [HA.out]; exact HON.out⟩⟩
        have hje : j = m := by have := HGI.out; omega
        have htk : ys.take j = ys := by rw [hje, List.take_of_length_le (by rw [HM.out.1]; exact Nat.le_refl _)]
        rw [htk] at HR17 HR18
        obtain ⟨A17, c17, e17, hc17⟩ := OwnRow.slice_ HR17.out.2
        have HC17 := Aside0.mk (Kd.R_reads' (e17 ▸ HR17.out)).2.2
        have HX17 := Aside0.mk hc17
        rw [HTU.out.1] at e17
        obtain ⟨XX, hXX⟩ : ∃ XX, XX = ys.filter (inP p) := ⟨_, rfl⟩
        obtain ⟨YY, hYY⟩ : ∃ YY, YY = ys.filter (fun x => !inP p x) := ⟨_, rfl⟩
        rw [← hXX] at HC17 HX17
        rw [← hYY] at HR18
        have hTV := HTU.out
        rw [← hXX, ← hYY] at hTV
        obtain ⟨hll, q, hq, hgood, hq5, hq6, hqn⟩ := hTV
        have HGOOD := Aside0.mk hgood
        have HSUM := Aside0.mk (And.intro hq5 (And.intro hq6 hqn))
        have HLL := Aside0.mk hll
        subst e17
        have hjo := joined_calls A17 c17 XX ((n : Int) + 1 + (t : Int)) wr HC17.out HX17.out (by rw [hll]; have := HFF.out; omega)
        rw [hll] at hjo
        simp only [hq] at hjo
        have HBR := Aside0.mk (HBS.out.trans (below_low HBI.out HBS.out.size))
        have HR18L : Aside0 (k40.R 40 wr w0.heap.size (fun _ => True) u18 YY) := ⟨Kd.R_mono (Kd.R_lower HR18.out HBS.out.size) (fun _ _ => trivial)⟩
        clear hje htk hXX hYY HR17 HR18 hc17 hll hq hgood hq5 hq6 hqn HTU
        go_wp2_with fail
        refine hjo.mono ?_
        rintro e w7 ⟨rfl, hb7⟩
        have HR7 := Aside0.mk (Kd.R_below HR18L.out hb7)
        have HB7 := Aside0.mk (below_step HBR.out hb7)
        have HAG : Aside0 (ag q = .agg #[.int .i64 q.f0, .int .i64 q.f1, .int .i64 q.f2, .int .i64 q.f3, .int .i64 q.f4, .int .i64 q.f5, .int .i64 q.f6, .int .i64 q.f7]) := ⟨rfl⟩
        clear hjo hb7
        go_upto_region 39 with (first | ((with_reducible refine gate_store (t := 40) (p := 20) rfl ?_); refine put8 q rfl rfl rfl rfl rfl (blk_new _ _) rfl ?_; intro w8 hk8 hf8 hb8 hs8; have HK8 := Aside0.mk hk8; have HB78 := Aside0.mk (hb8 w7.heap.size w7 (Nat.le_refl _) (below_alloc (Below.refl _ _) _)); clear hk8 hf8 hb8 hs8))
        obtain ⟨b20, hb20⟩ : ∃ b20, b20 = w7.heap.size := ⟨_, rfl⟩
        rw [← hb20] at HK8 ⊢
        have HR8 := Aside0.mk (Kd.R_below HR7.out HB78.out)
        have HB8 := Aside0.mk (below_step HB7.out HB78.out)
        have hk8 := HK8.out
        have d0 := blk_cell hk8 0
        have d1 := blk_cell hk8 1
        have d2 := blk_cell hk8 2
        have d3 := blk_cell hk8 3
        have d4 := blk_cell hk8 4
        have d5 := blk_cell hk8 5
        have d6 := blk_cell hk8 6
        have d7 := blk_cell hk8 7
        simp [cells8] at d0 d1 d2 d3 d4 d5 d6 d7
        have hkb := (HB8.out.block b8 HLT0.out).trans HK0.out
        have f0 := blk_cell hkb 0
        simp at f0
        have tf : ((F : Int) != fan) = false := by rw [HFF.out.2.2]; simp
        clear hk8 hkb hb20
        go_wp2_with (first | ((with_reducible refine gate_builtin (b := .append) (xs := #[.tmp 171, .tmp 173]) rfl ?_); at_builtin; refine Kd.R_append k40 (w0 := w0) w0.heap.size rfl (.tmp 171) (.tmp 173) 23 40 (.agg #[.int .i64 0, .int .i64 0, .int .i64 0, .int .i64 0, .int .i64 0, .int .i64 0, .int .i64 0, .int .i64 0]) 64 rfl Try.underlying23 Pc.info40 rfl (by decide) (by omega) u18 YY q [.int .i64 q.f0, .int .i64 q.f1, .int .i64 q.f2, .int .i64 q.f3, .int .i64 q.f4, .int .i64 q.f5, .int .i64 q.f6, .int .i64 q.f7] (fun _ => True) (fun _ => False) rfl rfl ?aP173 (fun _ hk => hk.elim) ?aF173 ?aO173 ?aB173 ?aS173 ?aL173 ?_; (case aP173 => exact k40_mkM _ _ _ q); (case aB173 => exact HB8.out); (case aF173 => exact (fun _ _ => trivial)); (case aO173 => exact HR8.out); (case aS173 => exact (HB8.out).size); (case aL173 => have h1 := HSUM.out.2.2; rw [List.length_append, List.length_singleton] at h1; have h2 := HM.out.1; have h3 := HMB.out; have h4 := HFF.out.1; omega); intro v1 w6 ho hb hg hat; obtain ⟨A9, c9, rfl, hc9⟩ := OwnRow.slice_ ho.2; have HON := Aside0.mk ho; have HBN := Aside0.mk hb; have HX9 := Aside0.mk hc9; clear hc9; clear ho hb hg hat))
        go_roundg (ga - 1)
        case measure => have h1 := HG.out; have h2 := HT.out; omega
        case rel =>
          have e1 : (n : Int) + 1 + ((t + 1 : Nat) : Int) = (n : Int) + 1 + (t : Int) + 1 := by omega
          refine ⟨t + 1, (YY ++ [q]).length, c9, A9, YY ++ [q], by go_num, by rw [e1], by rw [List.length_append, List.length_singleton], ⟨by have h1 := HG.out; have h2 := HT.out; omega⟩, HBN, HON, ⟨rfl, HX9.out⟩, ⟨by rw [e1]; exact HGOOD.out⟩, ⟨HSUM.out.1.trans HS.out.1, by rw [HSUM.out.2.1]; exact HS.out.2⟩, ⟨by have h1 := HSUM.out.2.2; have h2 := HT.out; have h3 := HM.out.1; have h4 := HFF.out.1; omega⟩⟩
theorem ends_row (A : Option Addr) (c : Nat) (l : List S44) (fan mx keep now : Int) (w : World) (hC : k44.C w A l.length l) (hc : l.length ≤ c) (hl : l.length ≤ 1048576)
    (_ : (Lit.int .i64 now).wf = true) :
    Calls Try.prog 6 #[.slice A l.length c, .agg #[.int .i64 fan, .int .i64 mx, .int .i64 keep], .int .i64 now] w fun e w' => e = .returned (.bool true) ∧ Below w.heap.size w w' := ends_true A c l fan mx keep now w hC hc hl
end Go.Proofs.Ytdohacnjngkkiaa.En
