/- slices.DeleteFunc of blocks. -/
import Derived.Test.YtdohacnjngkkiaaPc
namespace Go.Proofs.Ytdohacnjngkkiaa.Pd
set_option linter.unusedVariables false
set_option linter.unusedSimpArgs false
open Go.Shelf Go.RowKit Go.Proofs.YtdohacnjngkkiaaW.PrintWords Go.Proofs.YtdohacnjngkkiaaW.PrintLast Go.Proofs.YtdohacnjngkkiaaW.PrintMore Go.Proofs.Ytdohacnjngkkiaa.Fr Go.Proofs.Ytdohacnjngkkiaa.Mv Go.Proofs.Ytdohacnjngkkiaa.A Go.Proofs.Ytdohacnjngkkiaa.Pm Go.Proofs.Ytdohacnjngkkiaa.Pf Go.Proofs.Ytdohacnjngkkiaa.Pi Go.Proofs.Ytdohacnjngkkiaa.Pc
theorem R_form {w : World} {base n c : Nat} {ok : Nat → Prop} {A : Option Addr} {xs : List S40} (h : k40.R 40 w base ok (.slice A n c) xs) (hn : 0 < n) :
    ∃ gb cur, A = some ⟨gb, 0, none⟩ ∧ base ≤ gb ∧ gb < w.heap.size ∧ w.heap[gb]? = some (.cells cur 40 (0, 0)) ∧ cur.size = c * 8 := by
  obtain ⟨h1, _, _⟩ := Kd.R_reads' h
  obtain ⟨_, inner, ho, _⟩ := h
  rcases ho.2 with ⟨hv, _⟩ | ⟨g, cap, cur, hv, hb, hg, hnc, hcm, hcs, ht⟩
  · injection hv with _ hv2 _
    omega
  · injection hv with hv1 hv2 hv3
    subst hv3
    exact ⟨g, cur, hv1, hb, blk_lt hg, hg, hcs⟩
theorem setCells_cur {g : Nat} {e : TypeId} : ∀ (vs : List Value) (o : Nat) (w : World) (cur : Array Value), w.heap[g]? = some (.cells cur e (0, 0)) → ∃ cur2, (w.setCells g o vs).heap[g]? = some (.cells cur2 e (0, 0)) ∧ cur2.size = cur.size ∧ ∀ i, i < o → cur2[i]? = cur[i]?
  | [], o, w, cur, h => ⟨cur, h, rfl, fun _ _ => rfl⟩
  | v :: vs, o, w, cur, h => by
    obtain ⟨cur2, h1, h2, h3⟩ := setCells_cur vs (o + 1) (w.setCell ⟨g, o, none⟩ v) _ (blk_put h o v rfl)
    refine ⟨cur2, h1, by rw [h2]; simp, fun i hi => ?_⟩
    rw [h3 i (by omega), Array.getElem?_setIfInBounds, if_neg (by omega)]
/-- cells behind the row's elements are written -/
theorem R_tail {w : World} {base m cap gb o : Nat} {ok : Nat → Prop} {xs : List S40} {seg : List Value} (h : k40.R 40 w base ok (.slice (some ⟨gb, 0, none⟩) m cap) xs) (ho : m * 8 ≤ o) (hs : o + seg.length ≤ cap * 8) :
    k40.R 40 (w.setCells gb o seg) base ok (.slice (some ⟨gb, 0, none⟩) m cap) xs := by
  obtain ⟨hm, _, _⟩ := Kd.R_reads' h
  subst hm
  obtain ⟨h0, inner, hrow, hr⟩ := h
  refine ⟨h0, inner, ⟨hrow.1, ?_⟩, hr.imp_ (fun _ _ hp => k40.M_move (fun k hk => setCells_far seg o k (fun e => hk.2 (by rw [e]; rfl))) hp)⟩
  rcases hrow.2 with hv | ⟨g, cap', cur, hv, hb, hg, hnc, hcm, hcs, ht⟩
  · exact .inl hv
  · injection hv with hv1 hv2 hv3
    injection hv1 with hv1
    injection hv1 with hv1 _ _
    subst hv1 hv3
    obtain ⟨cur2, hc2, hsz2, hin2⟩ := setCells_cur seg o w cur hg
    refine .inr ⟨gb, cap, cur2, rfl, hb, hc2, hnc, hcm, by rw [hsz2]; exact hcs, ?_⟩
    rw [← ht]
    apply List.ext_getElem?
    intro i
    rw [List.getElem?_take, List.getElem?_take]
    split
    · rename_i hi
      have hsz : k40.sz = 8 := rfl
      rw [hsz] at hi
      have := hin2 i (by omega)
      simpa using this
    · rfl
theorem run_clear8 (w : World) (ty : TypeId) (b o n c : Nat) (hn : 0 < n) (hc : ∀ j, j < n * 8 → (w.cell? ⟨b, o + j, none⟩).isSome = true) (hf : ∀ j, j < n * 8 → w.frozen? ⟨b, o + j, none⟩ = false) :
    (Builtin.clear_ #[23] ty #[.slice (some ⟨b, o, none⟩) n c]).run Try.prog w = .ok (.tuple #[]) (w.setCells b o (List.replicate (n * 8) (.int .i64 0))) := by
  have hv : ∀ w : World, (zeroValue 40).run Try.prog w = .ok (.agg #[.int .i64 0, .int .i64 0, .int .i64 0, .int .i64 0, .int .i64 0, .int .i64 0, .int .i64 0, .int .i64 0]) w := fun w => by kernel_rfl
  have hz : (Value.agg #[.int .i64 0, .int .i64 0, .int .i64 0, .int .i64 0, .int .i64 0, .int .i64 0, .int .i64 0, .int .i64 0]).cells = #[.int .i64 0, .int .i64 0, .int .i64 0, .int .i64 0, .int .i64 0, .int .i64 0, .int .i64 0, .int .i64 0] := rfl
  have hzc : (Builtin.zeroCells (Value.agg #[.int .i64 0, .int .i64 0, .int .i64 0, .int .i64 0, .int .i64 0, .int .i64 0, .int .i64 0, .int .i64 0]).cells n).toList = List.replicate (n * 8) (.int .i64 0) := by
    rw [hz]
    unfold Builtin.zeroCells
    apply List.ext_getElem
    · simp
    · intro i h1 h2
      have h8 : i % 8 < 8 := Nat.mod_lt _ (by omega)
      have : ∀ j, j < 8 → (#[Value.int .i64 0, .int .i64 0, .int .i64 0, .int .i64 0, .int .i64 0, .int .i64 0, .int .i64 0, .int .i64 0] : Array Value)[j]! = .int .i64 0 := by
        intro j hj
        match j, hj with
        | 0, _ => rfl
        | 1, _ => rfl
        | 2, _ => rfl
        | 3, _ => rfl
        | 4, _ => rfl
        | 5, _ => rfl
        | 6, _ => rfl
        | 7, _ => rfl
      simpa using this (i % 8) h8
  have hst := run_storeCells_cells (P := Try.prog) b o (List.replicate (n * 8) (.int .i64 0)) 0 w (by simpa using hc) (by simpa using hf) (by intro v hv'; rw [List.eq_of_mem_replicate hv']; rfl)
  simp only [Nat.add_zero] at hst
  obtain ⟨m, rfl⟩ : ∃ m, n = m + 1 := ⟨n - 1, by omega⟩
  simp [Builtin.clear_, run_underlying Try.underlying23, hv, hzc, hst]
/-- the cells of an element of a row of one's own -/
theorem el_own {w : World} {gb n : Nat} {l : List S40} (h : k40.C w (some ⟨gb, 0, none⟩) n l) (i : Nat) (hi : i < l.length) :
    w.cell? ⟨gb, i * 8, none⟩ = some (.int .i64 l[i].f0) ∧ w.cell? ⟨gb, i * 8 + 1, none⟩ = some (.int .i64 l[i].f1) ∧ w.cell? ⟨gb, i * 8 + 2, none⟩ = some (.int .i64 l[i].f2) ∧ w.cell? ⟨gb, i * 8 + 3, none⟩ = some (.int .i64 l[i].f3) ∧
    w.cell? ⟨gb, i * 8 + 4, none⟩ = some (.int .i64 l[i].f4) ∧ w.cell? ⟨gb, i * 8 + 5, none⟩ = some (.int .i64 l[i].f5) ∧ w.cell? ⟨gb, i * 8 + 6, none⟩ = some (.int .i64 l[i].f6) ∧ w.cell? ⟨gb, i * 8 + 7, none⟩ = some (.int .i64 l[i].f7) := by
  obtain ⟨ad, hA, hc⟩ := el_at h i hi
  injection hA with hA
  subst hA
  have e : (⟨gb, 0, none⟩ : Addr).add (i * 8) = ⟨gb, i * 8, none⟩ := by unfold Addr.add; split <;> simp_all
  rw [e] at hc
  exact hc
theorem seg_M {w : World} {base : Nat} {ok : Nat → Prop} {x : S40} {c : List Value} (hc : c.length = k40.sz) : k40.M w base ok x (c.take 0 ++ [.int .i64 x.f0, .int .i64 x.f1, .int .i64 x.f2, .int .i64 x.f3, .int .i64 x.f4, .int .i64 x.f5, .int .i64 x.f6, .int .i64 x.f7] ++ c.drop (0 + 8)) := by
  have e : c.drop (0 + 8) = [] := List.drop_eq_nil_of_le (by rw [hc]; exact Nat.le_refl _)
  rw [e]
  simpa using k40_mkM w base ok x
theorem seg_one (x : S40) : ∀ q ∈ [Value.int .i64 x.f0, .int .i64 x.f1, .int .i64 x.f2, .int .i64 x.f3, .int .i64 x.f4, .int .i64 x.f5, .int .i64 x.f6, .int .i64 x.f7], q.oneCell' = true := by
  intro q hq
  simp only [List.mem_cons, List.not_mem_nil, or_false] at hq
  rcases hq with rfl | rfl | rfl | rfl | rfl | rfl | rfl | rfl <;> rfl
theorem info40s : (Try.prog.info? 40).map (·.size) = some 8 := by kernel_rfl
theorem del_no (A : Option Addr) (c : Nat) (l : List S40) (g : Nat) (lb : Array Value) (p : S40 → Bool) (B : Nat) (w0 w : World) (eg : ∀ args w, (callFunc g args).run Try.prog w = .ok (.enter g args) w) (hp : AsksB B g lb p w0) (hb0 : Below B w0 w) (hB : B ≤ w.heap.size) (hC : k40.C w A l.length l) (hl : l.length ≤ 1048576)
    (hno : ∀ x ∈ l, p x = false) :
    Calls Try.prog 40 #[.slice A l.length c, .func (.func g) #[] lb] w fun e w' => e = .returned (.slice A l.length c) ∧ Below w.heap.size w w' := by
  have hi := index_no A c l g lb p B w0 w eg hp hb0 hB hC hl hno
  obtain ⟨n, hn⟩ : ∃ n, n = l.length := ⟨_, rfl⟩
  rw [← hn] at hi ⊢
  clear hp hb0 hB hC hl hno hn
  go_enter Try.func40, Try.ntmps40
  go_wp2_with fail
  refine hi.mono ?_
  rintro e w1 ⟨rfl, hb⟩
  have HB := Aside0.mk hb
  clear hi hb
  go_wp2
  go_ret
  exact ⟨rfl, HB.out⟩
theorem set_take {l : List S40} (i : Nat) (x : S40) (h : i < l.length) : (l.set i x).take (i + 1) = l.take i ++ [x] := by
  rw [List.take_succ_eq_append_getElem (by simpa using h), List.take_set, List.set_eq_of_length_le (by rw [List.length_take]; omega)]
  simp
theorem set_drop {l : List S40} {i j : Nat} (x : S40) (h : i < j) : (l.set i x).drop j = l.drop j := by
  rw [List.drop_set_of_lt h]
set_option maxHeartbeats 8000000 in
theorem del_yes (gb cap : Nat) (X Y : List S40) (z : S40) (g : Nat) (lb : Array Value) (p : S40 → Bool) (base : Nat) (w0 w : World) (eg : ∀ args w, (callFunc g args).run Try.prog w = .ok (.enter g args) w) (hp : AsksB base g lb p w0) (hb0 : Below base w0 w) (hB : base ≤ w.heap.size)
    (hR : k40.R 40 w base (fun _ => True) (.slice (some ⟨gb, 0, none⟩) (X ++ z :: Y).length cap) (X ++ z :: Y)) (hl : (X ++ z :: Y).length ≤ 1048576) (hno : ∀ x ∈ X, p x = false) (hz : p z = true) :
    Calls Try.prog 40 #[.slice (some ⟨gb, 0, none⟩) (X ++ z :: Y).length cap, .func (.func g) #[] lb] w fun e w' => ∃ m, e = .returned (.slice (some ⟨gb, 0, none⟩) m cap) ∧
      k40.R 40 w' base (fun _ => True) (.slice (some ⟨gb, 0, none⟩) m cap) ((X ++ z :: Y).filter (fun x => !p x)) ∧ Below base w0 w' := by
  obtain ⟨_, hncap, hC⟩ := Kd.R_reads' hR
  have hi := index_yes (some ⟨gb, 0, none⟩) cap X Y z g lb p base w0 w eg hp hb0 hB hC hl hno hz
  obtain ⟨l, hls⟩ : ∃ l, l = X ++ z :: Y := ⟨_, rfl⟩
  have hX1 : (l.take (X.length + 1)).filter (fun x => !p x) = X := by
    have e : l.take (X.length + 1) = X ++ [z] := by rw [hls, show X ++ z :: Y = (X ++ [z]) ++ Y from by simp, List.take_left' (by simp)]
    rw [e, List.filter_append]
    simp [hz]
    intro x hx
    exact hno x hx
  have hXl : X.length + 1 ≤ l.length := by rw [hls]; simp
  have hXt : l.take X.length = X := by rw [hls]; simp
  have hdel : ∀ j, X.length + 1 ≤ j → ((l.take j).filter (fun x => !p x)).length < j := fun j hj => by
    have h1 : z ∈ l.take j := by
      have : l.take (X.length + 1) = X ++ [z] := by rw [hls, show X ++ z :: Y = (X ++ [z]) ++ Y from by simp, List.take_left' (by simp)]
      exact List.take_subset_take_left l hj (by rw [this]; simp)
    have h2 := (List.length_filter_lt_length_iff_exists (p := fun x => !p x) (l := l.take j)).2 ⟨z, h1, by simp [hz]⟩
    have h3 := List.length_take_le j l
    omega
  rw [← hls] at hi hncap hC hR hl ⊢
  obtain ⟨n, hn⟩ : ∃ n, n = l.length := ⟨_, rfl⟩
  rw [← hn] at hi hncap hR hl hXl ⊢
  have HN := Aside0.mk hn
  have HR := Aside0.mk hR
  have HP := Aside0.mk hp
  have HB0 := Aside0.mk hb0
  have HBS := Aside0.mk hB
  have HX1 := Aside0.mk hX1
  have HXT := Aside0.mk hXt
  have HDEL := Aside0.mk hdel
  obtain ⟨i0, hi0⟩ : ∃ i0, i0 = X.length := ⟨_, rfl⟩
  rw [← hi0] at hi hXl HDEL HX1
  have HI0 := Aside0.mk hi0
  have w1' : IntKind.i64.wrap ((i0 : Int) + 1) = (i0 : Int) + 1 := by rw [i64_w]; unfold wrap64; omega
  clear hp hb0 hB hC hR hno hz hls hX1 hXt hdel hn hi0
  go_enter Try.func40, Try.ntmps40
  go_wp2_with fail
  refine hi.mono ?_
  rintro e w1 ⟨rfl, hb⟩
  have HB1 : Aside0 (Below base w0 w1) := ⟨HB0.out.trans (hb.mono HBS.out)⟩
  have HR1 := Aside0.mk (Kd.R_below HR.out hb)
  clear hi hb
  go_wp2_with fail
  go_loopg [5, 6] (n - (i0 + 1)) (fun g' s5 s6 wx => ∃ (i j : Nat) (ys : List S40), s5 = .int .i64 (i : Int) ∧ s6 = .int .i64 (j : Int) ∧ Aside0 (j + g' = n) ∧ Aside0 (i0 + 1 ≤ j) ∧ Aside0 (i = ((l.take j).filter (fun x => !p x)).length) ∧ Aside0 (ys.length = n) ∧ Aside0 (ys.take i = (l.take j).filter (fun x => !p x)) ∧ Aside0 (ys.drop j = l.drop j) ∧ Aside0 (k40.R 40 wx base (fun _ => True) (.slice (some ⟨gb, 0, none⟩) n cap) ys) ∧ Aside0 (Below base w0 wx))
  case atStart => exact ⟨i0, i0 + 1, l, rfl, by go_num, ⟨by omega⟩, ⟨by omega⟩, ⟨by rw [HX1.out]; exact HI0.out⟩, ⟨HN.out.symm⟩, ⟨by rw [HX1.out, HI0.out]; exact HXT.out⟩, ⟨rfl⟩, HR1, HB1⟩
  case round =>
    obtain ⟨i, j, ys, rfl, rfl, HJ, HIJ, HIL, HYL, HYT, HYD, HRr, HBr⟩ := hrel
    have hjn : j ≤ n := by have := HJ.out; omega
    have hij : i < j := by have := HDEL.out j HIJ.out; have := HIL.out; omega
    by_cases hlt : (j : Int) < n
    · have hjl : j < l.length := by have := HN.out; omega
      have hCy := (Kd.R_reads' HRr.out).2.2
      have hjy : j < ys.length := by have := HYL.out; omega
      obtain ⟨c0, c1, c2, c3, c4, c5, c6, c7⟩ := el_own hCy j hjy
      have hyj : ys[j] = l[j] := by
        have h := congrArg (fun t => t[0]?) HYD.out
        simp only [List.getElem?_drop, Nat.add_zero] at h
        rw [List.getElem?_eq_getElem hjy, List.getElem?_eq_getElem hjl] at h
        exact Option.some.inj h
      have HTK : Aside0 (l.take (j + 1) = l.take j ++ [l[j]]) := ⟨List.take_succ_eq_append_getElem hjl⟩
      have HDK : Aside0 (ys.drop (j + 1) = l.drop (j + 1)) := ⟨by
        have h := congrArg (List.drop 1) HYD.out
        simpa [List.drop_drop] using h⟩
      obtain ⟨x, hx⟩ : ∃ x, x = l[j] := ⟨_, rfl⟩
      rw [hyj, ← hx] at c0 c1 c2 c3 c4 c5 c6 c7
      rw [← hx] at HTK
      obtain ⟨gb', cur, hA', hg1, hg2, hg3, hg4⟩ := R_form HRr.out (by omega)
      injection hA' with hA'
      injection hA' with hA' _ _
      subst hA'
      have HBS2 : Aside0 (base ≤ wr.heap.size) := ⟨by omega⟩
      clear hx hyj hCy hg1 hg2 hg3 hg4 hjl hjy
      go_upto_region 8 with fail
      obtain ⟨W1, hW1⟩ : ∃ W1, W1 = wr.alloc (.cells #[.int .i64 x.f0, .int .i64 x.f1, .int .i64 x.f2, .int .i64 x.f3, .int .i64 x.f4, .int .i64 x.f5, .int .i64 x.f6, .int .i64 x.f7] 40) := ⟨_, rfl⟩
      rw [← hW1]
      have hbk : W1.heap[wr.heap.size]? = some (.cells #[.int .i64 x.f0, .int .i64 x.f1, .int .i64 x.f2, .int .i64 x.f3, .int .i64 x.f4, .int .i64 x.f5, .int .i64 x.f6, .int .i64 x.f7] 40 (0, 0)) := by rw [hW1]; exact blk_new _ _
      have hbw : Below wr.heap.size wr W1 := by rw [hW1]; exact below_alloc (Below.refl _ _) _
      have HBW : Aside0 (Below base w0 W1) := ⟨HBr.out.trans (hbw.mono HBS2.out)⟩
      have HR1 := Aside0.mk (Kd.R_below HRr.out hbw)
      have HSW : Aside0 (base ≤ W1.heap.size) := ⟨Nat.le_trans HBS2.out hbw.size⟩
      obtain ⟨bx, hbx⟩ : ∃ bx, bx = wr.heap.size := ⟨_, rfl⟩
      rw [← hbx] at hbk ⊢
      have HBK := Aside0.mk hbk
      have e0 := blk_cell hbk 0
      have e1 := blk_cell hbk 1
      have e2 := blk_cell hbk 2
      have e3 := blk_cell hbk 3
      have e4 := blk_cell hbk 4
      have e5 := blk_cell hbk 5
      have e6 := blk_cell hbk 6
      have e7 := blk_cell hbk 7
      simp at e0 e1 e2 e3 e4 e5 e6 e7
      have hq := HP.out x W1 HBW.out
      unfold ag at hq
      clear hW1 hbk hbw hbx c0 c1 c2 c3 c4 c5 c6 c7
      go_wp2_with fail
      refine hq.mono ?_
      rintro e w2 ⟨rfl, hb2⟩
      have hbk2 := (hb2.block bx (blk_lt HBK.out)).trans HBK.out
      have d0 := blk_cell hbk2 0
      have d1 := blk_cell hbk2 1
      have d2 := blk_cell hbk2 2
      have d3 := blk_cell hbk2 3
      have d4 := blk_cell hbk2 4
      have d5 := blk_cell hbk2 5
      have d6 := blk_cell hbk2 6
      have d7 := blk_cell hbk2 7
      simp at d0 d1 d2 d3 d4 d5 d6 d7
      have HB2 : Aside0 (Below base w0 w2) := ⟨HBW.out.trans (hb2.mono HSW.out)⟩
      have HR2 := Aside0.mk (Kd.R_below HR1.out hb2)
      clear hq hb2 hbk2 e0 e1 e2 e3 e4 e5 e6 e7
      cases hpx : p x with
      | true =>
        have HF : Aside0 ((l.take (j + 1)).filter (fun x => !p x) = (l.take j).filter (fun x => !p x)) := ⟨by rw [HTK.out, List.filter_append]; simp [hpx]⟩
        clear hpx d0 d1 d2 d3 d4 d5 d6 d7
        go_wp2
        go_roundg (gk - 1)
        case measure => have := HJ.out; omega
        case rel => exact ⟨i, j + 1, ys, rfl, by go_num, ⟨by have := HJ.out; omega⟩, ⟨by have := HIJ.out; omega⟩, ⟨by rw [HF.out]; exact HIL.out⟩, HYL, ⟨by rw [HF.out]; exact HYT.out⟩, HDK, HR2, HB2⟩
      | false =>
        have HF : Aside0 ((l.take (j + 1)).filter (fun x => !p x) = (l.take j).filter (fun x => !p x) ++ [x]) := ⟨by rw [HTK.out, List.filter_append]; simp [hpx]⟩
        have hin : (i : Int) < n := by omega
        have hin2 : i < ys.length := by have := HYL.out; omega
        have HIN2 := Aside0.mk hin2
        obtain ⟨c, hcl, _, hcc, _⟩ := Kd.R_elem HR2.out z40 (i : Int) (by omega) hin
        have HCL := Aside0.mk hcl
        have HCC := Aside0.mk hcc
        have HDI : Aside0 ((ys.set i x).drop (j + 1) = l.drop (j + 1)) := ⟨by rw [set_drop x (by omega)]; exact HDK.out⟩
        clear hpx hcl hcc hin2
        go_wp2_with (first | ((with_reducible refine gate_store (t := 40) (p := 33) rfl ?_); refine Kd.R_store k40 (w0 := w0) base rfl rfl 40 (.tmp 33) (.tmp 32) rfl 40 (g := gb) (n := n) (cap := cap) (o' := i * 8) (i : Int) 0 ys x (ag x) [.int .i64 x.f0, .int .i64 x.f1, .int .i64 x.f2, .int .i64 x.f3, .int .i64 x.f4, .int .i64 x.f5, .int .i64 x.f6, .int .i64 x.f7] c (fun _ => True) (fun _ => False) ?rA ?rB ?rC rfl info40s ?rD HR2.out ?rE ?rF HCL.out HCC.out ?rG ?rH (fun _ h => h.elim) HB2.out ?_; (case rA => rfl); (case rB => show i * 8 = (i : Int).toNat * 8 + 0; omega); (case rC => rfl); (case rD => exact seg_one x); (case rE => omega); (case rF => omega); (case rG => show 0 + 8 ≤ 8; omega); (case rH => exact seg_M HCL.out); intro w3 ho hb hg; have HO := Aside0.mk ho; have HB3 := Aside0.mk hb; clear ho hb hg))
        go_roundg (gk - 1)
        case measure => have := HJ.out; omega
        case rel => exact ⟨i + 1, j + 1, ys.set i x, by go_num, by go_num, ⟨by have := HJ.out; omega⟩, ⟨by have := HIJ.out; omega⟩, ⟨by rw [HF.out, List.length_append, ← HIL.out]; rfl⟩, ⟨by rw [List.length_set]; exact HYL.out⟩, ⟨by rw [HF.out, set_take i x HIN2.out, HYT.out]⟩, HDI, ⟨by have h := HO.out; rwa [Int.toNat_natCast] at h⟩, HB3⟩
    · have hje : j = n := by omega
      have HJE := Aside0.mk hje
      clear hje HJ
      obtain ⟨gb', cur, hA', hg1, hg2, hg3, hg4⟩ := R_form HRr.out (by omega)
      injection hA' with hA'
      injection hA' with hA' _ _
      subst hA'
      have hcap : i < cap := by omega
      have hclr0 := trivial
      have hclr := fun ty => run_clear8 wr ty gb (i * 8) (n - i) (cap - i) (by omega) (fun t ht => by rw [blk_cell hg3 (i * 8 + t)]; simp; omega) (fun t ht => blk_frozen hg3 _)
      clear hclr0
      go_wp2_with fail
      go_ret
      have hr0 := Kd.R_take (m := i) HRr.out (by have := HYL.out; omega)
      have hyt := HYT.out
      rw [HJE.out, HN.out, List.take_length] at hyt
      rw [hyt] at hr0
      refine ⟨i, rfl, R_tail hr0 (Nat.le_refl _) (by rw [List.length_replicate]; omega), ?_⟩
      exact ⟨(setCells_same gb _ _ _).1.trans HBr.out.os, (setCells_same gb _ _ _).2.1.trans HBr.out.tape, (setCells_same gb _ _ _).2.2.1.trans HBr.out.output, by rw [(setCells_same gb _ _ _).2.2.2]; exact HBr.out.size, fun t ht => (setCells_far _ _ t (by omega)).trans (HBr.out.block t ht)⟩
end Go.Proofs.Ytdohacnjngkkiaa.Pd
