/- Some words that the Metas walk shares with the others. -/
import Derived.Test.YtdohacnjngkkiaaLk
import Derived.Test.YtdohacnjngkkiaaBx
import Derived.Deep.QuietTactic
import Derived.BigQuiet
namespace Go.Proofs.Ytdohacnjngkkiaa.Xh
set_option linter.unusedVariables false
set_option linter.unusedSimpArgs false
open Go.Proofs.Ytdohacnjngkkiaa.Pd Go.Proofs.Ytdohacnjngkkiaa.Bx Go.Proofs.Ytdohacnjngkkiaa.Lk Go.Proofs.Ytdohacnjngkkiaa.Kn Go.Proofs.Ytdohacnjngkkiaa.Rl Go.Proofs.Ytdohacnjngkkiaa.Sm Go.RowKit Go.Proofs.YtdohacnjngkkiaaW.PrintWords Go.Proofs.YtdohacnjngkkiaaW.PrintLast Go.Proofs.YtdohacnjngkkiaaW.PrintMore Go.Proofs.Ytdohacnjngkkiaa.Fr Go.Proofs.Ytdohacnjngkkiaa.A Go.Proofs.Ytdohacnjngkkiaa.Pm Go.Proofs.Ytdohacnjngkkiaa.Pf
/-- the cells of an element -/
theorem el44 {w : World} {A : Option Addr} {n : Nat} {l : List S44} (h : k44.C w A n l) (i : Nat) (hi : i < l.length) : ∃ ad, A = some ad ∧
    w.cell? (ad.add (i * 8)) = some (.int .i64 l[i].f0) ∧ w.cell? ⟨(ad.add (i * 8)).block, (ad.add (i * 8)).off + 1, none⟩ = some (.int .i64 l[i].f1) ∧ w.cell? ⟨(ad.add (i * 8)).block, (ad.add (i * 8)).off + 2, none⟩ = some (.int .i64 l[i].f2) ∧
    w.cell? ⟨(ad.add (i * 8)).block, (ad.add (i * 8)).off + 3, none⟩ = some (.int .i64 l[i].f3) ∧ w.cell? ⟨(ad.add (i * 8)).block, (ad.add (i * 8)).off + 4, none⟩ = some (.int .i64 l[i].f4) ∧ w.cell? ⟨(ad.add (i * 8)).block, (ad.add (i * 8)).off + 5, none⟩ = some (.int .i64 l[i].f5) ∧
    w.cell? ⟨(ad.add (i * 8)).block, (ad.add (i * 8)).off + 6, none⟩ = some (.int .i64 l[i].f6) ∧ w.cell? ⟨(ad.add (i * 8)).block, (ad.add (i * 8)).off + 7, none⟩ = some (.int .i64 l[i].f7) := by
  have hl := Kd.C_len h
  have h1 := at_T44 h (i : Int) (by omega) (by omega)
  have e : rd_T44 l (i : Int) = l[i] := by unfold rd_T44; simp [List.getD_eq_getElem?_getD, List.getElem?_eq_getElem hi]
  rw [e] at h1
  simpa using h1
def LC (ad : Addr) (i : Nat) (y : S44) (W : World) : Prop := W.cell? (ad.add (i * 8)) = some (.int .i64 y.f0) ∧ W.cell? ⟨(ad.add (i * 8)).block, (ad.add (i * 8)).off + 1, none⟩ = some (.int .i64 y.f1) ∧ W.cell? ⟨(ad.add (i * 8)).block, (ad.add (i * 8)).off + 2, none⟩ = some (.int .i64 y.f2) ∧ W.cell? ⟨(ad.add (i * 8)).block, (ad.add (i * 8)).off + 3, none⟩ = some (.int .i64 y.f3) ∧ W.cell? ⟨(ad.add (i * 8)).block, (ad.add (i * 8)).off + 4, none⟩ = some (.int .i64 y.f4) ∧ W.cell? ⟨(ad.add (i * 8)).block, (ad.add (i * 8)).off + 5, none⟩ = some (.int .i64 y.f5) ∧ W.cell? ⟨(ad.add (i * 8)).block, (ad.add (i * 8)).off + 6, none⟩ = some (.int .i64 y.f6) ∧ W.cell? ⟨(ad.add (i * 8)).block, (ad.add (i * 8)).off + 7, none⟩ = some (.int .i64 y.f7)
theorem LC_below {ad : Addr} {i : Nat} {y : S44} {w W : World} (h : LC ad i y w) (hb : Below w.heap.size w W) : LC ad i y W := by
  obtain ⟨c0, c1, c2, c3, c4, c5, c6, c7⟩ := h
  exact ⟨(hb.cell (World.block_lt_of_cell? w _ c0)).trans c0, (hb.cell (World.block_lt_of_cell? w _ c1)).trans c1, (hb.cell (World.block_lt_of_cell? w _ c2)).trans c2, (hb.cell (World.block_lt_of_cell? w _ c3)).trans c3, (hb.cell (World.block_lt_of_cell? w _ c4)).trans c4, (hb.cell (World.block_lt_of_cell? w _ c5)).trans c5, (hb.cell (World.block_lt_of_cell? w _ c6)).trans c6, (hb.cell (World.block_lt_of_cell? w _ c7)).trans c7⟩
theorem rfine_calls (A : Option Addr) (c : Nat) (l : List S44) (w : World) (hC : k44.C w A l.length l) (hc : l.length ≤ c) (hl : l.length ≤ 1048576) :
    Calls Try.prog 27 #[.slice A l.length c] w fun e w' => e = .returned (.bool (fineB (l.map cv))) ∧ Below w.heap.size w w' := by
  obtain ⟨K, hK⟩ := fine_is l hl
  exact icehouseref09_Fine.calls K A c l _ w hC hc (hK K (Nat.le_refl _))
theorem below_low {B B' : Nat} {w w' : World} (h : Below B' w w') (hB : B ≤ B') : Below B w w' := ⟨h.os, h.tape, h.output, h.size, fun k hk => h.block k (by omega)⟩
theorem own_calls (q : S40) (w : World) : Calls Try.prog 23 #[.agg #[.int .i64 q.f0, .int .i64 q.f1, .int .i64 q.f2, .int .i64 q.f3, .int .i64 q.f4, .int .i64 q.f5, .int .i64 q.f6, .int .i64 q.f7]] w fun e w' => e = .returned (.agg #[.int .i64 q.f0, .int .i64 q.f1, .int .i64 q.f2, .int .i64 q.f3, .int .i64 q.f4, .int .i64 q.f5, .int .i64 q.f6, .int .i64 q.f7]) ∧ Below w.heap.size w w' :=
  icehouselaw09_Own.calls q.f0 q.f1 q.f2 q.f3 q.f4 q.f5 q.f6 q.f7 _ _ _ _ _ _ _ _ w rfl
theorem info44s' : (Try.prog.info? 44).map (·.size) = some 8 := by kernel_rfl
theorem put_cells44 {w : World} {g : Nat} {cur : Array Value} (hg : w.heap[g]? = some (.cells cur 44 (0, 0))) (hz : cur.size = 8) (x : S40) : (w.setCells g 0 (cells8 x)).heap[g]? = some (.cells (cells8 x).toArray 44 (0, 0)) := by
  obtain ⟨c0, c1, c2, c3, c4, c5, c6, c7, rfl⟩ : ∃ c0 c1 c2 c3 c4 c5 c6 c7, cur = #[c0, c1, c2, c3, c4, c5, c6, c7] := by
    obtain ⟨l⟩ := cur
    match l, hz with
    | [c0, c1, c2, c3, c4, c5, c6, c7], _ => exact ⟨c0, c1, c2, c3, c4, c5, c6, c7, rfl⟩
  have h := blk_put (blk_put (blk_put (blk_put (blk_put (blk_put (blk_put (blk_put hg 0 (.int .i64 x.f0) rfl) 1 (.int .i64 x.f1) rfl) 2 (.int .i64 x.f2) rfl) 3 (.int .i64 x.f3) rfl) 4 (.int .i64 x.f4) rfl) 5 (.int .i64 x.f5) rfl) 6 (.int .i64 x.f6) rfl) 7 (.int .i64 x.f7) rfl
  simpa [cells8, World.setCells] using h
section
variable {ops : Array Oper} {rest : List Oper} {o : Oper} {a : Act} {Q : Exit → Act → World → Prop} {W : World}
theorem put44 {g : Nat} {cur : Array Value} (x : S40) (hgd : o.guard = none) (hN : o.dst = none) {p : Tmp} {v : Operand} (ho : o.op = .store 44 (.tmp p) v) (hp : a.eval (.tmp p) = .pointer (some ⟨g, 0, none⟩)) (hv : a.eval v = ag x)
    (hg : W.heap[g]? = some (.cells cur 44 (0, 0))) (hz : cur.size = 8)
    (h : ∀ w1, w1.heap[g]? = some (.cells (cells8 x).toArray 44 (0, 0)) → (∀ k, k ≠ g → w1.heap[k]? = W.heap[k]?) → (∀ B w0, B ≤ g → Below B w0 W → Below B w0 w1) → w1.heap.size = W.heap.size → wpList Try.prog ops Q rest a w1) :
    wpList Try.prog ops Q (o :: rest) a W := by
  refine wpList_plain hgd fun K hK => ?_
  have hrun := run_store_run (P := Try.prog) (w := W) (o := 0) 44 (ag x) (cells8 x) hg rfl info44s' (by rw [hz]; exact Nat.le_refl _) (seg_one x)
  unfold Oper.wp execOp
  simp only [ho, hp, hv, Sem.run_bind, Sem.run_pure, Result.andThen_ok, hrun]
  show K (a.put o.dst undef) _
  rw [hN]
  have hs := setCells_same g (cells8 x) 0 W
  refine hK a _ (h _ (put_cells44 hg hz x) (fun k hk => setCells_far _ 0 k hk) (fun B w0 hB hb => ?_) (by rw [hs.2.2.2]))
  exact hb.trans ⟨hs.1, hs.2.1, hs.2.2.1, by rw [hs.2.2.2]; exact Nat.le_refl _, fun k hk => setCells_far _ 0 k (by omega)⟩
end
def B8 (b : Nat) (q : S40) (W : World) : Prop := W.cell? ⟨b, 0, none⟩ = some (.int .i64 q.f0) ∧ W.cell? ⟨b, 1, none⟩ = some (.int .i64 q.f1) ∧ W.cell? ⟨b, 2, none⟩ = some (.int .i64 q.f2) ∧ W.cell? ⟨b, 3, none⟩ = some (.int .i64 q.f3) ∧ W.cell? ⟨b, 4, none⟩ = some (.int .i64 q.f4) ∧ W.cell? ⟨b, 5, none⟩ = some (.int .i64 q.f5) ∧ W.cell? ⟨b, 6, none⟩ = some (.int .i64 q.f6) ∧ W.cell? ⟨b, 7, none⟩ = some (.int .i64 q.f7)
theorem B8_of {W : World} {b : Nat} {q : S40} {t : TypeId} (h : W.heap[b]? = some (.cells (cells8 q).toArray t (0, 0))) : B8 b q W := by
  unfold B8
  refine ⟨?_, ?_, ?_, ?_, ?_, ?_, ?_, ?_⟩
  all_goals (rw [World.cell?]; simp [h, cells8])
end Go.Proofs.Ytdohacnjngkkiaa.Xh
