/- A block of the program's in a box of one's own: stored whole, as an event. -/
import Derived.Test.YtdohacnjngkkiaaSm
namespace Go.Proofs.Ytdohacnjngkkiaa.Bx
set_option linter.unusedVariables false
open Go.RowKit Go.Proofs.YtdohacnjngkkiaaW.PrintWords Go.Proofs.Ytdohacnjngkkiaa.A Go.Proofs.Ytdohacnjngkkiaa.Pm Go.Proofs.Ytdohacnjngkkiaa.Pd Go.Proofs.Ytdohacnjngkkiaa.Sm
theorem info40s' : (Try.prog.info? 40).map (·.size) = some 8 := by kernel_rfl
theorem put_cells {w : World} {g : Nat} {cur : Array Value} (hg : w.heap[g]? = some (.cells cur 40 (0, 0))) (hz : cur.size = 8) (x : S40) : (w.setCells g 0 (cells8 x)).heap[g]? = some (.cells (cells8 x).toArray 40 (0, 0)) := by
  obtain ⟨c0, c1, c2, c3, c4, c5, c6, c7, rfl⟩ : ∃ c0 c1 c2 c3 c4 c5 c6 c7, cur = #[c0, c1, c2, c3, c4, c5, c6, c7] := by
    obtain ⟨l⟩ := cur
    match l, hz with
    | [c0, c1, c2, c3, c4, c5, c6, c7], _ => exact ⟨c0, c1, c2, c3, c4, c5, c6, c7, rfl⟩
  have h := blk_put (blk_put (blk_put (blk_put (blk_put (blk_put (blk_put (blk_put hg 0 (.int .i64 x.f0) rfl) 1 (.int .i64 x.f1) rfl) 2 (.int .i64 x.f2) rfl) 3 (.int .i64 x.f3) rfl) 4 (.int .i64 x.f4) rfl) 5 (.int .i64 x.f5) rfl) 6 (.int .i64 x.f6) rfl) 7 (.int .i64 x.f7) rfl
  simpa [cells8, World.setCells] using h
section
variable {ops : Array Oper} {rest : List Oper} {o : Oper} {a : Act} {Q : Exit → Act → World → Prop} {W : World}
theorem put8 {g : Nat} {cur : Array Value} (x : S40) (hgd : o.guard = none) (hN : o.dst = none) {p : Tmp} {v : Operand} (ho : o.op = .store 40 (.tmp p) v) (hp : a.eval (.tmp p) = .pointer (some ⟨g, 0, none⟩)) (hv : a.eval v = ag x)
    (hg : W.heap[g]? = some (.cells cur 40 (0, 0))) (hz : cur.size = 8)
    (h : ∀ w1, w1.heap[g]? = some (.cells (cells8 x).toArray 40 (0, 0)) → (∀ k, k ≠ g → w1.heap[k]? = W.heap[k]?) → (∀ B w0, B ≤ g → Below B w0 W → Below B w0 w1) → w1.heap.size = W.heap.size → wpList Try.prog ops Q rest a w1) :
    wpList Try.prog ops Q (o :: rest) a W := by
  refine wpList_plain hgd fun K hK => ?_
  have hrun := run_store_run (P := Try.prog) (w := W) (o := 0) 40 (ag x) (cells8 x) hg rfl info40s' (by rw [hz]; exact Nat.le_refl _) (seg_one x)
  unfold Oper.wp execOp
  simp only [ho, hp, hv, Sem.run_bind, Sem.run_pure, Result.andThen_ok, hrun]
  show K (a.put o.dst undef) _
  rw [hN]
  have hs := setCells_same g (cells8 x) 0 W
  refine hK a _ (h _ (put_cells hg hz x) (fun k hk => setCells_far _ 0 k hk) (fun B w0 hB hb => ?_) (by rw [hs.2.2.2]))
  exact hb.trans ⟨hs.1, hs.2.1, hs.2.2.1, by rw [hs.2.2.2]; exact Nat.le_refl _, fun k hk => setCells_far _ 0 k (by omega)⟩
end
end Go.Proofs.Ytdohacnjngkkiaa.Bx
