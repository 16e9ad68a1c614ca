/- take, put and newRing, walked. -/
import Derived.Test.YteiejkkgckdihaaRg
import Derived.WalkKit
import Derived.BigRegion
import Derived.Outline
namespace Go.Proofs.Yteiejkkgckdihaa.Rk
set_option linter.unusedVariables false
open Go.RowKit Go.Proofs.YteiejkkgckdihaaW.PrintWords Go.Proofs.YteiejkkgckdihaaW.PrintLast Go.Proofs.YteiejkkgckdihaaW.PrintMore Go.Proofs.Yteiejkkgckdihaa.Fr Go.Proofs.Yteiejkkgckdihaa.Rg
set_option maxHeartbeats 1000000 in
theorem take_is (n p q : Nat) (w : World) (k v kp vp pp qp kq vq pq qq : Value) (hn : w.heap[n]? = some (.cells #[k, v, PT p, PT q] 61 (0, 0))) (hp : w.heap[p]? = some (.cells #[kp, vp, pp, qp] 61 (0, 0))) (hq : w.heap[q]? = some (.cells #[kq, vq, pq, qq] 61 (0, 0))) (hpn : p ≠ n) (hqn : q ≠ n) :
    Calls Try.prog 25 #[PT n] w fun e w' => e = .returned (.tuple #[]) ∧ w' = ((w.setCell ⟨p, 3, none⟩ (PT q)).setCell ⟨q, 2, none⟩ (PT p)).drew := by
  have c2 := blk_cell hn 2
  have c3 := blk_cell hn 3
  have d3 := blk_cell hp 3
  have d2 := blk_cell hq 2
  have f3 := blk_frozen hp 3
  have f2 := blk_frozen hq 2
  simp at c2 c3 d3 d2
  clear hn hp hq
  go_enter Try.func25, Try.ntmps25
  go_wp2
  go_region
  go_end0
  exact ⟨rfl, rfl⟩
set_option maxHeartbeats 2000000 in
theorem put_is (r l n : Nat) (w : World) (a b c d kr vr qr kl vl pl ql : Value) (hn : w.heap[n]? = some (.cells #[a, b, c, d] 61 (0, 0))) (hr : w.heap[r]? = some (.cells #[kr, vr, PT l, qr] 61 (0, 0))) (hl : w.heap[l]? = some (.cells #[kl, vl, pl, ql] 61 (0, 0))) (hln : l ≠ n) (hrn : r ≠ n) :
    Calls Try.prog 24 #[.agg #[PT r], PT n] w fun e w' => e = .returned (.tuple #[]) ∧ w' = (putW (w.alloc (.cells #[PT r] 51)) r l n).drew.drew := by
  have hn1 := blk_lt hn
  have hr1 := blk_lt hr
  have hl1 := blk_lt hl
  have n0 := blk_alloc hn (.cells #[PT r] 51)
  have r0 := blk_alloc hr (.cells #[PT r] 51)
  have l0 := blk_alloc hl (.cells #[PT r] 51)
  have c2 := blk_cell n0 2
  have c3 := blk_cell n0 3
  have f2 := blk_frozen n0 2
  have f3 := blk_frozen n0 3
  have r2 := blk_cell r0 2
  have l3 := blk_cell l0 3
  have g2 := blk_frozen r0 2
  have g3 := blk_frozen l0 3
  simp at c2 c3 r2 l3
  have hb : (w.alloc (.cells #[PT r] 51)).cell? ⟨w.heap.size, 0, none⟩ = some (PT r) := blk_cell (blk_new w (.cells #[PT r] 51)) 0
  obtain ⟨W, hW⟩ : ∃ W, W = w.alloc (.cells #[PT r] 51) := ⟨_, rfl⟩
  obtain ⟨x, hx⟩ : ∃ x, x = w.heap.size := ⟨_, rfl⟩
  rw [← hW] at c2 c3 r2 l3 f2 f3 g2 g3 hb n0 r0 l0
  have N0 := Aside0.mk n0
  have R0 := Aside0.mk r0
  have L0 := Aside0.mk l0
  rw [← hx] at hb
  have HW := Aside0.mk hW
  have HX := Aside0.mk hx
  have hnx : n ≠ x := by omega
  have hrx : r ≠ x := by omega
  have hlx : l ≠ x := by omega
  clear hn hr hl n0 r0 l0 hW hx hn1 hr1 hl1
  go_enter Try.func24, Try.ntmps24
  go_wp2
  rw [← HW.out, ← HX.out]
  go_region
  go_wp2
  have n1 : ((W.setCell ⟨n, 2, none⟩ (PT l)).setCell ⟨n, 3, none⟩ (PT r)).drew.heap[n]? = some (.cells #[a, b, PT l, PT r] 61 (0, 0)) := blk_put (blk_put N0.out 2 (PT l) rfl) 3 (PT r) rfl
  have r1 : ((W.setCell ⟨n, 2, none⟩ (PT l)).setCell ⟨n, 3, none⟩ (PT r)).drew.heap[r]? = some (.cells #[kr, vr, PT l, qr] 61 (0, 0)) := blk_far (blk_far R0.out hrn _) hrn _
  have l1 : ((W.setCell ⟨n, 2, none⟩ (PT l)).setCell ⟨n, 3, none⟩ (PT r)).drew.heap[l]? = some (.cells #[kl, vl, pl, ql] 61 (0, 0)) := blk_far (blk_far L0.out hln _) hln _
  have hb1 : ((W.setCell ⟨n, 2, none⟩ (PT l)).setCell ⟨n, 3, none⟩ (PT r)).drew.cell? ⟨x, 0, none⟩ = some (PT r) := by
    rw [World.cell?_of_block (w := W) (a := ⟨x, 0, none⟩) (show ((W.setCell ⟨n, 2, none⟩ (PT l)).setCell ⟨n, 3, none⟩ (PT r)).drew.heap[x]? = W.heap[x]? from
      (Below.heap_setCell _ ⟨n, 3, none⟩ _ x (fun e => hnx e.symm)).trans (Below.heap_setCell _ ⟨n, 2, none⟩ _ x (fun e => hnx e.symm)))]
    exact hb
  obtain ⟨W2, hW2⟩ : ∃ W2, W2 = ((W.setCell ⟨n, 2, none⟩ (PT l)).setCell ⟨n, 3, none⟩ (PT r)).drew := ⟨_, rfl⟩
  rw [← hW2] at n1 r1 l1 hb1 ⊢
  have HW2 := Aside0.mk hW2
  have c2' := blk_cell n1 2
  have r2' := blk_cell r1 2
  have l3' := blk_cell l1 3
  have g2' := blk_frozen r1 2
  have g3' := blk_frozen l1 3
  simp at c2' r2' l3'
  clear n1 r1 l1 hW2 c2 c3 r2 l3 f2 f3 g2 g3 hb
  go_region
  go_wp2
  go_end0
  refine ⟨rfl, ?_⟩
  rw [HW2.out, HW.out]
  rfl
end Go.Proofs.Yteiejkkgckdihaa.Rk
