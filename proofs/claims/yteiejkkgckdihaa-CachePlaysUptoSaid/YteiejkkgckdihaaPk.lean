/- New, Peek, Used, Hits, and Put of too much. -/
import Derived.Test.YteiejkkgckdihaaPe
import Derived.Test.YteiejkkgckdihaaCl
import Derived.Carry
import Derived.Deep.QuietTactic
namespace Go.Proofs.Yteiejkkgckdihaa.Pk
set_option linter.unusedVariables false
open Go.RowKit Go.Proofs.YteiejkkgckdihaaW.PrintWords Go.Proofs.YteiejkkgckdihaaW.PrintLast Go.Proofs.YteiejkkgckdihaaW.PrintMore Go.Proofs.Yteiejkkgckdihaa.Fr Go.Proofs.Yteiejkkgckdihaa.Rg Go.Proofs.Yteiejkkgckdihaa.Rk Go.Proofs.Yteiejkkgckdihaa.Mp Go.Proofs.Yteiejkkgckdihaa.Ca Go.Proofs.Yteiejkkgckdihaa.Dr Go.Proofs.Yteiejkkgckdihaa.Tk Go.Proofs.Yteiejkkgckdihaa.Dw Go.Proofs.Yteiejkkgckdihaa.Cl Go.Proofs.Yteiejkkgckdihaa.Pe
theorem used_is (c m r nn : Nat) (lim hi mi : Int) (L : List Ent) (w : World) (h : CL w c m r nn lim hi mi L) : Calls Try.prog 15 #[PT c] w fun e w' => e = .returned (.int .i64 (used L)) ∧ w' = w := by
  have hno := none_no c m r lim _ hi mi w h.blk
  have c1 := blk_cell h.blk 1
  simp at c1
  clear h
  go_enter Try.func15, Try.ntmps15
  go_wp2_with fail
  refine hno.mono ?_
  rintro e w1 ⟨rfl, rfl⟩
  go_wp2
  go_ret
  exact ⟨rfl, rfl⟩
theorem hits_is (c m r nn : Nat) (lim hi mi : Int) (L : List Ent) (w : World) (h : CL w c m r nn lim hi mi L) : Calls Try.prog 18 #[PT c] w fun e w' => e = .returned (.tuple #[.int .i64 hi, .int .i64 mi]) ∧ ∃ k, w' = w.drewN k := by
  have hno := none_no c m r lim _ hi mi w h.blk
  have c2 := blk_cell h.blk 2
  have c3 := blk_cell h.blk 3
  simp at c2 c3
  clear h
  go_enter Try.func18, Try.ntmps18
  go_wp2_with fail
  refine hno.mono ?_
  rintro e w1 ⟨rfl, rfl⟩
  have q2 : ∀ k, (w1.drewN k).cell? ⟨c, 2, none⟩ = some (.int .i64 hi) := fun k => c2
  have q3 : ∀ k, (w1.drewN k).cell? ⟨c, 3, none⟩ = some (.int .i64 mi) := fun k => c3
  clear c2 c3
  go_wp2_with fail
  go_quiet (fail)
  go_wp2
  go_ret2
  exact ⟨rfl, _, rfl⟩
theorem peek_miss (c m r nn : Nat) (lim hi mi : Int) (L : List Ent) (s : ByteArray) (w : World) (h : CL w c m r nn lim hi mi L) (hs : s.size ≤ maxLen) (hl : lookE L s = none) :
    Calls Try.prog 11 #[PT c, .string s] w fun e w' => e = .returned (.tuple #[.slice none 0 0, .bool false]) ∧ w' = w := by
  have hno := none_no c m r lim _ hi mi w h.blk
  have c4 := blk_cell h.blk 4
  simp at c4
  have hlk := (h.map.look_ok hs).2 hl
  clear h
  go_enter Try.func11, Try.ntmps11
  go_wp2_with fail
  refine hno.mono ?_
  rintro e w1 ⟨rfl, rfl⟩
  go_wp2
  go_ret2
  exact ⟨rfl, rfl⟩
theorem peek_hit (c m r nn : Nat) (lim hi mi : Int) (X Y : List Ent) (n : Ent) (w : World) (h : CL w c m r nn lim hi mi (X ++ n :: Y)) :
    Calls Try.prog 11 #[PT c, .string n.key] w fun e w' => ∃ v, e = .returned (.tuple #[v, .bool true]) ∧ Kd.R (Kd.int .u8) 5 w' w.heap.size (fun _ => True) v n.val ∧ Below w.heap.size w w' := by
  have hno := none_no c m r lim _ hi mi w h.blk
  have c4 := blk_cell h.blk 4
  have hus : used (X ++ n :: Y) = used (X ++ Y) + (n.key.size + n.val.length) := by simp [used_app, used_cons, esz]; omega
  have hlow := h.low
  have hlk := (h.map.look_ok (k := n.key) (by simp only [maxLen]; omega)).1 n.b (look_mid h.keys)
  have hn := h.ring.node
  have n1 := blk_cell hn 1
  simp at c4 n1
  have hv := h.val n (by simp)
  have hcl := clone_any n.A n.c n.val w hv.1 hv.2 (by omega)
  generalize n.val.length = nv at *
  clear h hn hv hlow hus
  go_enter Try.func11, Try.ntmps11
  go_wp2_with fail
  refine hno.mono ?_
  rintro e w1 ⟨rfl, rfl⟩
  go_wp2_with fail
  refine hcl.mono ?_
  rintro e w2 ⟨v, rfl, hr, hb⟩
  have HR := Aside0.mk hr
  have HB := Aside0.mk hb
  clear hr hb hcl
  go_wp2
  go_ret2
  exact ⟨v, rfl, HR.out, HB.out⟩
theorem ring_new (w : World) : Calls Try.prog 19 #[] w fun e w' => e = .returned (.agg #[PT (w.heap.size + 1)]) ∧ w' = (w.alloc (.cells #[PT (w.heap.size + 1)] 51)).alloc (.cells #[.string ByteArray.empty, .slice none 0 0, PT (w.heap.size + 1), PT (w.heap.size + 1)] 61) := by
  go_enter Try.func19, Try.ntmps19
  go_wp2
  exact bodyPost_ret (v := .agg #[PT (w.heap.size + 1)]) (by simp [results, Try.results19, go_sem]) rfl ⟨rfl, rfl⟩
theorem new_is (lim : Int) (w : World) (h1 : 1 ≤ lim) (h2 : lim ≤ 1048576) : Calls Try.prog 7 #[.int .i64 lim] w fun e w' => ∃ c m r, e = .returned (.tuple #[PT c, .int .i64 0]) ∧ CL w' c m r 0 lim 0 0 [] ∧ Below w.heap.size w w' ∧ (∀ k, Own c m r [] k → w.heap.size ≤ k) := by
  have d1 : decide (lim < 1) = false := by simp; omega
  have d2 : decide ((1048576 : Int) < lim) = false := by simp; omega
  have H1 := Aside0.mk h1
  have H2 := Aside0.mk h2
  clear h1 h2
  have hmm := @run_makeMap Try.prog
  obtain ⟨w1, hw1⟩ : ∃ w1, w1 = w.alloc (.map #[] 0) := ⟨_, rfl⟩
  obtain ⟨m, hm⟩ : ∃ m, m = w.heap.size := ⟨_, rfl⟩
  obtain ⟨w2, hw2⟩ : ∃ w2, w2 = (w1.alloc (.cells #[PT (w1.heap.size + 1)] 51)).alloc (.cells #[.string ByteArray.empty, .slice none 0 0, PT (w1.heap.size + 1), PT (w1.heap.size + 1)] 61) := ⟨_, rfl⟩
  obtain ⟨r, hr⟩ : ∃ r, r = w1.heap.size + 1 := ⟨_, rfl⟩
  have hrn := ring_new w1
  rw [← hw2, ← hr] at hrn
  have hm1 : MapS w1 m 0 (fun _ => none) := by rw [hw1, hm]; exact MapS.made w
  have b1 : Below w.heap.size w w1 := by rw [hw1]; exact below_alloc (Below.refl _ _) _
  have b2 : Below w1.heap.size w1 w2 := by rw [hw2]; exact below_alloc (below_alloc (Below.refl _ _) _) _
  have hm2 : MapS w2 m 0 (fun _ => none) := hm1.frame (b2.block m hm1.lt)
  have hr2 : w2.heap[r]? = some (.cells #[.string ByteArray.empty, .slice none 0 0, PT r, PT r] 61 (0, 0)) := by
    rw [hw2, hr]
    have := blk_new (w1.alloc (.cells #[PT (w1.heap.size + 1)] 51)) (.cells #[.string ByteArray.empty, .slice none 0 0, PT (w1.heap.size + 1), PT (w1.heap.size + 1)] 61)
    rw [World.size_alloc] at this
    exact this
  have s1 : w.heap.size ≤ w1.heap.size := b1.size
  have HM2 := Aside0.mk hm2
  have HR2 := Aside0.mk hr2
  have B12 : Below w.heap.size w w2 := b1.trans (b2.mono s1)
  have BB := Aside0.mk B12
  have HM := Aside0.mk hm
  have HR := Aside0.mk hr
  have HS := Aside0.mk s1
  have HW1 := Aside0.mk hw1
  clear hm1 b1 b2 hm2 hr2 s1 B12 hr hw1
  go_enter Try.func7, Try.ntmps7
  go_wp2_with fail
  rw [← HW1.out, ← HM.out]
  refine hrn.mono ?_
  rintro e w3 ⟨rfl, rfl⟩
  clear hm hw2
  go_wp2
  go_ret2
  refine ⟨w3.heap.size, m, r, rfl, ?_, below_alloc BB.out _, ?_⟩
  · refine ⟨blk_new _ _, ⟨blk_alloc HR2.out _, trivial, by simp⟩, ?_, by simp, by simp, by simp, ?_⟩
    · exact HM2.out.frame (Below.heap_alloc _ _ _ HM2.out.lt)
    · have := H1.out
      have := H2.out
      exact ⟨by omega, by omega, by show ((0 : Nat) : Int) ≤ lim; omega⟩
  · intro k hk
    have := BB.out.size
    have := HM.out
    have := HR.out
    have := HS.out
    rcases hk with hk | hk | hk | ⟨x, hx, hk⟩
    · omega
    · omega
    · omega
    · simp at hx
end Go.Proofs.Yteiejkkgckdihaa.Pk
