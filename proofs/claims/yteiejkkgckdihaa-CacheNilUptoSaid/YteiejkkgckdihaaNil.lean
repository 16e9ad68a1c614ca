/- The law CacheNil, walked: it answers true where its value has room. -/
import Derived.Test.YteiejkkgckdihaaKn
namespace Go.Proofs.Yteiejkkgckdihaa.Nil
set_option linter.unusedVariables false
open Go.RowKit Go.Proofs.YteiejkkgckdihaaW.PrintWords Go.Proofs.YteiejkkgckdihaaW.PrintLast Go.Proofs.YteiejkkgckdihaaW.PrintMore Go.Proofs.Yteiejkkgckdihaa.Fr Go.Proofs.Yteiejkkgckdihaa.Rg Go.Proofs.Yteiejkkgckdihaa.Rk Go.Proofs.Yteiejkkgckdihaa.Cl Go.Proofs.Yteiejkkgckdihaa.Kn
set_option maxHeartbeats 4000000 in
theorem walk (kd : Int) (s : ByteArray) (A : Option Addr) (c : Nat) (xs : List Int) (w : World) (hC : (Kd.int .u8).C w A xs.length xs) (hc : xs.length ≤ c) (hl : xs.length ≤ 140737488351232) :
    Calls Try.prog 6 #[.agg #[.int .i64 kd, .string s, .slice A xs.length c]] w fun e w' => e = .returned (.bool true) ∧ Below w.heap.size w w' := by
  have HC := Aside0.mk hC
  have HLE := Aside0.mk hc
  have HL := Aside0.mk hl
  obtain ⟨n, hn⟩ : ∃ n, n = xs.length := ⟨_, rfl⟩
  rw [← hn]
  have HN := Aside0.mk hn
  clear hC hc hl hn
  go_enter Try.func6, Try.ntmps6
  go_wp2_with fail
  obtain ⟨bo, hbo⟩ : ∃ bo, bo = w.heap.size := ⟨_, rfl⟩
  have HBO := Aside0.mk hbo
  clear hbo
  go_loopg [3, 4] 2 (fun g s3 s4 wx => ∃ k : Nat, s4 = .int .i64 (k : Int) ∧ k + g = 2 ∧ Aside0 (NoC s3 wx) ∧ Aside0 (Below w.heap.size w wx) ∧ wx.cell? ⟨w.heap.size, 1, none⟩ = some (.string s) ∧ wx.cell? ⟨w.heap.size, 2, none⟩ = some (.slice A n c))
  case atStart => exact ⟨0, rfl, rfl, ⟨.inl rfl⟩, ⟨below_alloc (Below.refl _ _) _⟩, by go_simp, by go_simp⟩
  case round =>
    obtain ⟨k, rfl, hk, HNo, HB, o1, o2⟩ := hrel
    cases gk with
    | zero =>
      have hlt : ¬ ((k : Int) < 2) := by omega
      have hkn := knows_true wr
      clear o1 o2
      go_wp2_with fail
      refine hkn.mono ?_
      rintro e w9 ⟨rfl, hb⟩
      have HB9 := Aside0.mk (below_step HB.out hb)
      clear hb hkn
      go_wp2
      go_ret
      exact ⟨rfl, HB9.out⟩
    | succ g =>
      have hlt : (k : Int) < 2 := by omega
      have hge := get_no u3 s wr HNo.out
      have hpe := peek_no u3 s wr HNo.out
      have hhi := hits_no u3 wr HNo.out
      have hpu := put_no u3 s A c xs wr HNo.out (Kd.C_below HC.out HB.out) HLE.out HL.out
      rw [← HN.out] at hpu
      go_wp2_with fail
      refine hge.mono ?_
      rintro e wr' ⟨rfl, rfl⟩
      go_wp2_with fail
      refine hpe.mono ?_
      rintro e wr'' ⟨rfl, rfl⟩
      go_wp2_with fail
      refine hhi.mono ?_
      rintro e wr3 ⟨rfl, rfl⟩
      go_wp2_with fail
      refine hpu.mono ?_
      rintro e w2 ⟨rfl, hb⟩
      have hno := HNo.out.below hb
      have p1 : w2.cell? ⟨w.heap.size, 1, none⟩ = some (.string s) := (hb.cell (p := ⟨w.heap.size, 1, none⟩) (World.block_lt_of_cell? _ _ o1)).trans o1
      have p2 : w2.cell? ⟨w.heap.size, 2, none⟩ = some (.slice A n c) := (hb.cell (p := ⟨w.heap.size, 2, none⟩) (World.block_lt_of_cell? _ _ o2)).trans o2
      have hdr := drop_no u3 s w2 hno
      have hus := used_no u3 w2 hno
      have hky := keys_no u3 w2 hno
      have hnm := num_is 1 w2
      have HB2 := Aside0.mk (below_step HB.out hb)
      have hlb : w.heap.size < w2.heap.size := World.block_lt_of_cell? _ _ p1
      have HLB := Aside0.mk hlb
      clear hb hno o1 o2 hge hpe hhi hpu hlb
      go_wp2_with fail
      refine hnm.mono ?_
      rintro e w3 ⟨rfl, rfl⟩
      go_wp2_with fail
      refine hdr.mono ?_
      rintro e w4 ⟨rfl, rfl⟩
      go_wp2_with fail
      refine hus.mono ?_
      rintro e w5 ⟨rfl, rfl⟩
      go_wp2_with fail
      refine hky.mono ?_
      rintro e w6 ⟨rfl, rfl⟩
      go_wp2
      go_roundg g
      case measure => omega
      case rel =>
        refine ⟨k + 1, by go_num, by omega, ⟨.inr ⟨_, _, _, _, _, _, rfl, blk_new _ _⟩⟩, ⟨below_alloc HB2.out _⟩, ?_, ?_⟩
        · exact (World.cell?_alloc_some _ _ _ (by rw [p1]; rfl)).trans p1
        · exact (World.cell?_alloc_some _ _ _ (by rw [p2]; rfl)).trans p2
end Go.Proofs.Yteiejkkgckdihaa.Nil
