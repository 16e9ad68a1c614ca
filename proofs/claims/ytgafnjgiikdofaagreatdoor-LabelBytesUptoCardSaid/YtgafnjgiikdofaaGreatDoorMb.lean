/- Calls of the label layer walked: the builder, formatted and parsed numbers, marks, names, values, Quote. -/
import Derived.Test.YtgafnjgiikdofaaGreatDoorProg
import Derived.Shelf.Strings.Builder1
import Derived.Test.YtgafnjgiikdofaaGreatDoorMa
import Derived.LoopN
import Derived.Lib.OthersKept
import Derived.Lib.FrozenHead
import Derived.Lib.FrozenHead2
import Derived.Shelf.Strings.BuilderK
import Derived.Test.YtgafnjgiikdofaaGreatDoorSh
import Derived.BigCall
import Derived.Lib.TrimU
import Derived.Lib.Strings
import Derived.Lib.Walk
import Derived.Lib.ConvBytes
import Derived.Lib.AtoiAllMem
import Derived.Lib.ParseIntBMem
import Derived.Lib.Hide
import Derived.Laws.Strings3
import Derived.Laws.Closers25
import Derived.Laws.Closers25b
import Derived.WalkKit
import Derived.BigGuard
import Derived.Laws.DeepStrings4
namespace Go.Proofs.YtgafnjgiikdofaaGreatDoor.Sb
set_option linter.unusedVariables false
set_option linter.unusedSimpArgs false
open Go.Shelf Go.RowKit
theorem size62 : (Tryz.prog.info? 62).map (·.size) = some 2 := by kernel_rfl
theorem lies62 : liesAt Tryz.prog Tryz.prog.depth 62 (2 / Tryz.prog.cellsOf 62) 0 62 1 = true := by kernel_rfl
theorem info5 : (Tryz.prog.info? 5).map (fun i => (i.zero, i.size, i.bytes)) = some (some (.int .u8 0), 1, 1) := by kernel_rfl
set_option maxHeartbeats 1000000 in
set_option maxRecDepth 100000 in
/-- a builder that was written: nothing turns -/
theorem copy_used (b : Nat) (w : World) (h0 : w.cell? ⟨b, 0, none⟩ = some (.pointer (some ⟨b, 0, none⟩))) :
    Calls Tryz.prog 90 #[.pointer (some ⟨b, 0, none⟩)] w fun e w' => e = .returned (.tuple #[]) ∧ w' = w := by
  obtain ⟨j, hj, _⟩ := Option.map_eq_some_iff.1 size62
  go_enter Tryz.func90, Tryz.ntmps90
  go_wp2
  rw [Lib.run_neq_ptr_same w _ Tryz.underlying60 hj]
  go_wp2
  go_end0
  exact ⟨rfl, rfl⟩
set_option maxHeartbeats 1000000 in
set_option maxRecDepth 100000 in
/-- a fresh one: its own address is stored -/
theorem copy_fresh (b : Nat) (w : World) (h0 : w.cell? ⟨b, 0, none⟩ = some (.pointer none)) (hsh : w.shape? b = some (62, 2)) (hfz : w.frozen? ⟨b, 0, none⟩ = false) :
    Calls Tryz.prog 90 #[.pointer (some ⟨b, 0, none⟩)] w fun e w' => e = .returned (.tuple #[]) ∧ w' = w.setCell ⟨b, 0, none⟩ (.pointer (some ⟨b, 0, none⟩)) := by
  obtain ⟨j, hj, hjs⟩ := Option.map_eq_some_iff.1 size62
  go_enter Tryz.func90, Tryz.ntmps90
  go_wp2
  rw [Lib.run_to_unsafe w ⟨b, 0, none⟩ Tryz.underlying60 Tryz.underlying141 hj (by rw [hjs]; decide) hsh (Nat.zero_lt_succ 1)]
  simp only [Result.andThen]
  rw [Oper.upon_value]
  go_wp2
  rw [run_callFunc_extern Tryz.func117 (by kernel_rfl) (by kernel_rfl) (by kernel_rfl) (e := Extern.AbiNoEscape.same) (by kernel_rfl)]
  rw [Lib.run_noEscape]
  simp only [Result.andThen]
  rw [Oper.upon_value]
  go_wp2
  rw [Lib.run_from_unsafe w ⟨b, 0, none⟩ Tryz.underlying141 Tryz.underlying60 hj hsh lies62]
  simp only [Result.andThen]
  rw [Oper.upon_value]
  go_wp2
  go_end0
  exact ⟨rfl, rfl⟩
theorem copy_calls (B b : Nat) (bs : List Value) (w : World) (h : Lib.IsBuilder 62 5 B b bs w) :
    Calls Tryz.prog 90 #[.pointer (some ⟨b, 0, none⟩)] w fun e w' => e = .returned (.tuple #[]) ∧ Lib.BuilderAt 62 5 B b (.pointer (some ⟨b, 0, none⟩)) bs w' ∧ Below B w w' := by
  rcases h with h | h
  · refine (copy_fresh b w h.cell0 h.shape h.frozen0).mono ?_
    rintro e w' ⟨rfl, rfl⟩
    exact ⟨rfl, h.used _, (Below.refl B w).setCell (p := ⟨b, 0, none⟩) h.1 _⟩
  · refine (copy_used b w h.cell0).mono ?_
    rintro e w' ⟨rfl, rfl⟩
    exact ⟨rfl, h, Below.refl _ _⟩
set_option maxHeartbeats 2000000 in
set_option maxRecDepth 100000 in
theorem wbyte_calls (B b : Nat) (bs : List Value) (c : Int) (w : World) (h : Lib.IsBuilder 62 5 B b bs w) (hlen : bs.length + 1 ≤ 140737488355328) (hBw : B ≤ w.heap.size) :
    Calls Tryz.prog 51 #[.pointer (some ⟨b, 0, none⟩), .int .u8 c] w fun e w' => e = .returned .nilIface ∧ Lib.BuilderAt 62 5 B b (.pointer (some ⟨b, 0, none⟩)) (bs ++ [.int .u8 c]) w' ∧ Below B w w' := by
  obtain ⟨i0, hi, hz0, hz1, hz2⟩ := info_parts info5
  have hcc := copy_calls B b bs w h
  go_enter Tryz.func51, Tryz.ntmps51
  go_wp2_with fail
  refine hcc.mono ?_
  rintro e w1 ⟨rfl, ⟨hB, v, hbk, hown, hne⟩, hb1⟩
  have c0 : w1.cell? ⟨b, 0, none⟩ = some (.pointer (some ⟨b, 0, none⟩)) := by rw [Lib.cell_of_heap hbk]; rfl
  have c1 : w1.cell? ⟨b, 1, none⟩ = some v := by rw [Lib.cell_of_heap hbk]; rfl
  have hs1 := hb1.size
  have hlt : b < w1.heap.size := by
    rcases Nat.lt_or_ge b w1.heap.size with h' | h'
    · exact h'
    · simp [Array.getElem?_eq_none h'] at hbk
  go_wp2_with (at_builtin; refine wpList_append_own _ rfl _ _ 48 rfl B 5 i0 (.int .u8 0) 1 1 Tryz.underlying48 hi hz0 hz1 hz2 rfl (by decide) _ _ _ rfl (hown.alloc _) ⟨w1.heap.size, 0, none⟩ 1 1 [.int .u8 c] rfl rfl (fun j u hj => by match j, hj with | 0, hj => simp at hj; subst hj; simp [Addr.add]) (fun u hu => by simp at hu; subst hu; rfl) (by unfold maxLen; omega) (by omega) (by simp; omega) ?_)
  intro v' w2 hown' hgrow _
  have hb2 : w2.heap[b]? = some (.cells #[.pointer (some ⟨b, 0, none⟩), v] 62 (0, 0)) := by
    rw [hgrow.block b (by simp; omega) (fun e => hne e.symm), Lib.alloc_old w1 _ b hlt]
    exact hbk
  have d0 : w2.cell? ⟨b, 0, none⟩ = some (.pointer (some ⟨b, 0, none⟩)) := by rw [Lib.cell_of_heap hb2]; rfl
  have d1 : w2.cell? ⟨b, 1, none⟩ = some v := by rw [Lib.cell_of_heap hb2]; rfl
  have f1 : w2.frozen? ⟨b, 1, none⟩ = false := Lib.frozen_of_heap hb2 1
  obtain ⟨g, cap, rfl⟩ : ∃ g cap, v' = .slice (some ⟨g, 0, none⟩) (bs.length + 1) cap := by
    rcases hown'.2 with ⟨_, h0⟩ | ⟨g, cap, cur, hv, _⟩
    · omega
    · exact ⟨g, cap, hv⟩
  go_wp2
  go_ret
  exact ⟨rfl, Lib.BuilderAt.put (T := 62) (e := 5) hB hb2 (bs' := bs ++ [.int .u8 c]) (by simpa using hown') (by decide), ((hb1.alloc (by omega) _).grown hgrow (by simp; omega) (fun k hk => (hown.lt k hk).1)).setCell (p := ⟨b, 1, none⟩) hB _⟩
set_option maxHeartbeats 2000000 in
set_option maxRecDepth 100000 in
theorem wstr_calls (B b : Nat) (bs : List Value) (s : ByteArray) (w : World) (h : Lib.IsBuilder 62 5 B b bs w) (hlen : bs.length + s.size ≤ 140737488355328) (hBw : B ≤ w.heap.size) :
    Calls Tryz.prog 52 #[.pointer (some ⟨b, 0, none⟩), .string s] w fun e w' => e = .returned (.tuple #[.int .i64 s.size, .nilIface]) ∧ Lib.BuilderAt 62 5 B b (.pointer (some ⟨b, 0, none⟩)) (bs ++ Lib.strCells s) w' ∧ Below B w w' := by
  obtain ⟨i0, hi, hz0, hz1, hz2⟩ := info_parts info5
  have hcc := copy_calls B b bs w h
  go_enter Tryz.func52, Tryz.ntmps52
  go_wp2_with fail
  refine hcc.mono ?_
  rintro e w1 ⟨rfl, ⟨hB, v, hbk, hown, hne⟩, hb1⟩
  have c0 : w1.cell? ⟨b, 0, none⟩ = some (.pointer (some ⟨b, 0, none⟩)) := by rw [Lib.cell_of_heap hbk]; rfl
  have c1 : w1.cell? ⟨b, 1, none⟩ = some v := by rw [Lib.cell_of_heap hbk]; rfl
  have hs1 := hb1.size
  have hlt : b < w1.heap.size := by
    rcases Nat.lt_or_ge b w1.heap.size with h' | h'
    · exact h'
    · simp [Array.getElem?_eq_none h'] at hbk
  go_wp2_with (at_builtin; refine Lib.wpList_append_own_string _ rfl _ _ 48 9 rfl B 5 i0 Tryz.underlying48 Tryz.underlying9 hi hz0 hz1 hz2 _ _ _ rfl hown s rfl (by unfold maxLen; omega) (by omega) (by omega) ?_)
  intro v' w2 hown' hgrow _
  have hb2 : w2.heap[b]? = some (.cells #[.pointer (some ⟨b, 0, none⟩), v] 62 (0, 0)) := by
    rw [hgrow.block b hlt (fun e => hne e.symm)]
    exact hbk
  have d0 : w2.cell? ⟨b, 0, none⟩ = some (.pointer (some ⟨b, 0, none⟩)) := by rw [Lib.cell_of_heap hb2]; rfl
  have d1 : w2.cell? ⟨b, 1, none⟩ = some v := by rw [Lib.cell_of_heap hb2]; rfl
  have f1 : w2.frozen? ⟨b, 1, none⟩ = false := Lib.frozen_of_heap hb2 1
  obtain ⟨ao, n', cap, rfl⟩ : ∃ ao n' cap, v' = .slice ao n' cap := by
    rcases hown'.2 with ⟨hv, _⟩ | ⟨g, cap, cur, hv, _⟩
    · exact ⟨_, _, _, hv⟩
    · exact ⟨_, _, _, hv⟩
  go_wp2
  go_ret2
  exact ⟨rfl, Lib.BuilderAt.put (T := 62) (e := 5) hB hb2 (bs' := bs ++ Lib.strCells s) (by simpa [Lib.strCells_length] using hown') (by decide), (hb1.grown hgrow (by omega) (fun k hk => (hown.lt k hk).1)).setCell (p := ⟨b, 1, none⟩) hB _⟩
end Go.Proofs.YtgafnjgiikdofaaGreatDoor.Sb
namespace Go.Proofs.YtgafnjgiikdofaaGreatDoor.Sf
set_option linter.unusedVariables false
set_option linter.unusedSimpArgs false
open Go.RowKit Go.Proofs.YtgafnjgiikdofaaGreatDoorW.PrintWords Go.Proofs.YtgafnjgiikdofaaGreatDoorW.PrintLast Go.Proofs.YtgafnjgiikdofaaGreatDoorW.PrintMore
set_option maxHeartbeats 1000000 in
theorem tz64 (w : World) (ht : w.cell? ⟨7, 15, none⟩ = some (.int .u8 4)) : Calls Tryz.prog 159 #[.int .u64 16] w fun e w' => e = .returned (.int .i64 4) ∧ w = w' := by
  have hk : (IntKind.u64.wrap (bits BinOp.and IntKind.u64 16 (IntKind.u64.wrap (-16)) * 285870213051353865) / 288230376151711744) = 15 := by decide +kernel
  go_enter Tryz.func159, Tryz.ntmps159
  go_wp2
  go_ret
  exact ⟨rfl, rfl⟩
theorem tz (w : World) (ht : w.cell? ⟨7, 15, none⟩ = some (.int .u8 4)) : Calls Tryz.prog 152 #[.int .u64 16] w fun e w' => e = .returned (.int .i64 4) ∧ w = w' := by
  have h := tz64 w ht
  go_enter Tryz.func152, Tryz.ntmps152
  go_wp2_with fail
  refine h.mono ?_
  rintro e w' ⟨rfl, rfl⟩
  go_wp2
  go_ret
  exact ⟨rfl, rfl⟩
theorem pow2 (w : World) : Calls Tryz.prog 151 #[.int .i64 16] w fun e w' => e = .returned (.bool true) ∧ w = w' := by
  go_enter Tryz.func151, Tryz.ntmps151
  go_wp2
  go_ret
  exact ⟨rfl, rfl⟩
theorem and15_fin : ∀ x : Fin 128, bits BinOp.and .u64 (x.val : Int) 15 = (x.val : Int) % 16 := by decide +kernel
theorem and15 (x : Int) (h0 : 0 ≤ x) (h1 : x < 128) : bits BinOp.and .u64 x 15 = x % 16 := by
  have h := and15_fin ⟨x.toNat, by omega⟩
  simp only at h
  rw [Int.toNat_of_nonneg h0] at h
  exact h
/-- a digit -/
def dg (n : Int) : Int := if n < 10 then 48 + n else 87 + n
theorem dg_fin : ∀ x : Fin 16, (((⟨#[48, 49, 50, 51, 52, 53, 54, 55, 56, 57, 97, 98, 99, 100, 101, 102, 103, 104, 105, 106, 107, 108, 109, 110, 111, 112, 113, 114, 115, 116, 117, 118, 119, 120, 121, 122]⟩ : ByteArray)[x.val]'(by have := x.isLt; show x.val < 36; omega)).toNat : Int) = dg (x.val : Int) := by decide +kernel
theorem dg_is (c : Int) (h0 : 0 ≤ c) (h1 : c < 16) (h : c.toNat < (⟨#[48, 49, 50, 51, 52, 53, 54, 55, 56, 57, 97, 98, 99, 100, 101, 102, 103, 104, 105, 106, 107, 108, 109, 110, 111, 112, 113, 114, 115, 116, 117, 118, 119, 120, 121, 122]⟩ : ByteArray).size) : (((⟨#[48, 49, 50, 51, 52, 53, 54, 55, 56, 57, 97, 98, 99, 100, 101, 102, 103, 104, 105, 106, 107, 108, 109, 110, 111, 112, 113, 114, 115, 116, 117, 118, 119, 120, 121, 122]⟩ : ByteArray)[c.toNat]'h).toNat : Int) = dg c := by
  have e := dg_fin ⟨c.toNat, by omega⟩
  simp only at e
  rw [Int.toNat_of_nonneg h0] at e
  exact e
set_option maxHeartbeats 4000000 in
set_option maxRecDepth 100000 in
theorem fb_one (c : Int) (h0 : 0 ≤ c) (h1 : c < 16) (w : World) (ht : w.cell? ⟨7, 15, none⟩ = some (.int .u8 4)) :
    Calls Tryz.prog 140 #[.slice none 0 0, .int .u64 c, .int .i64 16, .bool false, .bool false] w fun e w' => e = .returned (.tuple #[.slice none 0 0,   .string (strOfNums [dg c])]) ∧ Below w.heap.size w w' := by
  have ha := and15 c h0 (by omega)
  have hm : c % 16 = c := by omega
  rw [hm] at ha
  have g1 : decide (16 ≤ c) = false := decide_eq_false (by omega)
  obtain ⟨W0, hW0⟩ : ∃ W0, W0 = w.alloc (.cells Tryz.zeroCells166 166) := ⟨_, rfl⟩
  have hbl : Below w.heap.size w W0 := by rw [hW0]; exact below_alloc (Below.refl _ _) _
  have hk : W0.heap[w.heap.size]? = some (.cells Tryz.zeroCells166 166 (0, 0)) := by rw [hW0]; exact blk_new _ _
  have ht0 : W0.cell? ⟨7, 15, none⟩ = some (.int .u8 4) := (hbl.cell (World.block_lt_of_cell? w _ ht)).trans ht
  obtain ⟨b, hb⟩ : ∃ b, b = w.heap.size := ⟨_, rfl⟩
  rw [← hb] at hk
  have hp := pow2 W0
  have hz := tz W0 ht0
  have HK := Aside0.mk hk
  have HB := Aside0.mk hb
  have HBL := Aside0.mk hbl
  clear hk hbl ht0 ht
  go_enter Tryz.func140, Tryz.ntmps140
  go_upto_region 4 with fail
  rw [← hW0, ← hb]
  clear hW0 hb
  go_wp2_with fail
  refine hp.mono ?_
  rintro e w' ⟨rfl, rfl⟩
  clear hp
  go_wp2_with fail
  refine hz.mono ?_
  rintro e w' ⟨rfl, rfl⟩
  clear hz
  go_wp2_with fail
  refine wp_loop_rounds 2 ?_
  rw [rounds_succ]
  go_upto_region 16 with fail
  have cc : W0.cell? ⟨b, 64, none⟩ = some (.int .u8 0) := (blk_cell HK.out 64).trans (by kernel_rfl)
  have cf := blk_frozen HK.out 64
  have g2 : decide (0 ≤ c) = true := decide_eq_true h0
  have g3 : decide (c < 36) = true := decide_eq_true (by omega)
  have g4 : c < 36 := by omega
  have g5 : decide (c.toNat < 36) = true := decide_eq_true (by omega)
  have g6 : c.toNat < 36 := by omega
  go_upto_region 25 with fail
  obtain ⟨W1, hW1⟩ : ∃ W1, W1 = W0.setCell ⟨b, 64, none⟩ (.int .u8 (dg c)) := ⟨_, rfl⟩
  rw [dg_is c h0 h1 (by show c.toNat < 36; omega), ← hW1]
  have hC : (Kd.int .u8).C W1 (some ⟨b, 64, none⟩) 1 [dg c] := by
    refine Kd.C_of_reads (d := (0 : Int)) ⟨rfl, by decide, fun _ => ⟨⟨b, 64, none⟩, rfl, fun j hj => ?_⟩⟩
    have hj0 : j = 0 := by simp at hj; omega
    subst hj0
    rw [hW1]
    exact World.cell?_setCell_same _ _ _ cc
  have hcv := Kd.C_string (P := Tryz.prog) (c := 1) Tryz.underlying48 Tryz.underlying5 Tryz.underlying9 hC
  obtain ⟨st, hst⟩ : ∃ st, st = strOfNums [dg c] := ⟨_, rfl⟩
  rw [← hst] at hcv
  have HBW := Aside0.mk (show Below w.heap.size w W1 from by rw [hW1]; exact HBL.out.setCell (p := ⟨b, 64, none⟩) (by rw [HB.out]; exact Nat.le_refl _) _)
  clear hC hW1
  go_wp2
  go_ret2
  exact ⟨by rw [← hst]; rfl, HBW.out⟩
set_option maxHeartbeats 4000000 in
set_option maxRecDepth 100000 in
theorem fb_two (c : Int) (h0 : 16 ≤ c) (h1 : c < 128) (w : World) (ht : w.cell? ⟨7, 15, none⟩ = some (.int .u8 4)) :
    Calls Tryz.prog 140 #[.slice none 0 0, .int .u64 c, .int .i64 16, .bool false, .bool false] w fun e w' => e = .returned (.tuple #[.slice none 0 0,   .string (strOfNums [dg (c / 16), dg (c % 16)])]) ∧ Below w.heap.size w w' := by
  have ha := and15 c (by omega) (by omega)
  have g1 : decide (16 ≤ c) = true := decide_eq_true h0
  have g1' : decide (16 ≤ c / 16) = false := decide_eq_false (by omega)
  obtain ⟨W0, hW0⟩ : ∃ W0, W0 = w.alloc (.cells Tryz.zeroCells166 166) := ⟨_, rfl⟩
  have hbl : Below w.heap.size w W0 := by rw [hW0]; exact below_alloc (Below.refl _ _) _
  have hk : W0.heap[w.heap.size]? = some (.cells Tryz.zeroCells166 166 (0, 0)) := by rw [hW0]; exact blk_new _ _
  have ht0 : W0.cell? ⟨7, 15, none⟩ = some (.int .u8 4) := (hbl.cell (World.block_lt_of_cell? w _ ht)).trans ht
  obtain ⟨b, hb⟩ : ∃ b, b = w.heap.size := ⟨_, rfl⟩
  rw [← hb] at hk
  have hp := pow2 W0
  have hz := tz W0 ht0
  have HK := Aside0.mk hk
  have HB := Aside0.mk hb
  have HBL := Aside0.mk hbl
  clear hk hbl ht0 ht
  go_enter Tryz.func140, Tryz.ntmps140
  go_upto_region 4 with fail
  rw [← hW0, ← hb]
  clear hW0 hb
  go_wp2_with fail
  refine hp.mono ?_
  rintro e w' ⟨rfl, rfl⟩
  clear hp
  go_wp2_with fail
  refine hz.mono ?_
  rintro e w' ⟨rfl, rfl⟩
  clear hz
  go_wp2_with fail
  refine wp_loop_rounds 3 ?_
  rw [rounds_succ]
  have cc : W0.cell? ⟨b, 64, none⟩ = some (.int .u8 0) := (blk_cell HK.out 64).trans (by kernel_rfl)
  have cc3 : W0.cell? ⟨b, 63, none⟩ = some (.int .u8 0) := (blk_cell HK.out 63).trans (by kernel_rfl)
  have cf := blk_frozen HK.out 64
  have cf3 := blk_frozen HK.out 63
  have g2 : decide (0 ≤ c % 16) = true := decide_eq_true (by omega)
  have g4 : c % 16 < 36 := by omega
  have g6 : (c % 16).toNat < 36 := by omega
  have k2 : decide (0 ≤ c / 16) = true := decide_eq_true (by omega)
  have k3 : 0 ≤ c / 16 := by omega
  have k4 : c / 16 < 36 := by omega
  have k6 : (c / 16).toNat < 36 := by omega
  have g3 : 0 ≤ c % 16 := by omega
  go_upto_region 14 with fail
  obtain ⟨W1, hW1⟩ : ∃ W1, W1 = W0.setCell ⟨b, 64, none⟩ (.int .u8 (dg (c % 16))) := ⟨_, rfl⟩
  rw [dg_is (c % 16) (by omega) (by omega) (by show (c % 16).toNat < 36; omega), ← hW1]
  have p64 : W1.cell? ⟨b, 64, none⟩ = some (.int .u8 (dg (c % 16))) := by rw [hW1]; exact World.cell?_setCell_same _ _ _ cc
  have p63 : W1.cell? ⟨b, 63, none⟩ = some (.int .u8 0) := by rw [hW1]; exact (World.cell?_setCell_other _ _ _ _ (by simp)).trans cc3
  have q63 : W1.frozen? ⟨b, 63, none⟩ = false := by
    have hp := blk_put HK.out 64 (.int .u8 (dg (c % 16))) rfl
    rw [← hW1] at hp
    exact blk_frozen hp 63
  have HB1 := Aside0.mk (show Below w.heap.size w W1 from by rw [hW1]; exact HBL.out.setCell (p := ⟨b, 64, none⟩) (by rw [HB.out]; exact Nat.le_refl _) _)
  have HP64 := Aside0.mk p64
  clear hW1 cc cc3 cf cf3 p64
  go_upto_region 25 with (first | rw [rounds_succ])
  obtain ⟨W2, hW2⟩ : ∃ W2, W2 = W1.setCell ⟨b, 63, none⟩ (.int .u8 (dg (c / 16))) := ⟨_, rfl⟩
  rw [dg_is (c / 16) (by omega) (by omega) (by show (c / 16).toNat < 36; omega), ← hW2]
  have hC : (Kd.int .u8).C W2 (some ⟨b, 63, none⟩) 2 [dg (c / 16), dg (c % 16)] := by
    refine Kd.C_of_reads (d := (0 : Int)) ⟨rfl, by decide, fun _ => ⟨⟨b, 63, none⟩, rfl, fun j hj => ?_⟩⟩
    have hj0 : j = 0 ∨ j = 1 := by have h2 : j < 2 := hj; omega
    rcases hj0 with rfl | rfl
    · rw [hW2]
      exact World.cell?_setCell_same _ _ _ p63
    · rw [hW2]
      exact (World.cell?_setCell_other _ _ _ _ (show (⟨b, 63, none⟩ : Addr) ≠ ⟨b, 64, none⟩ by simp)).trans HP64.out
  have hcv := Kd.C_string (P := Tryz.prog) (c := 2) Tryz.underlying48 Tryz.underlying5 Tryz.underlying9 hC
  obtain ⟨st, hst⟩ : ∃ st, st = strOfNums [dg (c / 16), dg (c % 16)] := ⟨_, rfl⟩
  rw [← hst] at hcv
  have HBW := Aside0.mk (show Below w.heap.size w W2 from by rw [hW2]; exact HB1.out.setCell (p := ⟨b, 63, none⟩) (by rw [HB.out]; exact Nat.le_refl _) _)
  clear hC hW2 p63 q63
  go_wp2
  go_ret2
  exact ⟨by rw [← hst]; rfl, HBW.out⟩
/-- a number below 128 to the base 16 -/
def hexL (c : Int) : List Int := if c < 16 then [dg c] else [dg (c / 16), dg (c % 16)]
theorem fb_calls (c : Int) (h0 : 0 ≤ c) (h1 : c < 128) (w : World) (ht : w.cell? ⟨7, 15, none⟩ = some (.int .u8 4)) :
    Calls Tryz.prog 140 #[.slice none 0 0, .int .u64 c, .int .i64 16, .bool false, .bool false] w fun e w' => e = .returned (.tuple #[.slice none 0 0, .string (strOfNums (hexL c))]) ∧ Below w.heap.size w w' := by
  unfold hexL
  by_cases h : c < 16
  · rw [if_pos h]; exact fb_one c h0 h w ht
  · rw [if_neg h]; exact fb_two c (by omega) h1 w ht
set_option maxHeartbeats 1000000 in
theorem fi_inner (c : Int) (h0 : 0 ≤ c) (h1 : c < 128) (w : World) (ht : w.cell? ⟨7, 15, none⟩ = some (.int .u8 4)) :
    Calls Tryz.prog 116 #[.int .i64 c, .int .i64 16] w fun e w' => e = .returned (.string (strOfNums (hexL c))) ∧ Below w.heap.size w w' := by
  have hf := fb_calls c h0 h1 w ht
  have g1 : decide (c < 0) = false := decide_eq_false (by omega)
  have g2 : c % 18446744073709551616 = c := by omega
  obtain ⟨s, hs⟩ : ∃ s, s = strOfNums (hexL c) := ⟨_, rfl⟩
  rw [← hs] at hf ⊢
  clear hs
  go_enter Tryz.func116, Tryz.ntmps116
  go_wp2_with fail
  refine hf.mono ?_
  rintro e w' ⟨rfl, hb⟩
  have HB := Aside0.mk hb
  clear hb hf
  go_wp2
  go_ret
  exact ⟨rfl, HB.out⟩
/-- strconv.FormatInt(c, 16) -/
theorem fi_calls (c : Int) (h0 : 0 ≤ c) (h1 : c < 128) (w : World) (ht : w.cell? ⟨7, 15, none⟩ = some (.int .u8 4)) :
    Calls Tryz.prog 89 #[.int .i64 c, .int .i64 16] w fun e w' => e = .returned (.string (strOfNums (hexL c))) ∧ Below w.heap.size w w' := by
  have hf := fi_inner c h0 h1 w ht
  go_enter Tryz.func89, Tryz.ntmps89
  go_wp2_with fail
  refine hf.mono ?_
  rintro e w' ⟨rfl, hb⟩
  have HB := Aside0.mk hb
  clear hb hf
  go_wp2
  go_ret
  exact ⟨rfl, HB.out⟩
end Go.Proofs.YtgafnjgiikdofaaGreatDoor.Sf
namespace Go.Proofs.YtgafnjgiikdofaaGreatDoor.Sm
set_option linter.unusedVariables false
set_option linter.unusedSimpArgs false
open Go.RowKit Go.Proofs.YtgafnjgiikdofaaGreatDoorW.PrintWords Go.Proofs.YtgafnjgiikdofaaGreatDoorW.PrintLast Go.Proofs.YtgafnjgiikdofaaGreatDoorW.PrintMore
open Go.Proofs.YtgafnjgiikdofaaGreatDoor.Sf
/-- a rune as it is quoted -/
def markB (c : Int) : ByteArray :=
  if c = 34 ∨ c = 92 then (⟨#[92]⟩ : ByteArray) ++ Utf8.encode c
  else if c = 10 then (⟨#[92, 110]⟩ : ByteArray)
  else if c < 32 ∨ c = 127 then (⟨#[92, 117, 123]⟩ : ByteArray) ++ strOfNums (hexL c) ++ (⟨#[125]⟩ : ByteArray)
  else Utf8.encode c
theorem hexL_size (c : Int) : (strOfNums (hexL c)).size ≤ 2 := by
  unfold hexL strOfNums
  split <;> simp [ByteArray.size]
theorem mark_plain (c : Int) (h0 : 32 ≤ c) (h1 : c ≤ 2147483647) (n1 : c ≠ 34) (n2 : c ≠ 92) (n3 : c ≠ 127) (w : World) :
    Calls Tryz.prog 45 #[.int .i32 c] w fun e w' => e = .returned (.string (Utf8.encode c)) ∧ w = w' := by
  have e1 : (c == 34) = false := by simpa using n1
  have e2 : (c == 92) = false := by simpa using n2
  have e3 : (c == 127) = false := by simpa using n3
  have e4 : (c == 10) = false := by simp; omega
  have e5 : decide (c < 32) = false := decide_eq_false (by omega)
  go_enter Tryz.func45, Tryz.ntmps45
  go_wp2_with fail
  go_ret
  exact ⟨rfl, rfl⟩
theorem mark_sign (c : Int) (h : c = 34 ∨ c = 92) (w : World) :
    Calls Tryz.prog 45 #[.int .i32 c] w fun e w' => e = .returned (.string ((⟨#[92]⟩ : ByteArray) ++ Utf8.encode c)) ∧ w = w' := by
  have hs : (Utf8.encode c).size = 1 := by rcases h with rfl | rfl <;> decide +kernel
  have hs2 : 1 + (Utf8.encode c).size ≤ 9223372036854775807 := by omega
  have hs3 : (9223372036854775807 < 1 + (Utf8.encode c).size) = False := eq_false (by omega)
  rcases h with rfl | rfl
  · go_enter Tryz.func45, Tryz.ntmps45
    go_wp2_with fail
    go_ret
    exact ⟨rfl, rfl⟩
  · go_enter Tryz.func45, Tryz.ntmps45
    go_wp2_with fail
    go_ret
    exact ⟨rfl, rfl⟩
theorem mark_line (w : World) :
    Calls Tryz.prog 45 #[.int .i32 10] w fun e w' => e = .returned (.string (⟨#[92, 110]⟩ : ByteArray)) ∧ w = w' := by
  go_enter Tryz.func45, Tryz.ntmps45
  go_wp2_with fail
  go_ret
  exact ⟨rfl, rfl⟩
theorem mark_hex (c : Int) (h0 : 0 ≤ c) (h : c < 32 ∨ c = 127) (n4 : c ≠ 10) (w : World) (ht : w.cell? ⟨7, 15, none⟩ = some (.int .u8 4)) :
    Calls Tryz.prog 45 #[.int .i32 c] w fun e w' => e = .returned (.string ((⟨#[92, 117, 123]⟩ : ByteArray) ++ strOfNums (hexL c) ++ (⟨#[125]⟩ : ByteArray))) ∧ Below w.heap.size w w' := by
  have hf := fi_calls c h0 (by omega) w ht
  have hz := hexL_size c
  obtain ⟨s, hs⟩ : ∃ s, s = strOfNums (hexL c) := ⟨_, rfl⟩
  rw [← hs] at hf hz ⊢
  have e1 : (c == 34) = false := by simp; omega
  have e2 : (c == 92) = false := by simp; omega
  have e4 : (c == 10) = false := by simpa using n4
  have hs2 : 3 + s.size ≤ 9223372036854775807 := by omega
  have hs3 : (9223372036854775807 < 3 + s.size) = False := eq_false (by omega)
  have hs4 : 3 + s.size + 1 ≤ 9223372036854775807 := by omega
  have hs5 : (9223372036854775807 < 3 + s.size + 1) = False := eq_false (by omega)
  by_cases h2 : c < 32
  · have e5 : decide (c < 32) = true := decide_eq_true h2
    clear hs hz
    go_enter Tryz.func45, Tryz.ntmps45
    go_wp2_with fail
    refine hf.mono ?_
    rintro e w' ⟨rfl, hb⟩
    have HB := Aside0.mk hb
    clear hb hf
    go_wp2
    go_ret
    exact ⟨rfl, HB.out⟩
  · have e5 : decide (c < 32) = false := decide_eq_false h2
    have e6 : (c == 127) = true := by simp; omega
    clear hs hz
    go_enter Tryz.func45, Tryz.ntmps45
    go_wp2_with fail
    refine hf.mono ?_
    rintro e w' ⟨rfl, hb⟩
    have HB := Aside0.mk hb
    clear hb hf
    go_wp2
    go_ret
    exact ⟨rfl, HB.out⟩
theorem mark_calls (c : Int) (h0 : 0 ≤ c) (h1 : c ≤ 2147483647) (w : World) (ht : w.cell? ⟨7, 15, none⟩ = some (.int .u8 4)) :
    Calls Tryz.prog 45 #[.int .i32 c] w fun e w' => e = .returned (.string (markB c)) ∧ Below w.heap.size w w' := by
  unfold markB
  by_cases h : c = 34 ∨ c = 92
  · rw [if_pos h]
    exact (mark_sign c h w).mono (by rintro e w' ⟨rfl, rfl⟩; exact ⟨rfl, Below.refl _ _⟩)
  · rw [if_neg h]
    by_cases h2 : c = 10
    · rw [if_pos h2]; subst h2
      exact (mark_line w).mono (by rintro e w' ⟨rfl, rfl⟩; exact ⟨rfl, Below.refl _ _⟩)
    · rw [if_neg h2]
      by_cases h3 : c < 32 ∨ c = 127
      · rw [if_pos h3]; exact mark_hex c h0 h3 h2 w ht
      · rw [if_neg h3]
        exact (mark_plain c (by omega) h1 (by omega) (by omega) (by omega) w).mono (by rintro e w' ⟨rfl, rfl⟩; exact ⟨rfl, Below.refl _ _⟩)
end Go.Proofs.YtgafnjgiikdofaaGreatDoor.Sm
namespace Go.Proofs.YtgafnjgiikdofaaGreatDoor.Sk
set_option linter.unusedVariables false
set_option linter.unusedSimpArgs false
open Go.Shelf Go.RowKit Go.Proofs.YtgafnjgiikdofaaGreatDoor.Sb
theorem copy_k (B b : Nat) (bs : List Value) (w : World) (h : Lib.IsBuilderF 62 5 B b bs w) :
    Calls Tryz.prog 90 #[.pointer (some ⟨b, 0, none⟩)] w fun e w' => e = .returned (.tuple #[]) ∧ Lib.BuilderAtF 62 5 B b (.pointer (some ⟨b, 0, none⟩)) bs w' ∧ Below B w w' ∧ Lib.OthersKept 5 (some b) w w' := by
  rcases h with h | h
  · refine (copy_fresh b w h.cell0 h.shape h.frozen0).mono ?_
    rintro e w' ⟨rfl, rfl⟩
    exact ⟨rfl, h.used _, (Below.refl B w).setCell (p := ⟨b, 0, none⟩) h.1 _, (Lib.OthersKept.refl 5 (some b) w).setCell ⟨b, 0, none⟩ rfl _⟩
  · refine (copy_used b w h.cell0).mono ?_
    rintro e w' ⟨rfl, rfl⟩
    exact ⟨rfl, h, Below.refl _ _, Lib.OthersKept.refl _ _ _⟩
set_option maxHeartbeats 2000000 in
set_option maxRecDepth 100000 in
theorem wbyte_k (B b : Nat) (bs : List Value) (c : Int) (w : World) (h : Lib.IsBuilderF 62 5 B b bs w) (hlen : bs.length + 1 ≤ 140737488355328) (hBw : B ≤ w.heap.size) :
    Calls Tryz.prog 51 #[.pointer (some ⟨b, 0, none⟩), .int .u8 c] w fun e w' => e = .returned .nilIface ∧ Lib.BuilderAtF 62 5 B b (.pointer (some ⟨b, 0, none⟩)) (bs ++ [.int .u8 c]) w' ∧ Below B w w' ∧ Lib.OthersKept 5 (some b) w w' := by
  obtain ⟨i0, hi, hz0, hz1, hz2⟩ := info_parts info5
  have hcc := copy_k B b bs w h
  go_enter Tryz.func51, Tryz.ntmps51
  go_wp2_with fail
  refine hcc.mono ?_
  rintro e w1 ⟨rfl, ⟨hB, v, hbk, hown, hne⟩, hb1, hk1⟩
  have c0 : w1.cell? ⟨b, 0, none⟩ = some (.pointer (some ⟨b, 0, none⟩)) := by rw [Lib.cell_of_heap hbk]; rfl
  have c1 : w1.cell? ⟨b, 1, none⟩ = some v := by rw [Lib.cell_of_heap hbk]; rfl
  have hs1 := hb1.size
  have hlt : b < w1.heap.size := by
    rcases Nat.lt_or_ge b w1.heap.size with h' | h'
    · exact h'
    · simp [Array.getElem?_eq_none h'] at hbk
  go_wp2_with (at_builtin; refine wpList_append_ownF _ rfl _ _ 48 rfl B 5 i0 (.int .u8 0) 1 1 Tryz.underlying48 hi hz0 hz1 hz2 rfl (by decide) _ _ _ rfl (hown.alloc _) ⟨w1.heap.size, 0, none⟩ 1 1 [.int .u8 c] rfl rfl (fun j u hj => by match j, hj with | 0, hj => simp at hj; subst hj; simp [Addr.add]) (fun u hu => by simp at hu; subst hu; rfl) (by unfold maxLen; omega) (by omega) (by simp; omega) ?_)
  intro v' w2 hown' hgrow _
  have hb2 : w2.heap[b]? = some (.cells #[.pointer (some ⟨b, 0, none⟩), v] 62 (0, 0)) := by
    rw [hgrow.block b (by simp; omega) (fun e => hne e.symm), Lib.alloc_old w1 _ b hlt]
    exact hbk
  have d0 : w2.cell? ⟨b, 0, none⟩ = some (.pointer (some ⟨b, 0, none⟩)) := by rw [Lib.cell_of_heap hb2]; rfl
  have d1 : w2.cell? ⟨b, 1, none⟩ = some v := by rw [Lib.cell_of_heap hb2]; rfl
  have f1 : w2.frozen? ⟨b, 1, none⟩ = false := Lib.frozen_of_heap hb2 1
  obtain ⟨g, cap, rfl⟩ : ∃ g cap, v' = .slice (some ⟨g, 0, none⟩) (bs.length + 1) cap := by
    rcases hown'.2 with ⟨_, h0⟩ | ⟨g, cap, cur, fz, hv, _⟩
    · omega
    · exact ⟨g, cap, hv⟩
  go_wp2
  go_ret
  exact ⟨rfl, Lib.BuilderAtF.put (T := 62) (e := 5) hB hb2 (bs' := bs ++ [.int .u8 c]) (by simpa using hown') (by decide), ((hb1.alloc (by omega) _).grown hgrow (by simp; omega) (fun k hk => (hown.lt k hk).1)).setCell (p := ⟨b, 1, none⟩) hB _, ((hk1.alloc _).grown hgrow (Lib.ownsRowF_kind (hown.alloc _))).setCell ⟨b, 1, none⟩ rfl _⟩
set_option maxHeartbeats 2000000 in
set_option maxRecDepth 100000 in
theorem wstr_k (B b : Nat) (bs : List Value) (s : ByteArray) (w : World) (h : Lib.IsBuilderF 62 5 B b bs w) (hlen : bs.length + s.size ≤ 140737488355328) (hBw : B ≤ w.heap.size) :
    Calls Tryz.prog 52 #[.pointer (some ⟨b, 0, none⟩), .string s] w fun e w' => e = .returned (.tuple #[.int .i64 s.size, .nilIface]) ∧ Lib.BuilderAtF 62 5 B b (.pointer (some ⟨b, 0, none⟩)) (bs ++ Lib.strCells s) w' ∧ Below B w w' ∧ Lib.OthersKept 5 (some b) w w' := by
  obtain ⟨i0, hi, hz0, hz1, hz2⟩ := info_parts info5
  have hcc := copy_k B b bs w h
  go_enter Tryz.func52, Tryz.ntmps52
  go_wp2_with fail
  refine hcc.mono ?_
  rintro e w1 ⟨rfl, ⟨hB, v, hbk, hown, hne⟩, hb1, hk1⟩
  have c0 : w1.cell? ⟨b, 0, none⟩ = some (.pointer (some ⟨b, 0, none⟩)) := by rw [Lib.cell_of_heap hbk]; rfl
  have c1 : w1.cell? ⟨b, 1, none⟩ = some v := by rw [Lib.cell_of_heap hbk]; rfl
  have hs1 := hb1.size
  have hlt : b < w1.heap.size := by
    rcases Nat.lt_or_ge b w1.heap.size with h' | h'
    · exact h'
    · simp [Array.getElem?_eq_none h'] at hbk
  go_wp2_with (at_builtin; refine Lib.wpList_append_own_stringF _ rfl _ _ 48 9 rfl B 5 i0 Tryz.underlying48 Tryz.underlying9 hi hz0 hz1 hz2 _ _ _ rfl hown s rfl (by unfold maxLen; omega) (by omega) (by omega) ?_)
  intro v' w2 hown' hgrow _
  have hb2 : w2.heap[b]? = some (.cells #[.pointer (some ⟨b, 0, none⟩), v] 62 (0, 0)) := by
    rw [hgrow.block b hlt (fun e => hne e.symm)]
    exact hbk
  have d0 : w2.cell? ⟨b, 0, none⟩ = some (.pointer (some ⟨b, 0, none⟩)) := by rw [Lib.cell_of_heap hb2]; rfl
  have d1 : w2.cell? ⟨b, 1, none⟩ = some v := by rw [Lib.cell_of_heap hb2]; rfl
  have f1 : w2.frozen? ⟨b, 1, none⟩ = false := Lib.frozen_of_heap hb2 1
  obtain ⟨ao, n', cap, rfl⟩ : ∃ ao n' cap, v' = .slice ao n' cap := by
    rcases hown'.2 with ⟨hv, _⟩ | ⟨g, cap, cur, fz, hv, _⟩
    · exact ⟨_, _, _, hv⟩
    · exact ⟨_, _, _, hv⟩
  go_wp2
  go_ret2
  exact ⟨rfl, Lib.BuilderAtF.put (T := 62) (e := 5) hB hb2 (bs' := bs ++ Lib.strCells s) (by simpa [Lib.strCells_length] using hown') (by decide), (hb1.grown hgrow (by omega) (fun k hk => (hown.lt k hk).1)).setCell (p := ⟨b, 1, none⟩) hB _, (hk1.grown hgrow (Lib.ownsRowF_kind hown)).setCell ⟨b, 1, none⟩ rfl _⟩
end Go.Proofs.YtgafnjgiikdofaaGreatDoor.Sk
namespace Go.Proofs.YtgafnjgiikdofaaGreatDoor.Sr
set_option linter.unusedVariables false
set_option linter.unusedSimpArgs false
open Go.Shelf Go.RowKit Go.Proofs.YtgafnjgiikdofaaGreatDoor.Sb Go.Proofs.YtgafnjgiikdofaaGreatDoor.Sk
set_option maxHeartbeats 2000000 in
set_option maxRecDepth 100000 in
theorem wrune_k (B b : Nat) (bs : List Value) (r : Int) (hr0 : -2147483648 ≤ r) (hr1 : r ≤ 2147483647) (w : World) (h : Lib.IsBuilderF 62 5 B b bs w) (hlen : bs.length + 4 ≤ 140737488355328) (hBw : B ≤ w.heap.size) :
    Calls Tryz.prog 46 #[.pointer (some ⟨b, 0, none⟩), .int .i32 r] w fun e w' => e = .returned (.tuple #[.int .i64 (Lib.runeCells r).length, .nilIface]) ∧ Lib.BuilderAtF 62 5 B b (.pointer (some ⟨b, 0, none⟩)) (bs ++ Lib.runeCells r) w' ∧ Below B w w' ∧ Lib.OthersKept 5 (some b) w w' := by
  have hcc := copy_k B b bs w h
  go_enter Tryz.func46, Tryz.ntmps46
  go_wp2_with fail
  refine hcc.mono ?_
  rintro e w1 ⟨rfl, ⟨hB, v, hbk, hown, hne⟩, hb1, hk1⟩
  obtain ⟨ao, cap, rfl⟩ : ∃ ao cap, v = .slice ao bs.length cap := by
    rcases hown.2 with ⟨hv, h0⟩ | ⟨g, cap, cur, fz, hv, _⟩
    · exact ⟨none, 0, by rw [hv, h0]⟩
    · exact ⟨_, _, hv⟩
  have c0 : w1.cell? ⟨b, 0, none⟩ = some (.pointer (some ⟨b, 0, none⟩)) := by rw [Lib.cell_of_heap hbk]; rfl
  have c1 : w1.cell? ⟨b, 1, none⟩ = some (.slice ao bs.length cap) := by rw [Lib.cell_of_heap hbk]; rfl
  have hs1 := hb1.size
  have hlt : b < w1.heap.size := by
    rcases Nat.lt_or_ge b w1.heap.size with h' | h'
    · exact h'
    · simp [Array.getElem?_eq_none h'] at hbk
  have hap := Tryz.utf8_AppendRune_row B (.slice ao bs.length cap) bs.length bs r hr0 hr1 w1 hown hlen (by omega)
  go_wp2_with fail
  refine hap.mono ?_
  rintro e w2 ⟨v', rfl, hown', o, hgrow⟩
  have hb2 : w2.heap[b]? = some (.cells #[.pointer (some ⟨b, 0, none⟩), .slice ao bs.length cap] 62 (0, 0)) := by
    rw [hgrow.block b (by simp; omega) (fun e => hne e.symm), Lib.alloc_old w1 _ b hlt]
    exact hbk
  have d0 : w2.cell? ⟨b, 0, none⟩ = some (.pointer (some ⟨b, 0, none⟩)) := by rw [Lib.cell_of_heap hb2]; rfl
  have d1 : w2.cell? ⟨b, 1, none⟩ = some (.slice ao bs.length cap) := by rw [Lib.cell_of_heap hb2]; rfl
  have f1 : w2.frozen? ⟨b, 1, none⟩ = false := Lib.frozen_of_heap hb2 1
  obtain ⟨m, hm⟩ : ∃ m, m = (Lib.runeCells r).length := ⟨_, rfl⟩
  obtain ⟨a2, c2, rfl⟩ : ∃ a2 c2, v' = .slice a2 (bs.length + (Lib.runeCells r).length) c2 := by
    rcases hown'.2 with ⟨hv, h0⟩ | ⟨g, cap, cur, fz, hv, _⟩
    · exact ⟨none, 0, by rw [hv, h0]⟩
    · exact ⟨_, _, hv⟩
  have hm4 := (Lib.runeCells_le r).2
  go_wp2
  go_ret2
  have hw : ((bs.length : Int) + ((Lib.runeCells r).length : Int) - (bs.length : Int)) = ((Lib.runeCells r).length : Int) := by omega
  rw [hw]
  refine ⟨rfl, ?_, ?_, ((hk1.alloc _).grown hgrow (Lib.ownsRowF_kind (hown.alloc _))).setCell ⟨b, 1, none⟩ rfl _⟩
  · exact Lib.BuilderAtF.put (T := 62) (e := 5) hB hb2 (bs' := bs ++ Lib.runeCells r) (by simpa using hown') (by decide)
  · exact ((hb1.alloc (by omega) _).grown hgrow (by simp; omega) (fun k hk => (hown.lt k hk).1)).setCell (p := ⟨b, 1, none⟩) hB _
end Go.Proofs.YtgafnjgiikdofaaGreatDoor.Sr
namespace Go.Proofs.YtgafnjgiikdofaaGreatDoor.Sv
set_option linter.unusedVariables false
set_option linter.unusedSimpArgs false
open Go.RowKit Go.Proofs.YtgafnjgiikdofaaGreatDoorW.PrintWords Go.Proofs.YtgafnjgiikdofaaGreatDoorW.PrintLast Go.Proofs.YtgafnjgiikdofaaGreatDoorW.PrintMore
/-- a value that may be -/
def valB (s : ByteArray) : Bool := decide (1 ≤ s.size) && decide (s.size ≤ 128) && Lib.validD s.data.toList
theorem value_calls (s : ByteArray) (w : World) (hT : Lib.Utf8Tabs 0 1 w) :
    Calls Tryz.prog 29 #[.string s] w fun e w' => e = .returned (.bool (valB s)) ∧ Below w.heap.size w w' := by
  unfold valB
  by_cases h1 : 1 ≤ s.size
  · by_cases h2 : s.size ≤ 128
    · have hv := Tryz.utf8_ValidString s w (by omega) hT
      have g1 : decide ((1 : Int) ≤ (s.size : Int)) = true := decide_eq_true (by omega)
      have g2 : decide ((s.size : Int) ≤ 128) = true := decide_eq_true (by omega)
      have g3 : decide (1 ≤ s.size) = true := decide_eq_true h1
      have g4 : decide (s.size ≤ 128) = true := decide_eq_true h2
      rw [g3, g4]
      simp only [Bool.true_and]
      go_enter Tryz.func29, Tryz.ntmps29
      go_wp2_with fail
      refine hv.mono ?_
      rintro e w' ⟨rfl, hb⟩
      have HB := Aside0.mk hb
      clear hb hv
      obtain ⟨vb, hvb⟩ : ∃ vb, vb = Lib.validD s.data.toList := ⟨_, rfl⟩
      rw [← hvb]
      have HV := Aside0.mk hvb
      clear hvb
      go_wp2
      go_ret
      exact ⟨by rw [← HV.out]; rfl, HB.out⟩
    · have g1 : decide ((1 : Int) ≤ (s.size : Int)) = true := decide_eq_true (by omega)
      have g2 : decide ((s.size : Int) ≤ 128) = false := decide_eq_false (by omega)
      have g3 : decide (1 ≤ s.size) = true := decide_eq_true h1
      have g4 : decide (s.size ≤ 128) = false := decide_eq_false h2
      rw [g3, g4]
      simp only [Bool.true_and, Bool.false_and]
      go_enter Tryz.func29, Tryz.ntmps29
      go_wp2_with fail
      repeat (go_quiet (fail); try go_wp2)
      go_ret
      exact ⟨rfl, by first | exact Below.refl _ _ | exact pw_below_drewN (Below.refl _ _) _⟩
  · have g1 : decide ((1 : Int) ≤ (s.size : Int)) = false := decide_eq_false (by omega)
    have g3 : decide (1 ≤ s.size) = false := decide_eq_false h1
    rw [g3]
    simp only [Bool.false_and]
    go_enter Tryz.func29, Tryz.ntmps29
    go_wp2_with fail
    repeat (go_quiet (fail); try go_wp2)
    go_ret
    exact ⟨rfl, by first | exact Below.refl _ _ | exact pw_below_drewN (Below.refl _ _) _⟩
end Go.Proofs.YtgafnjgiikdofaaGreatDoor.Sv
namespace Go.Proofs.YtgafnjgiikdofaaGreatDoor.Sw
set_option linter.unusedVariables false
set_option linter.unusedSimpArgs false
open Go.RowKit Go.Proofs.YtgafnjgiikdofaaGreatDoorW.PrintWords Go.Proofs.YtgafnjgiikdofaaGreatDoorW.PrintLast Go.Proofs.YtgafnjgiikdofaaGreatDoorW.PrintMore
/-- a text without the blanks at its beginning -/
def blanksB (s : ByteArray) : ByteArray := ⟨(Lib.trimLeftB s.data.toList 32).toArray⟩
theorem blanks_calls (s : ByteArray) (w : World) :
    Calls Tryz.prog 54 #[.string s] w fun e w' => e = .returned (.string (blanksB s)) ∧ w' = w := by
  have h := Tryz.strings_TrimLeft_one s 32 (by decide) w
  go_enter Tryz.func54, Tryz.ntmps54
  go_wp2_with fail
  refine h.mono ?_
  rintro e w' ⟨rfl, rfl⟩
  clear h
  go_wp2
  go_ret
  exact ⟨rfl, rfl⟩
end Go.Proofs.YtgafnjgiikdofaaGreatDoor.Sw
namespace Go.Proofs.YtgafnjgiikdofaaGreatDoor.Sq
set_option linter.unusedVariables false
set_option linter.unusedSimpArgs false
open Go.RowKit Go.Proofs.YtgafnjgiikdofaaGreatDoorW.PrintWords Go.Proofs.YtgafnjgiikdofaaGreatDoorW.PrintLast Go.Proofs.YtgafnjgiikdofaaGreatDoorW.PrintMore
open Go.Proofs.YtgafnjgiikdofaaGreatDoor.Sm Go.Proofs.YtgafnjgiikdofaaGreatDoor.Sk
theorem atF_below {T e : TypeId} {B b : Nat} {p : Value} {bs : List Value} {W W' : World} (h : Lib.BuilderAtF T e B b p bs W) (hb : Below W.heap.size W W') : Lib.BuilderAtF T e B b p bs W' := by
  have hlt := h.lt
  obtain ⟨hB, v, hv, hown, hne⟩ := h
  exact ⟨hB, v, (hb.block b hlt).trans hv, hown.kept (row := none) ⟨hb.os, hb.tape, hb.output, hb.size, fun k hk _ => hb.block k hk⟩ (Classical.em _), hne⟩
theorem isF_below {T e : TypeId} {B b : Nat} {bs : List Value} {W W' : World} (h : Lib.IsBuilderF T e B b bs W) (hb : Below W.heap.size W W') : Lib.IsBuilderF T e B b bs W' :=
  h.elim (fun x => .inl (atF_below x hb)) (fun x => .inr (atF_below x hb))
/-- the bytes of a rune as it is quoted -/
def markL (c : Nat) : List UInt8 := (markB c).data.toList
/-- what stands between the quotes, from a place on -/
def quoteFrom (s : ByteArray) : Nat → Nat → List UInt8
  | 0, _ => []
  | fuel + 1, pos => if pos < s.size then markL (Utf8.decode s pos).1 ++ quoteFrom s fuel (pos + (Utf8.decode s pos).2) else []
theorem quoteFrom_end (s : ByteArray) (fuel pos : Nat) (h : ¬ pos < s.size) : quoteFrom s fuel pos = [] := by
  cases fuel with
  | zero => rfl
  | succ f => simp [quoteFrom, h]
/-- a text, quoted -/
def quoteL (s : ByteArray) : List UInt8 := if Lib.validD s.data.toList then 34 :: (quoteFrom s s.size 0 ++ [34]) else []
theorem width_pos (s : ByteArray) (pos : Nat) (h : pos < s.size) : 1 ≤ (Utf8.decode s pos).2 := Lib.width_pos s pos
theorem encode_le (c : Int) : 1 ≤ (Utf8.encode c).size ∧ (Utf8.encode c).size ≤ 4 := by
  unfold Utf8.encode
  simp only
  repeat' split
  all_goals simp [ByteArray.size]
theorem markL_le (c : Nat) : (markL c).length ≤ 6 := by
  have he := (encode_le (c : Int)).2
  have hz := hexL_size (c : Int)
  have e : (markL c).length = (markB c).size := (Lib.size_eq _).symm
  rw [e]
  have k1 : (⟨#[92]⟩ : ByteArray).size = 1 := rfl
  have k2 : (⟨#[92, 110]⟩ : ByteArray).size = 2 := rfl
  have k3 : (⟨#[92, 117, 123]⟩ : ByteArray).size = 3 := rfl
  have k4 : (⟨#[125]⟩ : ByteArray).size = 1 := rfl
  unfold markB
  generalize Utf8.encode (c : Int) = E at he ⊢
  generalize strOfNums (Go.Proofs.YtgafnjgiikdofaaGreatDoor.Sf.hexL (c : Int)) = S at hz ⊢
  repeat' split
  · rw [ByteArray.size_append, k1]; omega
  · rw [k2]; omega
  · rw [ByteArray.size_append, ByteArray.size_append, k3, k4]; omega
  · omega
theorem decodeN_le_n (n b0 b1 b2 b3 : Nat) (hn : 1 ≤ n) : (Lib.decodeN n b0 b1 b2 b3).2 ≤ n := by
  unfold Lib.decodeN
  repeat' split
  all_goals (simp only; omega)
theorem decode_max (s : ByteArray) (pos : Nat) : (Utf8.decode s pos).1 ≤ 1114111 := Lib.rune_le s pos
theorem decode_end (s : ByteArray) (pos : Nat) (h : pos < s.size) : pos + (Utf8.decode s pos).2 ≤ s.size := by
  rw [Lib.decode_at]
  have := decodeN_le_n (s.size - pos) (s.get! pos).toNat (s.get! (pos + 1)).toNat (s.get! (pos + 2)).toNat (s.get! (pos + 3)).toNat (by omega)
  omega
theorem cell_at {B : Nat} {w w' : World} (h : Below B w w') {p : Addr} {v : Value} (hB : w.heap.size ≤ B ∨ p.block < B) (hc : w.cell? p = some v) : w'.cell? p = some v := by
  rcases hB with hB | hB
  · rw [h.cell (Nat.lt_of_lt_of_le (World.block_lt_of_cell? w p hc) hB)]; exact hc
  · rw [h.cell hB]; exact hc
set_option maxHeartbeats 4000000 in
set_option maxRecDepth 1000000 in
theorem quote_calls (s : ByteArray) (w : World) (hs : s.size ≤ 17592186044416) (hT : Lib.Utf8Tabs 0 1 w) (ht : w.cell? ⟨7, 15, none⟩ = some (.int .u8 4)) :
    Calls Tryz.prog 13 #[.string s] w fun e w' => e = .returned (.string ⟨(quoteL s).toArray⟩) ∧ Below w.heap.size w w' := by
  have hval := Tryz.utf8_ValidString s w (by omega) hT
  unfold quoteL
  obtain ⟨vb, hvb⟩ : ∃ vb, vb = Lib.validD s.data.toList := ⟨_, rfl⟩
  rw [← hvb] at hval ⊢
  go_enter Tryz.func13, Tryz.ntmps13
  go_wp2_with fail
  refine hval.mono ?_
  rintro e w1 ⟨rfl, hb1⟩
  have ht1 := cell_at hb1 (Or.inl (Nat.le_refl _)) ht
  have HV := Aside0.mk hvb
  clear hvb hval
  cases vb with
  | false =>
    go_wp2
    go_ret
    exact ⟨rfl, hb1⟩
  | true =>
    have hfr := Lib.IsBuilderF.of (Lib.fresh_isBuilder 62 5 w1)
    have hw1 := hb1.size
    have h34 := fun (W : World) (l : List Value) (h : Lib.IsBuilderF 62 5 w1.heap.size w1.heap.size l W) (hl : l.length + 1 ≤ 140737488355328) (hBw : w1.heap.size ≤ W.heap.size) => wbyte_k w1.heap.size w1.heap.size l 34 W h hl hBw
    go_wp2_with fail
    refine (h34 _ [] hfr (by simp) (by simp)).mono ?_
    rintro e w2 ⟨rfl, h2, b2, k2⟩
    have b2' : Below w1.heap.size w1 w2 := ((Below.refl _ w1).alloc (Nat.le_refl _) _).trans b2
    have hB2 : w1.heap.size < w2.heap.size := h2.lt
    have h2' := Lib.IsBuilderF.alloc (Or.inr h2) (.stringIter s 0)
    clear hfr k2 h34 b2 h2
    have hwb := fun (W : World) (l : List Value) (h : Lib.IsBuilderF 62 5 w1.heap.size w1.heap.size l W) (hl : l.length + 1 ≤ 140737488355328) (hBw : w1.heap.size ≤ W.heap.size) => wbyte_k w1.heap.size w1.heap.size l 34 W h hl hBw
    go_wp2
    go_loopw [] (fun wr => ∃ (pos fuel : Nat) (acc : List UInt8), Lib.IsBuilderF 62 5 w1.heap.size w1.heap.size (Lib.byteCells acc) wr ∧ wr.heap[w2.heap.size]? = some (.stringIter s pos) ∧ Below w1.heap.size w1 wr ∧ acc ++ quoteFrom s fuel pos = 34 :: quoteFrom s s.size 0 ∧ s.size ≤ pos + fuel ∧ acc.length ≤ 6 * pos + 1 ∧ pos ≤ s.size) (fun wr => s.size - wr.iterPos w2.heap.size)
    case atStart =>
      refine ⟨0, s.size, [34], ?_, ?_, ?_, rfl, by omega, by simp, by omega⟩
      · exact h2'
      · simpa using World.iter_heap w2 s 0
      · exact b2'.alloc (by omega) _
    case round =>
      obtain ⟨pos, fuel, acc, hI, hit, hbw, hacc, hfu, hal, hps⟩ := hrel
      have hsz : w2.heap.size < wr.heap.size := (Array.getElem?_eq_some_iff.1 hit).1
      by_cases hp : pos < s.size
      · have hnx : ∀ ty, (Instr.next (.pointer (some ⟨w2.heap.size, 0, none⟩)) true ty).run Tryz.prog wr = _ := fun ty => Lib.run_next_any_at wr w2.heap.size s pos ty hit hp
        have hwd := width_pos s pos hp
        have hd1 := decode_le s pos
        have hd2 := decode_max s pos
        have hd3 := decode_end s pos hp
        have hI2 := hI.iterAt hit (pos + (Utf8.decode s pos).2)
        have hit2 := Lib.iterAt_heap wr w2.heap.size s pos (pos + (Utf8.decode s pos).2) hit
        have hbw2 := Lib.below_iterAt hbw (k := w2.heap.size) (by omega) s (pos + (Utf8.decode s pos).2)
        have hsz2 : (wr.iterAt w2.heap.size s (pos + (Utf8.decode s pos).2)).heap.size = wr.heap.size := by rw [Lib.iterAt_size]
        obtain ⟨f, rfl⟩ : ∃ f, fuel = f + 1 := ⟨fuel - 1, by omega⟩
        have hip : wr.iterPos w2.heap.size = pos := by simp only [World.iterPos, hit]
        have htr := cell_at hbw2 (Or.inl (Nat.le_refl _)) ht1
        have hmk := mark_calls ((Utf8.decode s pos).1 : Int) (by omega) (by omega) _ htr
        have hml := markL_le (Utf8.decode s pos).1
        have hstep : (acc ++ markL (Utf8.decode s pos).1) ++ quoteFrom s f (pos + (Utf8.decode s pos).2) = 34 :: quoteFrom s s.size 0 := by
          rw [← hacc]; simp [quoteFrom, hp]
        have hws : ∀ W1, Lib.IsBuilderF 62 5 w1.heap.size w1.heap.size (Lib.byteCells acc) W1 → w1.heap.size ≤ W1.heap.size → _ := fun W1 h h' =>
          wstr_k w1.heap.size w1.heap.size (Lib.byteCells acc) (markB (Utf8.decode s pos).1) W1 h (by rw [Lib.byteCells_length]; have : (markB (Utf8.decode s pos).1).size = (markL (Utf8.decode s pos).1).length := (Lib.size_eq _); omega) h'
        obtain ⟨M, hM⟩ : ∃ M, M = markB (Utf8.decode s pos).1 := ⟨_, rfl⟩
        have hML : markL (Utf8.decode s pos).1 = M.data.toList := by rw [hM]; rfl
        rw [hML] at hml hstep
        rw [← hM] at hmk hws
        clear hM hML hwb
        have HS := Aside0.mk hstep
        have HL := Aside0.mk hml
        clear hstep hml hacc
        go_wp2_with fail
        refine hmk.mono ?_
        rintro e W1 ⟨rfl, c1⟩
        have i1 : W1.heap[w2.heap.size]? = some (.stringIter s (pos + (Utf8.decode s pos).2)) := by rw [c1.block _ (by omega)]; exact hit2
        have j1 := isF_below hI2 c1
        have s1 := c1.size
        have c2 := hbw2.trans (c1.mono (by omega))
        have hw2 := hws W1 j1 (by omega)
        clear hmk hws j1 c1 hit2 hbw2 hI2
        go_wp2_with fail
        refine hw2.mono ?_
        rintro e W2 ⟨rfl, h3, b3, k3⟩
        have i2 := k3.iter i1 (by omega)
        clear hw2
        go_wp2_with fail
        have hstep := HS.out
        have hml := HL.out
        go_roundw
        case rel =>
          refine ⟨pos + (Utf8.decode s pos).2, f, acc ++ M.data.toList, ?_, i2, c2.trans b3, hstep, by omega, by simp only [List.length_append]; omega, by omega⟩
          rw [Lib.byteCells_append]; exact Or.inr h3
        case measure =>
          rw [hip]
          simp only [World.iterPos, i2]
          omega
      · have hnx : ∀ ty, (Instr.next (.pointer (some ⟨w2.heap.size, 0, none⟩)) true ty).run Tryz.prog wr = _ := fun ty => Lib.run_next_end_at wr w2.heap.size s pos ty hit hp
        rw [quoteFrom_end s fuel pos hp, List.append_nil] at hacc
        have hs1 := hbw.size
        have h34 := hwb wr (Lib.byteCells acc) hI (by rw [Lib.byteCells_length]; omega) (by omega)
        clear hwb hI
        have HA := Aside0.mk hacc
        clear hacc
        go_wp2_with fail
        refine h34.mono ?_
        rintro e W1 ⟨rfl, h3, b3, k3⟩
        have s3 := b3.size
        have h3' : Lib.IsBuilderF 62 5 w1.heap.size w1.heap.size (Lib.byteCells (acc ++ [34])) W1 := by
          rw [Lib.byteCells_append]; exact Or.inr h3
        have hst := Tryz.Builder_String_any_k w1.heap.size w1.heap.size (acc ++ [34]) W1 h3' (by omega)
        clear h34 h3 h3'
        go_wp2_with fail
        refine hst.mono ?_
        rintro e W2 ⟨rfl, _, b4, _⟩
        clear hst
        go_wp2_with fail
        go_ret
        have hacc := HA.out
        subst hacc
        exact ⟨by simp, hb1.trans ((hbw.trans (b3.trans b4)).mono hw1)⟩
end Go.Proofs.YtgafnjgiikdofaaGreatDoor.Sq
namespace Go.Proofs.YtgafnjgiikdofaaGreatDoor.Sn
set_option linter.unusedVariables false
set_option linter.unusedSimpArgs false
open Go.RowKit Go.Proofs.YtgafnjgiikdofaaGreatDoorW.PrintWords Go.Proofs.YtgafnjgiikdofaaGreatDoorW.PrintLast Go.Proofs.YtgafnjgiikdofaaGreatDoorW.PrintMore
open Go.Proofs.YtgafnjgiikdofaaGreatDoor.A
def letB (c : Int) : Bool := decide (97 ≤ c) && decide (c ≤ 122) || (decide (65 ≤ c) && decide (c ≤ 90) || (c == 95))
def digB (c : Int) : Bool := decide (48 ≤ c) && decide (c ≤ 57)
theorem letB_eq (c : Int) : label_letter.f c = some (letB c) := by
  unfold label_letter.f letB
  by_cases a : 97 ≤ c <;> by_cases b : c ≤ 122 <;> by_cases d : 65 ≤ c <;> by_cases e : c ≤ 90 <;> simp [a, b, d, e]
  all_goals omega
theorem digB_eq (c : Int) : label_digit.f c = some (digB c) := by
  unfold label_digit.f digB
  split <;> simp <;> omega
theorem drawn0_below {w w' : World} (h : Drawn0 w w') : Below w.heap.size w w' := by
  obtain ⟨n, rfl⟩ := h.out
  exact pw_below_drewN (Below.refl _ _) _
theorem let_calls (c : Int) (w : World) : Calls Tryz.prog 66 #[.int .i32 c] w fun e w' => e = .returned (.bool (letB c)) ∧ Below w.heap.size w w' :=
  (label_letter.calls c _ w (letB_eq c)).mono (by rintro e w' ⟨rfl, h⟩; exact ⟨rfl, drawn0_below h⟩)
theorem dig_calls (c : Int) (w : World) : Calls Tryz.prog 67 #[.int .i32 c] w fun e w' => e = .returned (.bool (digB c)) ∧ Below w.heap.size w w' :=
  (label_digit.calls c _ w (digB_eq c)).mono (by rintro e w' ⟨rfl, h⟩; exact ⟨rfl, drawn0_below h⟩)
theorem width_pos (s : ByteArray) (pos : Nat) (h : pos < s.size) : 1 ≤ (Utf8.decode s pos).2 := by
  by_cases ha : (s[pos]'h).toNat < 128
  · rw [decode_ascii s pos h ha]
    exact Nat.le_refl _
  · exact (decode_high s pos h (by omega)).2
/-- are the runes from a place on those of a name? -/
def nameFrom (s : ByteArray) : Nat → Nat → Bool
  | 0, _ => true
  | fuel + 1, pos => if pos < s.size then (if letB (Utf8.decode s pos).1 || (!(pos == 0) && digB (Utf8.decode s pos).1) then nameFrom s fuel (pos + (Utf8.decode s pos).2) else false) else true
def nameB (s : ByteArray) : Bool := nameFrom s s.size 0 && (decide (1 ≤ s.size) && decide (s.size ≤ 64))
theorem nameFrom_end (s : ByteArray) (fuel pos : Nat) (h : ¬ pos < s.size) : nameFrom s fuel pos = true := by
  cases fuel with
  | zero => rfl
  | succ f => simp [nameFrom, h]
set_option maxHeartbeats 4000000 in
set_option maxRecDepth 1000000 in
theorem name_calls (s : ByteArray) (w : World) (hs : s.size ≤ 9223372036854775807) :
    Calls Tryz.prog 27 #[.string s] w fun e w' => e = .returned (.bool (nameB s)) ∧ Below w.heap.size w w' := by
  obtain ⟨N, hN⟩ : ∃ N, N = nameFrom s s.size 0 := ⟨_, rfl⟩
  unfold nameB
  rw [← hN]
  go_enter Tryz.func27, Tryz.ntmps27
  go_wp2
  go_loopw [] (fun wr => ∃ (pos fuel : Nat), wr.heap[w.heap.size]? = some (.stringIter s pos) ∧ Below w.heap.size w wr ∧ nameFrom s fuel pos = N ∧ s.size ≤ pos + fuel) (fun wr => s.size - wr.iterPos w.heap.size)
  case atStart =>
    refine ⟨0, s.size, ?_, (Below.refl _ w).alloc (Nat.le_refl _) _, hN.symm, by omega⟩
    simpa using World.iter_heap w s 0
  case round =>
    obtain ⟨pos, fuel, hit, hbw, hn, hfu⟩ := hrel
    have hsz : w.heap.size < wr.heap.size := (Array.getElem?_eq_some_iff.1 hit).1
    by_cases hp : pos < s.size
    · have hnx : ∀ ty, (Instr.next (.pointer (some ⟨w.heap.size, 0, none⟩)) true ty).run Tryz.prog wr = _ := fun ty => Lib.run_next_any_at wr w.heap.size s pos ty hit hp
      have hwd := width_pos s pos hp
      have hit2 := Lib.iterAt_heap wr w.heap.size s pos (pos + (Utf8.decode s pos).2) hit
      have hbw2 := Lib.below_iterAt hbw (k := w.heap.size) (Nat.le_refl _) s (pos + (Utf8.decode s pos).2)
      have hsz2 : w.heap.size < (wr.iterAt w.heap.size s (pos + (Utf8.decode s pos).2)).heap.size := by rw [Lib.iterAt_size]; omega
      obtain ⟨f, rfl⟩ : ∃ f, fuel = f + 1 := ⟨fuel - 1, by omega⟩
      simp only [nameFrom, hp, if_true] at hn
      have hip : s.size - wr.iterPos w.heap.size = s.size - pos := by simp only [World.iterPos, hit]
      have hl := fun W => let_calls ((Utf8.decode s pos).1 : Int) W
      have hd := fun W => dig_calls ((Utf8.decode s pos).1 : Int) W
      obtain ⟨lb, hlb⟩ : ∃ lb, lb = letB ((Utf8.decode s pos).1 : Int) := ⟨_, rfl⟩
      obtain ⟨db, hdb⟩ : ∃ db, db = digB ((Utf8.decode s pos).1 : Int) := ⟨_, rfl⟩
      simp only [← hlb, ← hdb] at hl hd hn
      clear hlb hdb
      have fin : ∀ W1 : World, Below (wr.iterAt w.heap.size s (pos + (Utf8.decode s pos).2)).heap.size (wr.iterAt w.heap.size s (pos + (Utf8.decode s pos).2)) W1 →
          W1.heap[w.heap.size]? = some (.stringIter s (pos + (Utf8.decode s pos).2)) ∧ Below w.heap.size w W1 := fun W1 hb =>
        ⟨by rw [hb.block _ (by rw [Lib.iterAt_size]; exact hsz)]; exact hit2, hbw2.trans (hb.mono (by rw [Lib.iterAt_size]; omega))⟩
      cases lb with
      | true =>
        go_wp2_with fail
        refine (hl _).mono ?_
        rintro e W1 ⟨rfl, b1⟩
        obtain ⟨i1, b2⟩ := fin W1 b1
        clear fin hl hd
        go_wp2_with fail
        go_roundw
        case rel => exact ⟨pos + (Utf8.decode s pos).2, f, i1, b2, by simpa using hn, by omega⟩
        case measure =>
          simp only [World.iterPos, i1, hit]
          omega
      | false =>
        by_cases hp0 : pos = 0
        · have hpz : (((pos : Nat) : Int) == 0) = true := by subst hp0; rfl
          have hnf : N = false := by rw [← hn]; simp [hp0]
          subst hnf
          clear hp0 hn hfu hN
          go_wp2_with fail
          refine (hl _).mono ?_
          rintro e W1 ⟨rfl, b1⟩
          obtain ⟨i1, b2⟩ := fin W1 b1
          clear fin hl hd
          go_wp2_with fail
          go_ret
          exact ⟨rfl, b2⟩
        · have hpz : (((pos : Nat) : Int) == 0) = false := by simp; omega
          go_wp2_with fail
          refine (hl _).mono ?_
          rintro e W1 ⟨rfl, b1⟩
          clear hl
          go_wp2_with fail
          refine (hd _).mono ?_
          rintro e W2 ⟨rfl, b2⟩
          obtain ⟨i1, b3⟩ := fin W2 (b1.trans (b2.mono b1.size))
          clear fin hd
          cases db with
          | true =>
            go_wp2_with fail
            go_roundw
            case rel => exact ⟨pos + (Utf8.decode s pos).2, f, i1, b3, by simpa [hp0] using hn, by omega⟩
            case measure =>
              simp only [World.iterPos, i1, hit]
              omega
          | false =>
            have hnf : N = false := by rw [← hn]; simp
            subst hnf
            clear hn hfu hN
            go_wp2_with fail
            go_ret
            exact ⟨rfl, b3⟩
    · have hnx : ∀ ty, (Instr.next (.pointer (some ⟨w.heap.size, 0, none⟩)) true ty).run Tryz.prog wr = _ := fun ty => Lib.run_next_end_at wr w.heap.size s pos ty hit hp
      rw [nameFrom_end s fuel pos hp] at hn
      subst hn
      clear hN hfu
      by_cases h1 : 1 ≤ s.size
      · have g1 : decide ((1 : Int) ≤ (s.size : Int)) = true := decide_eq_true (by omega)
        by_cases h2 : s.size ≤ 64
        · have g2 : decide ((s.size : Int) ≤ 64) = true := decide_eq_true (by omega)
          go_wp2_with fail
          go_ret
          exact ⟨by simp [h1, h2], hbw⟩
        · have g2 : decide ((s.size : Int) ≤ 64) = false := decide_eq_false (by omega)
          go_wp2_with fail
          go_ret
          exact ⟨by simp [h1, h2], hbw⟩
      · have g1 : decide ((1 : Int) ≤ (s.size : Int)) = false := decide_eq_false (by omega)
        go_wp2_with fail
        go_ret
        exact ⟨by simp [h1], hbw⟩
end Go.Proofs.YtgafnjgiikdofaaGreatDoor.Sn
namespace Go.Proofs.YtgafnjgiikdofaaGreatDoor.Su
set_option linter.unusedVariables false
set_option linter.unusedSimpArgs false
open Go.Shelf Go.RowKit
/-- a byte as lower case: bit 32 set -/
def lowN (c : Nat) : Nat := if c / 32 % 2 = 1 then c else c + 32
theorem low_fin : ∀ c : Fin 256, bits .or .u8 ((c.val : Nat) : Int) 32 = ((lowN c.val : Nat) : Int) ∧ lowN c.val < 256 := by decide +kernel
theorem low_eq (c : UInt8) : bits .or .u8 (c.toNat : Int) 32 = ((lowN c.toNat : Nat) : Int) ∧ lowN c.toNat < 256 := low_fin ⟨c.toNat, c.toNat_lt⟩
theorem lower_calls (c : UInt8) (w : World) :
    Calls Tryz.prog 131 #[.int .u8 c.toNat] w fun e w' => e = .returned (.int .u8 (lowN c.toNat)) ∧ w' = w := by
  have h := (low_eq c).1
  go_enter Tryz.func131, Tryz.ntmps131
  go_wp2
  go_ret
  exact ⟨rfl, rfl⟩
/-- a digit to the base 16 -/
def hexD (c : Nat) : Option Nat := if 48 ≤ c ∧ c ≤ 57 then some (c - 48) else if 97 ≤ lowN c ∧ lowN c ≤ 102 then some (lowN c - 87) else none
/-- a number to the base 16, at most 255 -/
def hexU (acc : Nat) : List UInt8 → Lib.NumEnd Nat
  | [] => .ok acc
  | c :: r => match hexD c.toNat with
    | none => .syntax
    | some d => if 255 < acc * 16 + d then .range else hexU (acc * 16 + d) r
set_option maxHeartbeats 32000000 in
set_option maxRecDepth 100000 in
theorem inner_calls (t : ByteArray) (hne : t.size ≠ 0) (hmax : t.size ≤ 9223372036854775806) (w : World) :
    Calls Tryz.prog 114 #[.string t, .int .i64 16, .int .i64 8] w fun e w' => e = .returned (Lib.uintTupleM 149 255 (hexU 0 t.data.toList)) ∧ w' = Lib.bytesWorld w 5 t := by
  have hemp : t.toList.isEmpty = false := by
    rw [← decide_eq_emptyBytes]
    exact decide_eq_false (fun h => hne (by rw [h]; rfl))
  have hcv := Lib.run_convert_string_bytes (P := Tryz.prog) w 9 48 5 t (u := .string) Tryz.underlying9 Tryz.underlying48 Tryz.underlying5
  have hB : ∀ j, j < t.size → (Lib.bytesWorld w 5 t).cell? ⟨w.heap.size, j, none⟩ = some (.int .u8 (t.data.toList.getD j 0).toNat) := fun j hj => Lib.bytesWorld_cell w 5 t j hj
  obtain ⟨W1, hW1⟩ : ∃ W1, W1 = Lib.bytesWorld w 5 t := ⟨_, rfl⟩
  rw [← hW1] at hcv hB ⊢
  clear hW1
  obtain ⟨bs, hL⟩ : ∃ bs, bs = t.data.toList := ⟨_, rfl⟩
  have hLn : bs.length = t.size := by rw [hL, Lib.size_eq]
  rw [← hL] at hB ⊢
  clear hL
  have hmv : IntKind.u64.wrap (IntKind.u64.wrap 256 - 1) = 255 := by
    rw [IntKind.wrap_u64, IntKind.wrap_u64]
    decide
  have hlow := fun (c : UInt8) (W : World) => lower_calls c W
  go_enter Tryz.func114, Tryz.ntmps114
  go_wp2
  go_loop [12, 13, 101] (fun vu vn vi => ∃ (k acc : Nat) (a : Int), vu = .bool false ∧ vn = .int .u64 a ∧ vi = .int .i64 k ∧ k ≤ t.size ∧ Hid (a = (acc : Int) ∧ acc ≤ 255 ∧ hexU 0 bs = hexU acc (bs.drop k)))
    (fun _ _ vi => t.size - (intOf vi).toNat)
  case atStart => exact ⟨0, 0, 0, rfl, rfl, rfl, by omega, rfl, by omega, rfl⟩
  case round =>
    obtain ⟨k, acc, a, rfl, rfl, rfl, hk, hh⟩ := hrel
    obtain ⟨ha, hacc, hdec⟩ := hh.out
    clear hh
    have a0 : 0 ≤ a := by omega
    have a1 : a ≤ 255 := by omega
    by_cases hkn : k < t.size
    · have hc := hB k hkn
      have hdrop : bs.drop k = bs[k]'(by omega) :: bs.drop (k + 1) := List.drop_eq_getElem_cons (by omega)
      have hget : bs.getD k 0 = bs[k]'(by omega) := by simp [List.getD, List.getElem?_eq_getElem (show k < bs.length by omega)]
      rw [hdrop] at hdec
      rw [hget] at hc
      generalize bs[k]'(by omega) = c at hc hdec
      have hc256 : c.toNat < 256 := c.toNat_lt
      have icut : a < 1152921504606846976 := by omega
      clear hB hdrop hget
      by_cases hdig : 48 ≤ c.toNat ∧ c.toNat ≤ 57
      · obtain ⟨hd0, hd1⟩ := hdig
        have hD : hexD c.toNat = some (c.toNat - 48) := by simp [hexD, hd0, hd1]
        by_cases hov : 255 < acc * 16 + (c.toNat - 48)
        · have hF : hexU acc (c :: bs.drop (k + 1)) = .range := by simp [hexU, hD, hov]
          rw [hF] at hdec
          have iov : 255 < a * 16 + ((c.toNat : Int) - 48) := by omega
          have iov2 : a * 16 + ((c.toNat : Int) - 48) < 18446744073709551616 := by omega
          clear hacc hF hov ha hD hlow
          go_wp2
          go_ret2
          exact ⟨rfl, rfl⟩
        · have hF : hexU acc (c :: bs.drop (k + 1)) = hexU (acc * 16 + (c.toNat - 48)) (bs.drop (k + 1)) := by simp [hexU, hD, hov]
          have HN : Hid (a * 16 + ((c.toNat : Int) - 48) = ((acc * 16 + (c.toNat - 48) : Nat) : Int) ∧ acc * 16 + (c.toNat - 48) ≤ 255 ∧ hexU 0 bs = hexU (acc * 16 + (c.toNat - 48)) (bs.drop (k + 1))) := Lib.hid ⟨by omega, by omega, hdec.trans hF⟩
          have iov : a * 16 + ((c.toNat : Int) - 48) ≤ 255 := by omega
          clear hacc hF hov hdec ha hD hlow
          go_wp2
          refine ⟨⟨k + 1, acc * 16 + (c.toNat - 48), a * 16 + ((c.toNat : Int) - 48), rfl, (by first | rfl | (congr 1; omega)), (by first | rfl | (congr 1; omega)), by omega, HN⟩, by simp [intOf]; omega⟩
      · obtain ⟨m, hm⟩ : ∃ m, m = lowN c.toNat := ⟨_, rfl⟩
        have hm256 : m < 256 := hm ▸ (low_eq c).2
        have hlw := hlow c
        rw [← hm] at hlw
        clear hlow
        by_cases hlet : 97 ≤ m ∧ m ≤ 102
        · have hD : hexD c.toNat = some (m - 87) := by simp [hexD, hdig, ← hm, hlet]
          obtain ⟨hm0, hm1⟩ := hlet
          have h95 : ((c.toNat : Int) == 95) = false := by
            simp only [beq_eq_false_iff_ne, ne_eq]
            intro h
            have h' : c.toNat = 95 := by omega
            rw [h'] at hm
            have : lowN 95 = 127 := by decide
            omega
          by_cases hov : 255 < acc * 16 + (m - 87)
          · have hF : hexU acc (c :: bs.drop (k + 1)) = .range := by simp [hexU, hD, hov]
            rw [hF] at hdec
            have iov : 255 < a * 16 + ((m : Int) - 97 + 10) := by omega
            clear hacc hF hov ha hD hm
            go_wp2_with (go_at_call 131; refine (hlw _).mono ?_; rintro e w' ⟨rfl, rfl⟩)
            all_goals (go_ret2; first | exact ⟨rfl, rfl⟩ | exact ⟨by rw [hdec]; rfl, rfl⟩)
          · have hF : hexU acc (c :: bs.drop (k + 1)) = hexU (acc * 16 + (m - 87)) (bs.drop (k + 1)) := by simp [hexU, hD, hov]
            have HN : Hid (a * 16 + ((m : Int) - 97 + 10) = ((acc * 16 + (m - 87) : Nat) : Int) ∧ acc * 16 + (m - 87) ≤ 255 ∧ hexU 0 bs = hexU (acc * 16 + (m - 87)) (bs.drop (k + 1))) := Lib.hid ⟨by omega, by omega, hdec.trans hF⟩
            have iov : a * 16 + ((m : Int) - 97 + 10) ≤ 255 := by omega
            clear hacc hF hov hdec ha hD hm
            go_wp2_with (go_at_call 131; refine (hlw _).mono ?_; rintro e w' ⟨rfl, rfl⟩)
            all_goals exact ⟨⟨k + 1, acc * 16 + (m - 87), a * 16 + ((m : Int) - 97 + 10), rfl, (by first | rfl | (congr 1; omega)), (by first | rfl | (congr 1; omega)), by omega, HN⟩, by simp [intOf]; omega⟩
        · have hD : hexD c.toNat = none := by simp [hexD, hdig, ← hm, hlet]
          have hF : hexU acc (c :: bs.drop (k + 1)) = .syntax := by simp [hexU, hD]
          rw [hF] at hdec
          by_cases h95 : c.toNat = 95
          · rw [h95] at hm hc
            have h127 : m = 127 := by rw [hm]; decide
            subst h127
            rw [h95] at hlw
            clear hacc hF ha hm hD hdig hlet h95
            go_wp2_with (go_at_call 131; refine (hlw _).mono ?_; rintro e w' ⟨rfl, rfl⟩)
            all_goals (go_ret2; first | exact ⟨rfl, rfl⟩ | exact ⟨by rw [hdec]; rfl, rfl⟩)
          have h95b : ((c.toNat : Int) == 95) = false := by
            simp only [beq_eq_false_iff_ne, ne_eq]; omega
          clear hacc hF ha hm hD h95
          go_wp2_with (go_at_call 131; refine (hlw _).mono ?_; rintro e w' ⟨rfl, rfl⟩)
          all_goals (go_ret2; first | exact ⟨rfl, rfl⟩ | exact ⟨by rw [hdec]; rfl, rfl⟩)
    · have hkk : k = t.size := by omega
      subst hkk
      have hF : hexU acc (bs.drop t.size) = .ok acc := by rw [List.drop_eq_nil_of_le (by omega)]; rfl
      rw [hF] at hdec
      subst ha
      clear hacc hF a0 a1 hlow
      go_wp2
      go_ret2
      exact ⟨rfl, rfl⟩
set_option maxRecDepth 100000 in
theorem empty_calls (w : World) : Calls Tryz.prog 114 #[.string ⟨#[]⟩, .int .i64 16, .int .i64 8] w fun e w' => e = .returned (.tuple #[.int .u64 0, .iface 149 (.int .i64 2)]) ∧ w' = w := by
  go_enter Tryz.func114, Tryz.ntmps114
  go_wp2
  go_ret2
  exact ⟨rfl, rfl⟩
/-- what strconv.ParseUint(s, 16, 8) hands back: the number, or an error that is not nil -/
def Put16 (s : ByteArray) (v : Value) : Prop := match (if s.size = 0 then Lib.NumEnd.syntax else hexU 0 s.data.toList) with
  | .ok n => v = .tuple #[.int .u64 n, .nilIface]
  | _ => ∃ n N, v = .tuple #[.int .u64 n, .iface 151 (.pointer (some ⟨N, 0, none⟩))]
theorem cell_at {B : Nat} {w w' : World} (h : Below B w w') {p : Addr} {v : Value} (hB : w.heap.size ≤ B) (hc : w.cell? p = some v) : w'.cell? p = some v := by
  rw [h.cell (Nat.lt_of_lt_of_le (World.block_lt_of_cell? w p hc) hB)]; exact hc
theorem below_bytes (w : World) (t : ByteArray) : Below w.heap.size w (Lib.bytesWorld w 5 t) := by
  unfold Lib.bytesWorld
  exact Lib.below_freeze (((Below.refl w.heap.size w).drew).alloc (Nat.le_refl _) _) (Nat.le_refl _) _
set_option maxHeartbeats 4000000 in
set_option maxRecDepth 100000 in
theorem parse16_calls (s : ByteArray) (hlim : s.size ≤ 281474976710656) (e3 e4 : Value) (w : World) (h3 : w.cell? ⟨3, 0, none⟩ = some e3) (k3 : e3 = .nilIface ∨ ∃ te pe, e3 = .iface te pe) (h4 : w.cell? ⟨4, 0, none⟩ = some e4) (k4 : e4 = .nilIface ∨ ∃ te pe, e4 = .iface te pe) :
    Calls Tryz.prog 87 #[.string s, .int .i64 16, .int .i64 8] w fun e w' => ∃ v, e = .returned v ∧ Put16 s v ∧ Below w.heap.size w w' := by
  unfold Put16
  by_cases h0 : s.size = 0
  · obtain rfl : s = ⟨#[]⟩ := by
      cases s with | mk d => simp [ByteArray.size] at h0; rw [h0]
    have hsy := Tryz.strconv_toError_syntax ⟨#[80, 97, 114, 115, 101, 85, 105, 110, 116]⟩ ⟨#[]⟩ 16 8 e3 w hlim h3 k3
    have hin := empty_calls w
    rw [if_pos h0]
    go_enter Tryz.func87, Tryz.ntmps87
    go_wp2_with fail
    refine hin.mono ?_
    rintro e w1 ⟨rfl, rfl⟩
    clear hin
    go_wp2_with fail
    refine hsy.mono ?_
    rintro e w2 ⟨N, rfl, _, _, hb⟩
    clear hsy
    go_wp2_with fail
    go_ret2
    exact ⟨_, rfl, ⟨_, _, rfl⟩, hb⟩
  · rw [if_neg h0]
    have hb0 := below_bytes w s
    have hin := inner_calls s h0 (by omega) w
    obtain ⟨W, hW⟩ : ∃ W, W = Lib.bytesWorld w 5 s := ⟨_, rfl⟩
    rw [← hW] at hb0 hin
    clear hW
    have h3' := cell_at hb0 (Nat.le_refl _) h3
    have h4' := cell_at hb0 (Nat.le_refl _) h4
    have hsy := Tryz.strconv_toError_syntax ⟨#[80, 97, 114, 115, 101, 85, 105, 110, 116]⟩ s 16 8 e3 W hlim h3' k3
    have hrg := Tryz.strconv_toError_range ⟨#[80, 97, 114, 115, 101, 85, 105, 110, 116]⟩ s 16 8 e4 W hlim h4' k4
    obtain ⟨r, hr⟩ : ∃ r, r = hexU 0 s.data.toList := ⟨_, rfl⟩
    rw [← hr] at hin ⊢
    clear hr
    rcases r with n | _ | _
    ·
      clear hsy hrg
      go_enter Tryz.func87, Tryz.ntmps87
      go_wp2_with fail
      refine hin.mono ?_
      rintro e w1 ⟨rfl, rfl⟩
      clear hin
      simp only [Lib.uintTupleM]
      go_wp2_with fail
      go_ret2
      exact ⟨_, rfl, rfl, hb0⟩
    ·
      clear hrg
      go_enter Tryz.func87, Tryz.ntmps87
      go_wp2_with fail
      refine hin.mono ?_
      rintro e w1 ⟨rfl, rfl⟩
      clear hin
      simp only [Lib.uintTupleM]
      go_wp2_with fail
      refine hsy.mono ?_
      rintro e w2 ⟨N, rfl, _, _, hb⟩
      clear hsy
      go_wp2_with fail
      go_ret2
      exact ⟨_, rfl, ⟨_, _, rfl⟩, hb0.trans (hb.mono hb0.size)⟩
    ·
      clear hsy
      go_enter Tryz.func87, Tryz.ntmps87
      go_wp2_with fail
      refine hin.mono ?_
      rintro e w1 ⟨rfl, rfl⟩
      clear hin
      simp only [Lib.uintTupleM]
      go_wp2_with fail
      refine hrg.mono ?_
      rintro e w2 ⟨N, rfl, _, _, hb⟩
      clear hrg
      go_wp2_with fail
      go_ret2
      exact ⟨_, rfl, ⟨_, _, rfl⟩, hb0.trans (hb.mono hb0.size)⟩
end Go.Proofs.YtgafnjgiikdofaaGreatDoor.Su
namespace Go.Proofs.YtgafnjgiikdofaaGreatDoor.Se
set_option linter.unusedVariables false
set_option linter.unusedSimpArgs false
open Go.Shelf Go.RowKit Go.Proofs.YtgafnjgiikdofaaGreatDoor.Su
open Go.Proofs.YtgafnjgiikdofaaGreatDoorW.PrintWords Go.Proofs.YtgafnjgiikdofaaGreatDoorW.PrintLast Go.Proofs.YtgafnjgiikdofaaGreatDoorW.PrintMore
/-- the rune that is meant behind a backslash, and how long its mark is; 0: none -/
def escL (l : List UInt8) : Nat × Nat :=
  if l.length < 2 then (0, 0) else
  if (l.getD 1 0).toNat = 110 then (10, 2) else if (l.getD 1 0).toNat = 34 ∨ (l.getD 1 0).toNat = 92 then ((l.getD 1 0).toNat, 2) else
  if Lib.indexByte l 125 < 4 ∨ 6 < Lib.indexByte l 125 ∨ Lib.hasPrefix l [92, 117, 123] = false then (0, 0) else
  match hexU 0 ((l.take (Lib.indexByte l 125).toNat).drop 3) with
  | .ok v => (v, (Lib.indexByte l 125).toNat + 1)
  | _ => (0, 0)
def escV (p : Nat × Nat) : Value := .tuple #[.int .i32 p.1, .int .i64 p.2]
theorem indexByte_lt : ∀ (l : List UInt8) (c : UInt8), 0 < l.length → Lib.indexByte l c < l.length
  | [], _, h => by simp at h
  | b :: l, c, _ => by
    unfold Lib.indexByte
    split
    · simp
    · split
      · simp; omega
      · rename_i h
        have hne : l ≠ [] := by rintro rfl; exact h rfl
        have := indexByte_lt l c (List.length_pos_iff.2 hne)
        simp; omega
theorem hexU_le : ∀ (l : List UInt8) (acc : Nat), acc ≤ 255 → ∀ v, hexU acc l = .ok v → v ≤ 255
  | [], acc, h, v, e => by simp [hexU] at e; omega
  | c :: l, acc, h, v, e => by
    unfold hexU at e
    split at e
    · cases e
    · split at e
      · cases e
      · exact hexU_le l _ (by omega) v e
set_option maxHeartbeats 4000000 in
set_option maxRecDepth 100000 in
theorem escaped_calls (t : ByteArray) (hs : t.size ≤ 281474976710656) (e3 e4 : Value) (w : World) (h3 : w.cell? ⟨3, 0, none⟩ = some e3) (k3 : e3 = .nilIface ∨ ∃ te pe, e3 = .iface te pe) (h4 : w.cell? ⟨4, 0, none⟩ = some e4) (k4 : e4 = .nilIface ∨ ∃ te pe, e4 = .iface te pe) :
    Calls Tryz.prog 43 #[.string t] w fun e w' => e = .returned (escV (escL t.data.toList)) ∧ Below w.heap.size w w' := by
  have hl : t.data.toList.length = t.size := (Lib.size_eq t).symm
  unfold escL
  rw [hl]
  by_cases h2 : t.size < 2
  · rw [if_pos h2]
    have g1 : decide ((t.size : Int) < 2) = true := decide_eq_true (by omega)
    go_enter Tryz.func43, Tryz.ntmps43
    go_wp2
    go_ret2
    exact ⟨rfl, Below.refl _ _⟩
  rw [if_neg h2]
  have g1 : decide ((t.size : Int) < 2) = false := decide_eq_false (by omega)
  have h1 : 1 < t.size := by omega
  have hx0 : t.data.toList.getD 1 0 = t[1]'h1 := by
    rw [List.getD_eq_getElem?_getD, List.getElem?_eq_getElem (by omega)]; rfl
  rw [hx0]
  obtain ⟨x, hx⟩ : ∃ x, t[1]'h1 = x := ⟨_, rfl⟩
  rw [hx]
  have hx256 := x.toNat_lt
  clear h2 hx0
  by_cases n1 : x.toNat = 110
  · rw [if_pos n1]
    have e1 : ((x.toNat : Int) == 110) = true := by simp; omega
    clear n1
    go_enter Tryz.func43, Tryz.ntmps43
    go_wp2
    go_ret2
    exact ⟨rfl, Below.refl _ _⟩
  rw [if_neg n1]
  have e1 : ((x.toNat : Int) == 110) = false := by simp; omega
  clear n1
  by_cases n2 : x.toNat = 34 ∨ x.toNat = 92
  · rw [if_pos n2]
    have hw : wrap32 (x.toNat : Int) = (x.toNat : Int) := by unfold wrap32; omega
    by_cases n3 : x.toNat = 34
    · have e2 : ((x.toNat : Int) == 34) = true := by simp; omega
      clear n2 n3
      go_enter Tryz.func43, Tryz.ntmps43
      go_wp2
      go_ret2
      exact ⟨by first | rfl | (rw [hw]; rfl), Below.refl _ _⟩
    · have e2 : ((x.toNat : Int) == 34) = false := by simp; omega
      have e3 : ((x.toNat : Int) == 92) = true := by simp; omega
      clear n2 n3
      go_enter Tryz.func43, Tryz.ntmps43
      go_wp2
      go_ret2
      exact ⟨by first | rfl | (rw [hw]; rfl), Below.refl _ _⟩
  rw [if_neg n2]
  have e2 : ((x.toNat : Int) == 34) = false := by simp; omega
  have e5 : ((x.toNat : Int) == 92) = false := by simp; omega
  clear n2 hx256
  have hib := Tryz.strings_IndexByte t 125 w
  have hpf := Tryz.strings_HasPrefix t ⟨#[92, 117, 123]⟩ w
  have h125 : (125 : Int).toNat.toUInt8 = 125 := rfl
  rw [h125] at hib
  have hpl : (⟨#[92, 117, 123]⟩ : ByteArray).data.toList = [92, 117, 123] := rfl
  rw [hpl] at hpf
  clear h125 hpl
  have hlt : Lib.indexByte t.data.toList 125 < t.size ∧ -1 ≤ Lib.indexByte t.data.toList 125 := by
    rw [← hl]; exact ⟨indexByte_lt _ _ (by omega), Lib.indexByte_ge _ _⟩
  obtain ⟨k, hk⟩ : ∃ k, Lib.indexByte t.data.toList 125 = k := ⟨_, rfl⟩
  rw [hk] at hib hlt ⊢
  obtain ⟨b, hb⟩ : ∃ b, Lib.hasPrefix t.data.toList [92, 117, 123] = b := ⟨_, rfl⟩
  rw [hb] at hpf ⊢
  clear hk hb
  by_cases k1 : k < 4
  · rw [if_pos (Or.inl k1)]
    have d1 : decide (k < 4) = true := decide_eq_true k1
    clear hpf
    go_enter Tryz.func43, Tryz.ntmps43
    go_wp2_with fail
    refine hib.mono ?_
    rintro e w' ⟨rfl, rfl⟩
    clear hib
    go_wp2_with fail
    go_ret2
    exact ⟨rfl, Below.refl _ _⟩
  have d1 : decide (k < 4) = false := decide_eq_false k1
  by_cases k2 : 6 < k
  · rw [if_pos (Or.inr (Or.inl k2))]
    have d2 : decide (6 < k) = true := decide_eq_true k2
    clear hpf
    go_enter Tryz.func43, Tryz.ntmps43
    go_wp2_with fail
    refine hib.mono ?_
    rintro e w' ⟨rfl, rfl⟩
    clear hib
    go_wp2_with fail
    go_ret2
    exact ⟨rfl, Below.refl _ _⟩
  have d2 : decide (6 < k) = false := decide_eq_false k2
  cases b with
  | false =>
    rw [if_pos (Or.inr (Or.inr rfl))]
    go_enter Tryz.func43, Tryz.ntmps43
    go_wp2_with fail
    refine hib.mono ?_
    rintro e w' ⟨rfl, rfl⟩
    clear hib
    go_wp2_with fail
    refine hpf.mono ?_
    rintro e w' ⟨rfl, rfl⟩
    clear hpf
    go_wp2_with fail
    go_ret2
    exact ⟨rfl, Below.refl _ _⟩
  | true =>
    rw [if_neg (by simp [k1, k2])]
    obtain ⟨n, rfl⟩ : ∃ n : Nat, k = n := ⟨k.toNat, by omega⟩
    have hn4 : 4 ≤ n := by omega
    have hn6 : n ≤ 6 := by omega
    have hnl : n ≤ t.size := by omega
    have hS : (t.extract 3 n).data.toList = (t.data.toList.take n).drop 3 := by
      rw [ByteArray.data_extract, Array.toList_extract, List.extract_eq_take_drop, List.drop_take]
    have hSz : (t.extract 3 n).size = n - 3 := by
      rw [ByteArray.size_extract]; omega
    have hp := parse16_calls (t.extract 3 n) (by omega) e3 e4 w h3 k3 h4 k4
    unfold Put16 at hp
    rw [if_neg (by omega), hS] at hp
    rw [Int.toNat_natCast]
    obtain ⟨r, hr⟩ : ∃ r, r = hexU 0 ((t.data.toList.take n).drop 3) := ⟨_, rfl⟩
    have hrb : ∀ v, r = .ok v → v ≤ 255 := fun v h => hexU_le _ 0 (by omega) v (hr ▸ h)
    rw [← hr] at hp ⊢
    have hn3 : 3 ≤ n := by omega
    clear hr hS hSz k1 k2 hlt
    rcases r with v | _ | _
    ·
      have hv := hrb v rfl
      clear hrb
      have hw : wrap32 (v : Int) = (v : Int) := by unfold wrap32; omega
      go_enter Tryz.func43, Tryz.ntmps43
      go_wp2_with fail
      refine hib.mono ?_
      rintro e w' ⟨rfl, rfl⟩
      clear hib
      go_wp2_with fail
      refine hpf.mono ?_
      rintro e w' ⟨rfl, rfl⟩
      clear hpf
      go_wp2_with fail
      refine hp.mono ?_
      rintro e w' ⟨v', rfl, hv', hb'⟩
      obtain rfl := hv'
      clear hp
      go_wp2_with fail
      go_ret2
      exact ⟨by first | rfl | (rw [hw]; rfl), hb'⟩
    ·
      clear hrb
      go_enter Tryz.func43, Tryz.ntmps43
      go_wp2_with fail
      refine hib.mono ?_
      rintro e w' ⟨rfl, rfl⟩
      clear hib
      go_wp2_with fail
      refine hpf.mono ?_
      rintro e w' ⟨rfl, rfl⟩
      clear hpf
      go_wp2_with fail
      refine hp.mono ?_
      rintro e w' ⟨v', rfl, ⟨m, N, hv'⟩, hb'⟩
      subst hv'
      clear hp
      go_wp2_with fail
      go_ret2
      exact ⟨rfl, hb'⟩
    ·
      clear hrb
      go_enter Tryz.func43, Tryz.ntmps43
      go_wp2_with fail
      refine hib.mono ?_
      rintro e w' ⟨rfl, rfl⟩
      clear hib
      go_wp2_with fail
      refine hpf.mono ?_
      rintro e w' ⟨rfl, rfl⟩
      clear hpf
      go_wp2_with fail
      refine hp.mono ?_
      rintro e w' ⟨v', rfl, ⟨m, N, hv'⟩, hb'⟩
      subst hv'
      clear hp
      go_wp2_with fail
      go_ret2
      exact ⟨rfl, hb'⟩
end Go.Proofs.YtgafnjgiikdofaaGreatDoor.Se
