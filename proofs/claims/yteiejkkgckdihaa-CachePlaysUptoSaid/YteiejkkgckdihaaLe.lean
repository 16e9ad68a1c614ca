/- Bytes that are lent with marked room behind them, and the look whether they and the room stayed as they were. -/
import Derived.Test.YteiejkkgckdihaaRt
import Derived.Deep.QuietTactic
import Derived.BigQuiet
namespace Go.Proofs.Yteiejkkgckdihaa.Le
set_option linter.unusedVariables false
open Go.RowKit Go.Proofs.YteiejkkgckdihaaW.PrintWords Go.Proofs.YteiejkkgckdihaaW.PrintLast Go.Proofs.YteiejkkgckdihaaW.PrintMore
open Go.Proofs.Yteiejkkgckdihaa.Fr Go.Proofs.Yteiejkkgckdihaa.Rq
/-- a slice of l's bytes, marked room behind it -/
def LentV (w : World) (base : Nat) (A : Option Addr) (c : Nat) (l : List Int) : Prop :=
  l.length + 2 ≤ c ∧ (Kd.int .u8).R 5 w base (fun _ => True) (.slice A (l.length + 2) c) (l ++ [77, 78])
set_option maxHeartbeats 1000000 in
theorem lent_is (A : Option Addr) (c : Nat) (l : List Int) (w : World) (hC : (Kd.int .u8).C w A l.length l) (hl : l.length ≤ 140737488351232) :
    Calls Try.prog 26 #[.slice A l.length c] w fun e w' => ∃ A' c', e = .returned (.slice A' l.length c') ∧ LentV w' w.heap.size A' c' l ∧ Below w.heap.size w w' := by
  have HC := Aside0.mk hC
  obtain ⟨n, hn⟩ : ∃ n, n = l.length := ⟨_, rfl⟩
  have HN := Aside0.mk hn
  rw [← hn] at hC hl ⊢
  clear hn HC
  obtain ⟨i0, hi0, _, hsz, _⟩ := info_parts info5
  have HLEN := Aside0.mk (show (l ++ [77, 78]).length = n + 2 by rw [HN.out]; simp)
  go_enter Try.func26, Try.ntmps26
  go_wp2_with (first
    | ((with_reducible refine gate_dst (N := 4) rfl ?_); refine Kd.R_lit (Kd.int .u8) _ 5 ?hg (N := 4) ?hd (xs := ([] : List Int)) (inner := []) (ok := fun _ => True) (okp := fun _ => True) ?hr ?hp (fun _ hk => hk) trivial (Below.refl _ _) (Nat.le_refl _) (by simp) ?_; (case hd => rfl); (case hg => rfl); (case hr => first | (go_simp; done) | (go_simp; rfl)); (case hp => exact (Reps.none _ _)); intro v1 w1 ho1 hb hg_ hnew_; clear hg_ hnew_; have HO1 := Aside0.mk ho1; have HB1 := Aside0.mk hb; clear hb ho1)
    | ((with_reducible refine gate_builtin (b := .append) (xs := #[.tmp 4, .tmp 5]) rfl ?_); at_builtin; refine Kd.R_append_row (Value.int .u8) (0 : Int) (h1 := fun _ => rfl) (w0 := w) w.heap.size rfl (.tmp 4) (.tmp 5) 29 5 (.int .u8 0) 1 rfl Try.underlying29 info5 rfl (by decide) v1 [] l A n c (fun _ => True) rfl rfl (fun _ _ => trivial) HO1.out (Kd.C_below hC HB1.out) HB1.out HB1.out.size ?aL ?_; (case aL => simp; omega); intro v2 w2 ho hb hg hat; have HO2 := Aside0.mk ho; have HB2 := Aside0.mk hb; clear ho hb hg hat)
    | ((with_reducible refine gate_dst (N := 8) rfl ?_); refine Kd.R_lit (Kd.int .u8) _ 5 ?hg (N := 8) ?hd (xs := ([77, 78] : List Int)) (inner := [.int .u8 77, .int .u8 78]) (ok := fun _ => True) (okp := fun _ => True) ?hr ?hp (fun _ hk => hk) trivial (Below.refl _ _) (Nat.le_refl _) (by simp) ?_; (case hd => rfl); (case hg => rfl); (case hr => first | (go_simp; done) | (go_simp; rfl)); (case hp => exact (Reps.one (show Kd.M (Kd.int .u8) _ _ _ 77 [.int .u8 77] from rfl) (Reps.one (show Kd.M (Kd.int .u8) _ _ _ 78 [.int .u8 78] from rfl) (Reps.none _ _)))); intro v3 w3 ho3 hb hg_ hnew_; clear hg_ hnew_; obtain ⟨A3, c3, rfl, hc3, hC3⟩ := Kd.R_reads ho3; have HC3 := Aside0.mk (show (Kd.int .u8).C w3 A3 2 [77, 78] from hC3); have HO3 := Aside0.mk (show (Kd.int .u8).R 5 w3 w.heap.size (fun _ => True) v2 l from Kd.R_below HO2.out hb); have HB3 := Aside0.mk (below_step HB2.out hb); clear hb ho3 hC3)
    | ((with_reducible refine gate_builtin (b := .append) (xs := #[.tmp 7, .tmp 8]) rfl ?_); at_builtin; refine Kd.R_append_row (Value.int .u8) (0 : Int) (h1 := fun _ => rfl) (w0 := w) w.heap.size rfl (.tmp 7) (.tmp 8) 29 5 (.int .u8 0) 1 rfl Try.underlying29 info5 rfl (by decide) v2 l [77, 78] A3 2 c3 (fun _ => True) rfl rfl (fun _ _ => trivial) HO3.out HC3.out HB3.out HB3.out.size ?aL ?_; (case aL => have := HN.out; simp; omega); intro v4 w4 ho hb hg hat; obtain ⟨A4, c4, rfl, hc4, hC4⟩ := Kd.R_reads ho; clear hC4; rw [HLEN.out] at hc4 ho; have hcut := cut_to (P := Try.prog) 29 5 .i64 Try.underlying29 hi0 A4 (n + 2) c4 (n : Int) (by omega) (by omega) hc4; rw [Int.toNat_natCast] at hcut; have HO4 := Aside0.mk ho; have HB4 := Aside0.mk hb; clear ho hb hg hat))
  go_ret
  refine ⟨A4, c4, rfl, ⟨?_, ?_⟩, HB4.out⟩
  · rw [← HN.out]; exact hc4
  · rw [← HN.out]; exact HO4.out
set_option maxHeartbeats 1000000 in
/-- lent bytes, as they were -/
theorem stays_is (A : Option Addr) (c : Nat) (A1 : Option Addr) (c1 : Nat) (l : List Int) (w : World) (base : Nat) (hL : LentV w base A c l) (hC : (Kd.int .u8).C w A1 l.length l) (hl : l.length ≤ 140737488351232) :
    Calls Try.prog 28 #[.slice A l.length c, .slice A1 l.length c1] w fun e w' => e = .returned (.bool true) ∧ ∃ n, w' = w.drewN n := by
  obtain ⟨hc, hR⟩ := hL
  have hn0 : (l ++ [77, 78]).length = l.length + 2 := by simp
  obtain ⟨_, _, hCx⟩ := Kd.R_reads' hR
  rw [hn0] at hCx
  have hT := Kd.C_take (m := l.length) (xs := l ++ [77, 78]) (by rw [hn0]; exact hCx) (by simp)
  have ht : (l ++ [77, 78]).take l.length = l := by simp
  rw [ht] at hT
  obtain ⟨_, _, hcell0⟩ := Kd.reads_of_C (d := (0 : Int)) hCx
  obtain ⟨ad, rfl, hcell⟩ := hcell0 (by omega)
  have c77 := hcell l.length (by omega)
  have c78 := hcell (l.length + 1) (by omega)
  simp at c77 c78
  obtain ⟨i0, hi0, _, hsz, _⟩ := info_parts info5
  obtain ⟨n, hn⟩ : ∃ n, n = l.length := ⟨_, rfl⟩
  have hcv1 := fun m => Kd.C_string (P := Try.prog) (c := c) Try.underlying29 Try.underlying5 Try.underlying9 (Kd.C_drewN hT m)
  have hcv2 := fun m => Kd.C_string (P := Try.prog) (c := c1) Try.underlying29 Try.underlying5 Try.underlying9 (Kd.C_drewN hC m)
  rw [← hn] at hcv1 hcv2 c77 c78 hc hl ⊢
  obtain ⟨s, hs⟩ : ∃ s, s = strOfNums l := ⟨_, rfl⟩
  rw [← hs] at hcv1 hcv2
  have hcut := cut_to (P := Try.prog) 29 5 .i64 Try.underlying29 hi0 (some ad) (n + 2) c (n : Int) (by omega) (by omega) hc
  rw [Int.toNat_natCast] at hcut
  have hroom : ∀ W, (Instr.slice 29 (.slice (some ad) n c) none (some (.int .i64 ((n : Int) + 2))) none).run Try.prog W = .ok (.slice (some ad) (n + 2) c) W := by
    intro W
    have hel : Try.prog.elem 29 = 5 := by kernel_rfl
    rw [run_slice_h W 29 (some ad) n c (by rw [hel]; exact Try.underlying29) .i64 ((n : Int) + 2) (by omega) (by omega), hel]
    have : ((n : Int) + 2).toNat = n + 2 := by omega
    simp [sizeOf, typeInfo, hi0, sliced, Result.andThen, this, Addr.add]
  clear hT ht hC hCx hcell hR hn0 hn hs
  obtain ⟨N2, hN2⟩ : ∃ N2, N2 = n + 2 := ⟨_, rfl⟩
  rw [← hN2] at hcut hroom
  have i1 : (n : Int) < (N2 : Int) := by omega
  have i2 : (n : Int) + 1 < (N2 : Int) := by omega
  have i3 : (0 : Int) ≤ (n : Int) + 1 := by omega
  have i4 : ((n : Int) + 1).toNat = n + 1 := by omega
  have i5 : n < N2 := by omega
  have i6 : n + 1 < N2 := by omega
  have c78' : w.cell? { block := ad.block, off := ad.off + (n + 1) } = some (.int .u8 78) := by simpa [Addr.add] using c78
  clear hN2 hc
  have i7 : IntKind.i64.wrap ((n : Int) + 1) = (n : Int) + 1 := by simp [IntKind.wrap, IntKind.bits, IntKind.signed]; omega
  go_enter Try.func28, Try.ntmps28
  go_wp2
  go_quiet (fail)
  go_wp2
  go_ret
  exact ⟨rfl, _, rfl⟩
end Go.Proofs.Yteiejkkgckdihaa.Le
