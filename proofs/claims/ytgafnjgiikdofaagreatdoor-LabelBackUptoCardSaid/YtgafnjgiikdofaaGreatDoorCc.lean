/- slices.Concat of bytes. -/
import Derived.Test.YtgafnjgiikdofaaGreatDoorCp
import Derived.WalkSpells
set_option maxRecDepth 100000
namespace Go.Proofs.YtgafnjgiikdofaaGreatDoor.Cc
set_option linter.unusedVariables false
set_option linter.unusedSimpArgs false
open Go.RowKit Go.Proofs.YtgafnjgiikdofaaGreatDoorW.PrintWords Go.Proofs.YtgafnjgiikdofaaGreatDoorW.PrintLast Go.Proofs.YtgafnjgiikdofaaGreatDoorW.PrintMore
open Go.Proofs.YtgafnjgiikdofaaGreatDoor.B Go.Proofs.YtgafnjgiikdofaaGreatDoor.Fr
set_option maxHeartbeats 1000000 in
/-- Grow of nil: an empty row of one's own -/
theorem grow_nil (n : Nat) (w : World) (hn : n ≤ 140737488351232) :
    Calls Tryz.prog 103 #[.slice none 0 0, .int .i64 n] w fun e w' => ∃ v, e = .returned v ∧ Kd.R (Kd.int .u8) 5 w' w.heap.size (fun _ => True) v [] ∧ Below w.heap.size w w' := by
  have HB := Aside0.mk (Below.refl w.heap.size w)
  obtain ⟨i0, hi0, _, hsz, _⟩ := info_parts info5
  by_cases h0 : n = 0
  · subst h0
    go_enter Tryz.func103, Tryz.ntmps103
    go_wp2
    go_ret
    exact ⟨_, rfl, Kd.R_nil _ _ _ _ _, HB.out⟩
  · have hp : 0 < n := by omega
    have hp2 : (0 : Int) < (n : Int) := by omega
    go_enter Tryz.func103, Tryz.ntmps103
    go_wp2_with (((with_reducible refine gate_builtin (b := .append) (xs := #[.tmp 20, .tmp 21]) rfl ?_); at_builtin; refine Kd.R_append_zeros (Kd.int .u8) (w0 := w) w.heap.size rfl (.tmp 20) (.tmp 21) 48 3 5 (.int .u8 0) 1 rfl Tryz.underlying48 Tryz.underlying3 info5 rfl (by decide) (by decide) (.slice none 0 0) [] 0 (n : Int) (fun _ => True) rfl rfl rfl (fun _ _ => trivial) (Kd.R_nil _ _ _ _ _) (by omega) HB.out (Nat.le_refl _) ?aL ?_; (case aL => simp; omega); intro v1 w1 ho hb hg hat; obtain ⟨A1, c1, rfl, hc1, hC1⟩ := Kd.R_reads ho; clear hC1; have HO1 := Aside0.mk (Kd.R_take (m := 0) ho (Nat.zero_le _)); have hcut := cut_to (P := Tryz.prog) 48 5 .i64 Tryz.underlying48 hi0 A1 _ c1 (0 : Int) (Int.le_refl _) (Int.natCast_nonneg _) hc1; have HB1 := Aside0.mk hb; clear ho hb hg hat))
    go_ret
    exact ⟨_, rfl, HO1.out, HB1.out⟩
/-- a row of rows, at a place -/
theorem get_row {w : World} {A : Option Addr} {l : List (List Int)} (h : (Kd.slice 5 (Kd.int .u8)).C w A l.length l) (i : Nat) (hi : i < l.length) :
    ∃ ad B c, A = some ad ∧ w.cell? (ad.add i) = some (.slice B l[i].length c) ∧ l[i].length ≤ c ∧ (Kd.int .u8).C w B l[i].length l[i] := by
  obtain ⟨ad, cs, e, hl, hK, hcell⟩ := Kd.C_get h [] (i : Int) (by omega) (by omega)
  obtain ⟨B, c, rfl, hc, hC⟩ := hK
  have hg : l.getD (i : Int).toNat [] = l[i] := by simp [hi]
  rw [hg] at hc hC hcell
  refine ⟨ad, B, c, e, ?_, hc, hC⟩
  have := hcell 0 _ rfl
  have hs : (Kd.slice 5 (Kd.int .u8)).sz = 1 := rfl
  rw [hs] at this
  simpa using this
theorem flat_take (l : List (List Int)) (k : Nat) (h : k < l.length) : (l.take (k + 1)).flatten = (l.take k).flatten ++ l[k] := by
  rw [List.take_succ_eq_append_getElem h, List.flatten_append]; simp
theorem flat_le (l : List (List Int)) (k : Nat) : (l.take k).flatten.length ≤ l.flatten.length := by
  conv => rhs; rw [← List.take_append_drop k l]
  rw [List.flatten_append, List.length_append]; omega
set_option maxHeartbeats 2000000 in
/-- Concat: the rows, one behind the other -/
theorem concat_is (A : Option Addr) (c : Nat) (l : List (List Int)) (w : World) (hC : (Kd.slice 5 (Kd.int .u8)).C w A l.length l) (hl : l.flatten.length ≤ 140737488351232) :
    Calls Tryz.prog 75 #[.slice A l.length c] w fun e w' => ∃ v, e = .returned v ∧ Kd.R (Kd.int .u8) 5 w' w.heap.size (fun _ => True) v l.flatten ∧ Below w.heap.size w w' := by
  have hlm := Kd.C_max hC
  have HC := Aside0.mk hC
  have HL := Aside0.mk hl
  clear hC hl
  go_enter Tryz.func75, Tryz.ntmps75
  go_wp2
  go_loop [3, 11] (fun sv iv => ∃ (k : Nat), k ≤ l.length ∧ iv = .int .i64 k ∧ sv = .int .i64 ((l.take k).flatten.length : Nat)) (fun _ iv => l.length - (intOf iv).toNat)
  case atStart => exact ⟨0, Nat.zero_le _, rfl, rfl⟩
  case round =>
    obtain ⟨k, hk, rfl, rfl⟩ := hrel
    by_cases h1 : k < l.length
    · obtain ⟨ad, B, cB, rfl, hcell, hcB, hCB⟩ := get_row HC.out k h1
      have hf := flat_take l k h1
      have hle := flat_le l (k + 1)
      rw [hf, List.length_append] at hle
      have hmax := HL.out
      obtain ⟨x, hx⟩ : ∃ x, x = l[k] := ⟨_, rfl⟩
      rw [← hx] at hf hle hcell hcB hCB
      obtain ⟨T, hT⟩ : ∃ T, T = (l.take k).flatten.length := ⟨_, rfl⟩
      rw [← hT] at hle ⊢
      have HF := Aside0.mk (show T + x.length = (l.take (k + 1)).flatten.length by rw [hf, List.length_append, hT])
      have hb1 : 0 ≤ (T : Int) + (x.length : Int) := by omega
      have hb2 : (T : Int) + (x.length : Int) < 9223372036854775807 := by omega
      have hb3 : decide ((T : Int) + (x.length : Int) < 0) = false := by simp; omega
      clear hf hx hT hle hmax
      go_wp2
      go_round
      case rel => exact ⟨k + 1, by omega, by go_num, by rw [← HF.out]; go_num⟩
      case measure => simp [intOf]; omega
    · have hk2 : l.take k = l := List.take_of_length_le (by omega)
      rw [hk2]
      obtain ⟨T, hT⟩ : ∃ T, T = l.flatten.length := ⟨_, rfl⟩
      have HT := Aside0.mk hT
      have HG := Aside0.mk (grow_nil T w (by rw [hT]; exact HL.out))
      rw [← hT]
      clear hT hk2
      go_wp2_with fail
      refine HG.out.mono ?_
      rintro e w1 ⟨v1, rfl, hr1, hb1⟩
      have HR1 := Aside0.mk hr1
      have HB1 := Aside0.mk hb1
      clear hr1 hb1
      go_wp2_with fail
      go_loopw [6, 27] (fun v iv w' => ∃ (j : Nat), j ≤ l.length ∧ iv = .int .i64 j ∧ Aside0 (Kd.R (Kd.int .u8) 5 w' w.heap.size (fun _ => True) v (l.take j).flatten) ∧ Aside0 (Below w.heap.size w w')) (fun _ iv _ => l.length - (intOf iv).toNat)
      case atStart => exact ⟨0, Nat.zero_le _, rfl, HR1, HB1⟩
      case round =>
        obtain ⟨j, hj, rfl, HRJ, HBJ⟩ := hrel
        by_cases h2 : j < l.length
        · obtain ⟨ad, B, cB, rfl, hcell, hcB, hCB⟩ := get_row (Kd.C_below HC.out HBJ.out) j h2
          have hf := flat_take l j h2
          have hle := flat_le l (j + 1)
          rw [hf, List.length_append] at hle
          obtain ⟨x, hx⟩ : ∃ x, x = l[j] := ⟨_, rfl⟩
          rw [← hx] at hf hle hcell hcB hCB
          have HF := Aside0.mk hf
          have HLE := Aside0.mk (show ((l.take j).flatten.length + x.length) * 1 ≤ 140737488355328 by have := HL.out; omega)
          have HCB := Aside0.mk hCB
          clear hf hx hle hCB
          go_wp2_with (((with_reducible refine gate_builtin (b := .append) (xs := #[.tmp 31, .tmp 32]) rfl ?_); at_builtin; refine Kd.R_append_row (Value.int .u8) (0 : Int) (h1 := fun _ => rfl) (w0 := w) w.heap.size rfl (.tmp 31) (.tmp 32) 48 5 (.int .u8 0) 1 rfl Tryz.underlying48 info5 rfl (by decide) u6 (l.take j).flatten x B x.length cB (fun _ => True) rfl rfl (fun _ _ => trivial) HRJ.out HCB.out HBJ.out HBJ.out.size HLE.out ?_; intro v2 w2 ho hb hg hat; have HR2 := Aside0.mk ho; have HB2 := Aside0.mk hb; clear ho hb hg hat))
          go_roundw
          case rel => exact ⟨j + 1, by omega, by go_num, ⟨by rw [HF.out]; exact HR2.out⟩, HB2⟩
          case measure => simp [intOf]; omega
        · go_wp2
          go_ret
          have hk2 : l.take j = l := List.take_of_length_le (by omega)
          have := HRJ.out
          rw [hk2] at this
          exact ⟨_, rfl, this, HBJ.out⟩
theorem rows_C {w : World} {b : Nat} {T : TypeId} {cs : List Value} {l : List (List Int)} (h : w.heap[b]? = some (.cells cs.toArray T (0, 0))) (hm : l.length ≤ 9223372036854775807)
    (hk : ∀ (i : Nat) (x : List Int), l[i]? = some x → ∃ B c, cs[i]? = some (.slice B x.length c) ∧ x.length ≤ c ∧ (Kd.int .u8).C w B x.length x) : (Kd.slice 5 (Kd.int .u8)).C w (some ⟨b, 0, none⟩) l.length l := by
  refine ⟨rfl, hm, fun _ => ⟨_, rfl, fun j p hj => ?_⟩⟩
  obtain ⟨B, c, hc, hl, hC⟩ := hk j p hj
  refine ⟨[.slice B p.length c], rfl, ⟨B, c, rfl, hl, hC⟩, fun i u hu => ?_⟩
  cases i with
  | zero =>
    have : Value.slice B p.length c = u := by simpa using hu
    subst this
    have hs : (Kd.slice 5 (Kd.int .u8)).sz = 1 := rfl
    rw [hs]
    have ha : (⟨b, 0, none⟩ : Addr).add (j * 1 + 0) = ⟨b, j, none⟩ := by unfold Addr.add; split <;> simp_all
    rw [ha, blk_cell h j]
    simpa using hc
  | succ i => simp at hu
theorem concat3 (w : World) (A1 A2 A3 : Option Addr) (c1 c2 c3 n1 n2 n3 : Nat) (x y z : List Int) (h1 : n1 = x.length) (h2 : n2 = y.length) (h3 : n3 = z.length) (hc1 : n1 ≤ c1) (hc2 : n2 ≤ c2) (hc3 : n3 ≤ c3)
    (hC1 : (Kd.int .u8).C w A1 n1 x) (hC2 : (Kd.int .u8).C w A2 n2 y) (hC3 : (Kd.int .u8).C w A3 n3 z) (hl : x.length + y.length + z.length ≤ 140737488351232) :
    Calls Tryz.prog 75 #[.slice (some ⟨w.heap.size, 0, none⟩) 3 3] (w.alloc (.cells #[.slice A1 n1 c1, .slice A2 n2 c2, .slice A3 n3 c3] 48)) fun e w' => ∃ v, e = .returned v ∧ Kd.R (Kd.int .u8) 5 w' (w.alloc (.cells #[.slice A1 n1 c1, .slice A2 n2 c2, .slice A3 n3 c3] 48)).heap.size (fun _ => True) v (x ++ y ++ z) ∧ Below (w.alloc (.cells #[.slice A1 n1 c1, .slice A2 n2 c2, .slice A3 n3 c3] 48)).heap.size (w.alloc (.cells #[.slice A1 n1 c1, .slice A2 n2 c2, .slice A3 n3 c3] 48)) w' := by
  subst h1; subst h2; subst h3
  have hrows : (Kd.slice 5 (Kd.int .u8)).C (w.alloc (.cells #[.slice A1 x.length c1, .slice A2 y.length c2, .slice A3 z.length c3] 48)) (some ⟨w.heap.size, 0, none⟩) [x, y, z].length [x, y, z] :=
    rows_C (cs := [.slice A1 x.length c1, .slice A2 y.length c2, .slice A3 z.length c3]) (blk_new w _) (by simp) (by
      intro i q hq
      match i, hq with
      | 0, hq =>
        obtain rfl : x = q := by simpa using hq
        exact ⟨A1, c1, rfl, hc1, Kd.C_alloc hC1 _⟩
      | 1, hq =>
        obtain rfl : y = q := by simpa using hq
        exact ⟨A2, c2, rfl, hc2, Kd.C_alloc hC2 _⟩
      | 2, hq =>
        obtain rfl : z = q := by simpa using hq
        exact ⟨A3, c3, rfl, hc3, Kd.C_alloc hC3 _⟩
      | i + 3, hq => simp at hq)
  have h := concat_is (some ⟨w.heap.size, 0, none⟩) 3 [x, y, z] _ hrows (by simp; omega)
  have hf : [x, y, z].flatten = x ++ y ++ z := by simp
  rw [hf] at h
  exact h
end Go.Proofs.YtgafnjgiikdofaaGreatDoor.Cc
