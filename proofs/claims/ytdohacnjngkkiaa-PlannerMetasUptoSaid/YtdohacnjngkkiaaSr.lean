/- The sort of blocks: what it leaves. -/
import Derived.Test.YtdohacnjngkkiaaSm
import Derived.Shelf.SlSortCmp.WholeK
namespace Go.Proofs.Ytdohacnjngkkiaa.Sr
set_option linter.unusedVariables false
set_option linter.unusedSimpArgs false
open Go.Proofs.Ytdohacnjngkkiaa.So Go.Proofs.Ytdohacnjngkkiaa.La Go.Proofs.Ytdohacnjngkkiaa.Sm Go.Shelf Go.RowKit Go.Sort Go.Proofs.YtdohacnjngkkiaaW.PrintWords Go.Proofs.YtdohacnjngkkiaaW.PrintLast Go.Proofs.YtdohacnjngkkiaaW.PrintMore Go.Proofs.Ytdohacnjngkkiaa.Fr Go.Proofs.Ytdohacnjngkkiaa.A Go.Proofs.Ytdohacnjngkkiaa.Pm Go.Proofs.Ytdohacnjngkkiaa.Pf Go.Proofs.Ytdohacnjngkkiaa.Pi Go.Proofs.Ytdohacnjngkkiaa.Pc Go.Proofs.Ytdohacnjngkkiaa.Pd
instance : Inhabited S40 := ⟨z40⟩
theorem cmpI_neg (a b : Int) : cmpI a b < 0 ↔ a < b := by
  unfold cmpI
  by_cases h1 : a < b
  · simp [h1]
  · by_cases h2 : b < a
    · simp [h1, h2]
    · simp [h1, h2]
theorem cmpI_zero (a b : Int) : cmpI a b = 0 ↔ a = b := by
  unfold cmpI
  by_cases h1 : a < b
  · simp [h1]; omega
  · by_cases h2 : b < a
    · simp [h1, h2]; omega
    · simp [h1, h2]; omega
/-- before -/
def lessM (x y : S40) : Prop := x.f3 < y.f3 ∨ x.f3 = y.f3 ∧ x.f0 < y.f0
theorem cfM_neg (x y : S40) : cfM x y < 0 ↔ lessM x y := by
  unfold cfM orI lessM
  by_cases h : cmpI x.f3 y.f3 = 0
  · have h' := (cmpI_zero _ _).1 h
    rw [if_pos h, cmpI_neg]
    omega
  · have h' := fun e => h ((cmpI_zero _ _).2 e)
    rw [if_neg h, cmpI_neg]
    constructor
    · intro h; exact .inl h
    · rintro (h | ⟨h, _⟩)
      · exact h
      · exact absurd h h'
theorem lt_iff (x y : S40) : ltOf cfM x y = true ↔ lessM x y := by unfold ltOf; rw [decide_eq_true_iff, cfM_neg]
theorem lt_no (x y : S40) : ltOf cfM x y = false ↔ ¬ lessM x y := by rw [← lt_iff]; simp
theorem cfM_swo : SWO (ltOf cfM) := by
  refine ⟨fun x => ?_, fun x y z => ?_, fun x y z => ?_⟩
  · rw [lt_no]; unfold lessM; omega
  · rw [lt_iff, lt_iff, lt_iff]; unfold lessM; omega
  · rw [lt_no, lt_no, lt_no]; unfold lessM; omega
theorem cells8_len (x : S40) : (cells8 x).length = 8 := rfl
theorem cells8_one (x : S40) : ∀ v ∈ cells8 x, v.oneCell' = true := seg_one x
theorem cells8_at (w : World) (gb i : Nat) (x : S40) (h : w.cell? ⟨gb, i * 8, none⟩ = some (.int .i64 x.f0) ∧ w.cell? ⟨gb, i * 8 + 1, none⟩ = some (.int .i64 x.f1) ∧ w.cell? ⟨gb, i * 8 + 2, none⟩ = some (.int .i64 x.f2) ∧ w.cell? ⟨gb, i * 8 + 3, none⟩ = some (.int .i64 x.f3) ∧
    w.cell? ⟨gb, i * 8 + 4, none⟩ = some (.int .i64 x.f4) ∧ w.cell? ⟨gb, i * 8 + 5, none⟩ = some (.int .i64 x.f5) ∧ w.cell? ⟨gb, i * 8 + 6, none⟩ = some (.int .i64 x.f6) ∧ w.cell? ⟨gb, i * 8 + 7, none⟩ = some (.int .i64 x.f7)) (c : Nat) (hc : c < 8) :
    w.cell? ⟨gb, i * 8 + c, none⟩ = some (cells8 x)[c]! := by
  obtain ⟨h0, h1, h2, h3, h4, h5, h6, h7⟩ := h
  match c, hc with
  | 0, _ => exact h0
  | 1, _ => exact h1
  | 2, _ => exact h2
  | 3, _ => exact h3
  | 4, _ => exact h4
  | 5, _ => exact h5
  | 6, _ => exact h6
  | 7, _ => exact h7
theorem holds_of {w : World} {gb : Nat} {cur : Array Value} {l : List S40} (hb : w.heap[gb]? = some (.cells cur 40 (0, 0))) (hC : k40.C w (some ⟨gb, 0, none⟩) l.length l) : HoldsK cells8 8 w gb 0 l.toArray := by
  intro j hj
  rw [size_flatK] at hj
  have hj' : j < l.length * 8 := by simpa using hj
  have hi : j / 8 < l.length := by omega
  refine ⟨?_, by simp [World.frozen?, hb]⟩
  rw [get_flatK _ _ _ _ hj]
  have h := cells8_at w gb (j / 8) l[j / 8] (el_own hC (j / 8) hi) (j % 8) (by omega)
  rw [show j / 8 * 8 + j % 8 = j from by omega] at h
  have e : l.toArray[j / 8]! = l[j / 8] := by simp [hi]
  rw [e, Nat.zero_add]
  exact h
theorem heap_sortedK {w : World} {g n : Nat} {os : Array Obj} {cur : Array Value} {e : TypeId} {fr : Nat × Nat} (F : Array Value) (hb : w.heap[g]? = some (.cells cur e fr)) :
    (grow (putRow id (Sort.ahead w n) g 0 F) os).heap[g]? = some (.cells (putCells id 0 F cur) e fr) := by
  have hg : g < w.heap.size := (Array.getElem?_eq_some_iff.1 hb).1
  rw [heap_grow_old _ _ (by simpa using hg)]
  simp [putRow, mapBlock, Sort.ahead, Array.getElem?_modify, hb, onCells]
theorem below_sortedK {w : World} {g n B : Nat} {os : Array Obj} (F : Array Value) (hB : B ≤ g) (hg : g < w.heap.size) : Below B w (grow (putRow id (Sort.ahead w n) g 0 F) os) := by
  refine ⟨rfl, rfl, rfl, by simp, fun k hk => ?_⟩
  rw [heap_grow_old _ _ (by simp; omega)]
  have : g ≠ k := by omega
  simp [putRow, mapBlock, Sort.ahead, Array.getElem?_modify, this]
theorem take_flat (cur F : Array Value) (h : F.size ≤ cur.size) : (putCells id 0 F cur).toList.take F.size = F.toList := by
  apply List.ext_getElem?
  intro j
  by_cases hj : j < F.size
  · rw [List.getElem?_take_of_lt hj, Array.getElem?_toList]
    simp [putCells, hj, show j < cur.size by omega]
  · rw [List.getElem?_take_eq_none (by omega), List.getElem?_eq_none (by simp; omega)]
theorem flat_seg (d : Array S40) (j : Nat) (x : S40) (h : d.toList[j]? = some x) : ((flatK cells8 8 d).toList.drop (j * 8)).take 8 = cells8 x := by
  obtain ⟨hj, hx⟩ := List.getElem?_eq_some_iff.1 h
  have hj' : j < d.size := by simpa using hj
  apply List.ext_getElem?
  intro i
  by_cases hi : i < 8
  · rw [List.getElem?_take_of_lt hi, List.getElem?_drop, Array.getElem?_toList]
    have hlt : j * 8 + i < (flatK cells8 8 d).size := by rw [size_flatK]; omega
    rw [Array.getElem?_eq_getElem hlt, ← getElem!_pos (flatK cells8 8 d) (j * 8 + i) hlt, get_flatK _ _ _ _ (by rw [size_flatK] at hlt; exact hlt), show (j * 8 + i) / 8 = j from by omega, show (j * 8 + i) % 8 = i from by omega]
    have e : d[j]! = x := by rw [getElem!_pos d j hj']; simpa using hx
    rw [e]
    have hi' : i < (cells8 x).length := hi
    rw [List.getElem?_eq_getElem hi', getElem!_pos (cells8 x) i hi']
  · rw [List.getElem?_take_eq_none (by omega), List.getElem?_eq_none (by rw [cells8_len]; omega)]
theorem R_sorted {w : World} {base gb cap n : Nat} {os : Array Obj} {l : List S40} {d : Array S40} (hd : d.size = l.length) (hn : 0 < l.length)
    (hR : k40.R 40 w base (fun _ => True) (.slice (some ⟨gb, 0, none⟩) l.length cap) l) :
    k40.R 40 (grow (putRow id (Sort.ahead w n) gb 0 (flatK cells8 8 d)) os) base (fun _ => True) (.slice (some ⟨gb, 0, none⟩) d.toList.length cap) d.toList ∧ base ≤ gb ∧ gb < w.heap.size ∧ ∃ cur, w.heap[gb]? = some (.cells cur 40 (0, 0)) := by
  obtain ⟨h0, inner, hrow, hr⟩ := hR
  rcases hrow.2 with ⟨hv, _⟩ | ⟨g, cap', cur, hv, hb, hg, hnc, hcm, hcs, ht⟩
  · injection hv with hv1 hv2
    cases hv1
  · injection hv with hv1 hv2 hv3
    injection hv1 with hv1
    injection hv1 with hv1 _ _
    subst hv1 hv3
    have hF : (flatK cells8 8 d).size = d.size * 8 := size_flatK _ _ _
    have hdl : d.toList.length = d.size := Array.length_toList ..
    have h8 : k40.sz = 8 := rfl
    rw [h8] at hcs
    refine ⟨⟨fun _ _ => trivial, (flatK cells8 8 d).toList, ⟨by rw [Array.length_toList, hF, hdl, h8], .inr ⟨gb, cap, _, rfl, hb, heap_sortedK _ hg, by rw [hdl, hd]; exact hnc, hcm, by simp [putCells, hcs, h8], ?_⟩⟩, ?_⟩, hb, blk_lt hg, cur, hg⟩
    · rw [hdl, h8, ← hF]
      exact take_flat cur _ (by rw [hF, hcs, hd]; omega)
    · refine ⟨by rw [Array.length_toList, hF, hdl, h8], fun j p hj => ?_⟩
      rw [h8, flat_seg d j p hj]
      exact k40_mkM _ _ _ _
/-- **slices.SortFunc by Pack's order.** -/
theorem sort_calls (gb cap base : Nat) (l : List S40) (w0 w : World) (hn : 0 < l.length) (hl : l.length ≤ 1048576) (hb0 : Below base w0 w)
    (hR : k40.R 40 w base (fun _ => True) (.slice (some ⟨gb, 0, none⟩) l.length cap) l) :
    Calls Try.prog 43 #[.slice (some ⟨gb, 0, none⟩) l.length cap, .func (.func 44) #[] #[]] w fun e w' => e = .returned (.tuple #[]) ∧ ∃ l', l'.Perm l ∧ (l'.Pairwise fun x y => ¬ lessM y x) ∧
      k40.R 40 w' base (fun _ => True) (.slice (some ⟨gb, 0, none⟩) l'.length cap) l' ∧ Below base w0 w' := by
  have eg := enters_of Try.func44 (by kernel_rfl) rfl
  obtain ⟨_, _, hC⟩ := Kd.R_reads' hR
  obtain ⟨_, _, hlt, cur, hcur⟩ := R_sorted (n := 0) (os := #[]) (d := l.toArray) (by simp) hn hR
  have h := AnyQ.slices_SortFunc sortM 8 (fun w => by kernel_rfl) (fun w => by kernel_rfl) cells8 (fun _ => rfl) cells8_one cfM cfM_swo 44 #[] gb 0 cap l.toArray w eg
    (fun _ _ _ _ x y => order_is x y _) (holds_of hcur hC) hlt (by simp; omega)
  rw [show l.toArray.size = l.length from by simp] at h
  refine Calls.mono h ?_
  rintro e w' ⟨rfl, d, n, os, hp, hs, rfl⟩
  obtain ⟨hp1, _, hp3⟩ := hp
  have hd : d.size = l.length := by simpa using hp1
  have e1 : (d.extract 0 l.length).toList = d.toList := by rw [← hd]; simp
  have e2 : (l.toArray.extract 0 l.length).toList = l := by simp
  rw [e1, e2] at hp3
  obtain ⟨hR', hbg, _, _⟩ := R_sorted (n := n) (os := os) hd hn hR
  refine ⟨rfl, d.toList, hp3, ?_, hR', hb0.trans (below_sortedK _ hbg hlt)⟩
  rw [List.pairwise_iff_getElem]
  intro i j hi hj hij
  have hi' : i < d.size := by simpa using hi
  have hj' : j < d.size := by simpa using hj
  have hs' := hs i j (Nat.zero_le _) hij (by rw [← hd]; exact hj')
  rw [getElem!_pos d i hi', getElem!_pos d j hj', lt_no] at hs'
  simpa using hs'
end Go.Proofs.Ytdohacnjngkkiaa.Sr
