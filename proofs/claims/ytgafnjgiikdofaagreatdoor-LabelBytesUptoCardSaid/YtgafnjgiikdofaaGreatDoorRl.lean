/- Arguments that are slices of labels, read as lists. -/
import Derived.Test.YtgafnjgiikdofaaGreatDoorMf
import Derived.Test.YtgafnjgiikdofaaGreatDoorA0
import Derived.Deep.Strs
import Derived.ShutString
import Derived.JoinedCond
namespace Go.Proofs.YtgafnjgiikdofaaGreatDoor.Rl
set_option linter.unusedVariables false
open Go.ChangeShapes Go.WideShapes Go.ChangeAt Go.RowKit Go.Proofs.YtgafnjgiikdofaaGreatDoorW.PrintWords Go.Proofs.YtgafnjgiikdofaaGreatDoor.A Go.Proofs.YtgafnjgiikdofaaGreatDoor.Bk
theorem pick {α : Type} {Q : Nat → α → Prop} : ∀ (n : Nat), (∀ i, i < n → ∃ p, Q i p) → ∃ l : List α, l.length = n ∧ ∀ j p, l[j]? = some p → Q j p
  | 0, _ => ⟨[], rfl, fun j p h => by simp at h⟩
  | n + 1, h => by
    obtain ⟨l, hl, hq⟩ := pick n (fun i hi => h i (by omega))
    obtain ⟨p, hp⟩ := h n (by omega)
    refine ⟨l ++ [p], by simp [hl], fun j q hj => ?_⟩
    by_cases hjn : j < n
    · rw [List.getElem?_append_left (by omega)] at hj
      exact hq j q hj
    · have : j = n := by
        have := (List.getElem?_eq_some_iff.1 hj).1
        simp at this
        omega
      subst this
      rw [List.getElem?_append_right (by omega)] at hj
      simp [hl] at hj
      subst hj
      exact hp
/-- a label, read -/
theorem read_label {H : Type} {enc : TypeId × Value → H} {W : World} {cs : Array Value} {d : DataW H} {p : List MemPlace} (hs : cs.size = 2) (h : DataW.Trod enc Tryz.prog W 0 (fun _ => true) true 47 (.agg cs) d p) :
    ∃ x : S47, cs = #[.string x.f0, .string x.f1] ∧ x.f0.size ≤ Rows.uptoBulk d ∧ x.f1.size ≤ Rows.uptoBulk d := by
  obtain ⟨a0, a1, rfl⟩ : ∃ a0 a1, cs = #[a0, a1] := by
    obtain ⟨l⟩ := cs
    match l, hs with
    | [a0, a1], _ => exact ⟨a0, a1, rfl⟩
  obtain ⟨fuel, hf⟩ := h
  obtain ⟨xs, n, _, hx, hl, hlen, hg⟩ := DataW.trod_struct Tryz.underlying47 hf
  have hc : Tryz.prog.cellsOf 9 = 1 := by kernel_rfl
  have hlen2 : xs.length = 2 := by simpa using hlen
  match xs, hlen2 with
  | [y0, y1], _ =>
    have u0 : DataW.trod enc Tryz.prog W 0 (fun _ => true) true n 9 [a0] = some y0 := by simpa [Value.cells, hc] using hg 0 _ rfl
    obtain ⟨k0, e0, g0, -⟩ := DataW.trod_string Tryz.underlying9 u0
    injection e0 with e0 _
    subst e0
    have u1 : DataW.trod enc Tryz.prog W 0 (fun _ => true) true n 9 [a1] = some y1 := by simpa [Value.cells, hc] using hg 1 _ rfl
    obtain ⟨k1, e1, g1, -⟩ := DataW.trod_string Tryz.underlying9 u1
    injection e1 with e1 _
    subst e1
    injection hx with hd hp
    subst g0 g1 hd
    have l0 : k0.data.toList.length = k0.size := by rw [Array.length_toList]; rfl
    have l1 : k1.data.toList.length = k1.size := by rw [Array.length_toList]; rfl
    refine ⟨⟨k0, k1⟩, rfl, ?_, ?_⟩ <;> simp only [List.map_cons, List.map_nil, Rows.uptoBulk, Rows.uptoBulkAll, l0, l1] <;> omega
theorem read_labels {H : Type} {enc : TypeId × Value → H} {W : World} {A : Option Addr} {len cap : Nat} {d : DataW H} {p : List MemPlace} (h : DataW.Trod enc Tryz.prog W 0 (fun _ => true) true 27 (.slice A len cap) d p) :
    ∃ l : List S47, l.length = len ∧ len ≤ cap ∧ k47.C W A l.length l ∧ l.length ≤ Rows.uptoBulk d ∧ (∀ x ∈ l, x.f0.size ≤ Rows.uptoBulk d ∧ x.f1.size ≤ Rows.uptoBulk d) := by
  obtain ⟨fuel, hf⟩ := h
  rcases DataW.trod_slice Tryz.underlying27 hf with ⟨hcs, hx⟩ | ⟨a, l, c, elems, rest, n, _, hcs, hx, _, hlc, hcm, hel, hat, _⟩
  · simp [Value.cells] at hcs
    obtain ⟨rfl, rfl, rfl⟩ := hcs
    exact ⟨[], rfl, Nat.le_refl _, Kd.C_nil _ _, by simp, by simp⟩
  · simp [Value.cells] at hcs
    obtain ⟨rfl, rfl, rfl⟩ := hcs
    injection hx with hd hp
    have c47 : Tryz.prog.cellsOf 47 = 2 := by kernel_rfl
    obtain ⟨ops, hl, hq⟩ := pick (Q := fun i (o : S47) => ∃ c, (c.length = k47.sz ∧ k47.K W o c ∧ ∀ k u, c[k]? = some u → W.cell? (a.add (i * k47.sz + k)) = some u) ∧ o.f0.size ≤ Rows.uptoBulk d ∧ o.f1.size ≤ Rows.uptoBulk d) len (fun i hi => by
      have h1 := hat i hi
      obtain ⟨⟨yd, yp⟩, hy⟩ : ∃ y, elems[i]? = some y := ⟨_, List.getElem?_eq_getElem (by omega)⟩
      rw [c47, hy] at h1
      obtain ⟨cs, hc1, hc2⟩ := Option.bind_eq_some_iff.1 h1
      obtain ⟨x, e, z0, z1⟩ := read_label (cs := cs.toArray) (by
        obtain ⟨xs, n, _, hx, hl, hlen, hg⟩ := DataW.trod_struct Tryz.underlying47 hc2
        simpa [c47] using hl) ⟨_, by simpa [Value.cells] using hc2⟩
      have e' : cs = [.string x.f0, .string x.f1] := by
        have := congrArg Array.toList e
        simpa using this
      subst e'
      have hbd : Rows.uptoBulk yd ≤ Rows.uptoBulk d := by
        have := part_le (d := yd) (l := elems.map (·.1)) (List.mem_map.2 ⟨(yd, yp), List.mem_of_getElem? hy, rfl⟩)
        rw [hd]
        simp only [Rows.uptoBulk]
        omega
      refine ⟨x, _, ⟨rfl, k47_mk W x, ?_⟩, by omega, by omega⟩
      intro k u hk
      unfold World.cells? at hc1
      rw [if_pos (Nat.zero_le _)] at hc1
      have hk3 : k < 2 := by have := (List.getElem?_eq_some_iff.1 hk).1; simpa using this
      have := mapM_some_get hc1 k k (by simp [hk3])
      rw [Addr.add_add, hk] at this
      exact this)
    refine ⟨ops, hl, hlc, ⟨rfl, by have := hcm; simp only [maxLen] at this; omega, fun hp => ⟨a, rfl, fun j p hj => (hq j p hj).elim fun c h => ⟨c, h.1⟩⟩⟩, ?_, ?_⟩
    rotate_left
    · intro x hx
      obtain ⟨j, hj⟩ := List.getElem?_of_mem hx
      obtain ⟨c, h⟩ := hq j x hj
      exact h.2
    have b1 := length_le (elems.map (·.1))
    rw [List.length_map] at b1
    rw [hd, hl]
    simp only [Rows.uptoBulk]
    omega
theorem fit_le {H : Type} {l : List S47} {d : DataW H} {ds : List (DataW H)} (hk : Rows.uptoSmall H ds = true) (hm : d ∈ ds) (h : l.length ≤ Rows.uptoBulk d ∧ (∀ x ∈ l, x.f0.size ≤ Rows.uptoBulk d ∧ x.f1.size ≤ Rows.uptoBulk d)) : l.length ≤ 1048576 ∧ ∀ x ∈ l, x.f0.size ≤ 1048576 ∧ x.f1.size ≤ 1048576 := by
  have hb : Rows.uptoBulkAll ds ≤ 1048576 := of_decide_eq_true hk
  have hp := part_le hm
  exact ⟨by omega, fun x hx => by have := h.2 x hx; omega⟩
end Go.Proofs.YtgafnjgiikdofaaGreatDoor.Rl
