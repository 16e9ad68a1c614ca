/- Arguments that are slices of blocks, read as rows. -/
import Derived.Test.YtdohacnjngkkiaaRows
import Derived.Test.YtdohacnjngkkiaaRl
import Derived.Deep.Strs
import Derived.WalkKit
import Derived.ProofKit
import Derived.OpenShut
import Derived.JoinedCond
import Derived.ShutString
import Derived.ChangeOld
import Derived.Below
namespace Go.Proofs.Ytdohacnjngkkiaa.Rm
set_option linter.unusedVariables false
open Go.ChangeShapes Go.WideShapes Go.ChangeAt Go.RowKit Go.Proofs.YtdohacnjngkkiaaW.PrintWords Go.Proofs.Ytdohacnjngkkiaa.A
theorem one_le {H : Type} (d : DataW H) : 1 ≤ Rows.uptoBulk d := by
  cases d with
  | lit l => cases l <;> simp [Rows.uptoBulk]
  | _ => simp [Rows.uptoBulk]
theorem length_le {H : Type} (l : List (DataW H)) : l.length ≤ Rows.uptoBulkAll l := by
  induction l with
  | nil => simp [Rows.uptoBulkAll]
  | cons x r ih => have := one_le x; simp only [Rows.uptoBulkAll, List.length_cons]; omega
theorem pick {α : Type} {Q : Nat → α → Prop} : ∀ (n : Nat), (∀ i, i < n → ∃ p, Q i p) → ∃ l : List α, l.length = n ∧ ∀ j p, l[j]? = some p → Q j p
  | 0, _ => ⟨[], rfl, fun j p h => by simp at h⟩
  | n + 1, h => by
    obtain ⟨l, hl, hq⟩ := pick n (fun i hi => h i (by omega))
    obtain ⟨p, hp⟩ := h n (by omega)
    refine ⟨l ++ [p], by simp [hl], fun j q hj => ?_⟩
    by_cases hjn : j < n
    · rw [List.getElem?_append_left (by omega)] at hj
      exact hq j q hj
    · have : j = n := by
        have := (List.getElem?_eq_some_iff.1 hj).1
        simp at this
        omega
      subst this
      rw [List.getElem?_append_right (by omega)] at hj
      simp [hl] at hj
      subst hj
      exact hp
/-- a block, read -/
theorem read_meta {H : Type} {enc : TypeId × Value → H} {W : World} {cs : Array Value} {d : DataW H} {p : List MemPlace} (hs : cs.size = 8) (h : DataW.Trod enc Try.prog W 0 (fun _ => true) true 44 (.agg cs) d p) :
    ∃ x : S44, cs = #[.int .i64 x.f0, .int .i64 x.f1, .int .i64 x.f2, .int .i64 x.f3, .int .i64 x.f4, .int .i64 x.f5, .int .i64 x.f6, .int .i64 x.f7] := by
  obtain ⟨a0, a1, a2, a3, a4, a5, a6, a7, rfl⟩ : ∃ a0 a1 a2 a3 a4 a5 a6 a7, cs = #[a0, a1, a2, a3, a4, a5, a6, a7] := by
    obtain ⟨l⟩ := cs
    match l, hs with
    | [a0, a1, a2, a3, a4, a5, a6, a7], _ => exact ⟨a0, a1, a2, a3, a4, a5, a6, a7, rfl⟩
  obtain ⟨fuel, hf⟩ := h
  obtain ⟨xs, n, _, hx, hl, hlen, hg⟩ := DataW.trod_struct Try.underlying44 hf
  have c3 : Try.prog.cellsOf 3 = 1 := by kernel_rfl
  have hlen8 : xs.length = 8 := by simpa using hlen
  match xs, hlen8 with
  | [y0, y1, y2, y3, y4, y5, y6, y7], _ =>
    have u0 : DataW.trod enc Try.prog W 0 (fun _ => true) true n 3 [a0] = some y0 := by simpa [Value.cells, c3] using hg 0 _ rfl
    obtain ⟨k0, e0, -, -⟩ := DataW.trod_int Try.underlying3 u0
    injection e0 with e0 _
    subst e0
    have u1 : DataW.trod enc Try.prog W 0 (fun _ => true) true n 3 [a1] = some y1 := by simpa [Value.cells, c3] using hg 1 _ rfl
    obtain ⟨k1, e1, -, -⟩ := DataW.trod_int Try.underlying3 u1
    injection e1 with e1 _
    subst e1
    have u2 : DataW.trod enc Try.prog W 0 (fun _ => true) true n 3 [a2] = some y2 := by simpa [Value.cells, c3] using hg 2 _ rfl
    obtain ⟨k2, e2, -, -⟩ := DataW.trod_int Try.underlying3 u2
    injection e2 with e2 _
    subst e2
    have u3 : DataW.trod enc Try.prog W 0 (fun _ => true) true n 3 [a3] = some y3 := by simpa [Value.cells, c3] using hg 3 _ rfl
    obtain ⟨k3, e3, -, -⟩ := DataW.trod_int Try.underlying3 u3
    injection e3 with e3 _
    subst e3
    have u4 : DataW.trod enc Try.prog W 0 (fun _ => true) true n 3 [a4] = some y4 := by simpa [Value.cells, c3] using hg 4 _ rfl
    obtain ⟨k4, e4, -, -⟩ := DataW.trod_int Try.underlying3 u4
    injection e4 with e4 _
    subst e4
    have u5 : DataW.trod enc Try.prog W 0 (fun _ => true) true n 3 [a5] = some y5 := by simpa [Value.cells, c3] using hg 5 _ rfl
    obtain ⟨k5, e5, -, -⟩ := DataW.trod_int Try.underlying3 u5
    injection e5 with e5 _
    subst e5
    have u6 : DataW.trod enc Try.prog W 0 (fun _ => true) true n 3 [a6] = some y6 := by simpa [Value.cells, c3] using hg 6 _ rfl
    obtain ⟨k6, e6, -, -⟩ := DataW.trod_int Try.underlying3 u6
    injection e6 with e6 _
    subst e6
    have u7 : DataW.trod enc Try.prog W 0 (fun _ => true) true n 3 [a7] = some y7 := by simpa [Value.cells, c3] using hg 7 _ rfl
    obtain ⟨k7, e7, -, -⟩ := DataW.trod_int Try.underlying3 u7
    injection e7 with e7 _
    subst e7
    exact ⟨⟨k0, k1, k2, k3, k4, k5, k6, k7⟩, rfl⟩
theorem read_metas {H : Type} {enc : TypeId × Value → H} {W : World} {A : Option Addr} {len cap : Nat} {d : DataW H} {p : List MemPlace} (h : DataW.Trod enc Try.prog W 0 (fun _ => true) true 22 (.slice A len cap) d p) :
    ∃ l : List S44, l.length = len ∧ len ≤ cap ∧ k44.C W A l.length l ∧ l.length ≤ Rows.uptoBulk d := by
  obtain ⟨fuel, hf⟩ := h
  rcases DataW.trod_slice Try.underlying22 hf with ⟨hcs, hx⟩ | ⟨a, l, c, elems, rest, n, _, hcs, hx, _, hlc, hcm, hel, hat, _⟩
  · simp [Value.cells] at hcs
    obtain ⟨rfl, rfl, rfl⟩ := hcs
    exact ⟨[], rfl, Nat.le_refl _, Kd.C_nil _ _, by simp⟩
  · simp [Value.cells] at hcs
    obtain ⟨rfl, rfl, rfl⟩ := hcs
    injection hx with hd hp
    have c44 : Try.prog.cellsOf 44 = 8 := by kernel_rfl
    obtain ⟨ops, hl, hq⟩ := pick (Q := fun i (o : S44) => ∃ c, c.length = k44.sz ∧ k44.K W o c ∧ ∀ k u, c[k]? = some u → W.cell? (a.add (i * k44.sz + k)) = some u) len (fun i hi => by
      have h1 := hat i hi
      obtain ⟨⟨yd, yp⟩, hy⟩ : ∃ y, elems[i]? = some y := ⟨_, List.getElem?_eq_getElem (by omega)⟩
      rw [c44, hy] at h1
      obtain ⟨cs, hc1, hc2⟩ := Option.bind_eq_some_iff.1 h1
      obtain ⟨x, e⟩ := read_meta (cs := cs.toArray) (by
        obtain ⟨xs, n, _, hx, hl, hlen, hg⟩ := DataW.trod_struct Try.underlying44 hc2
        simpa [c44] using hl) ⟨_, by simpa [Value.cells] using hc2⟩
      have e' : cs = [.int .i64 x.f0, .int .i64 x.f1, .int .i64 x.f2, .int .i64 x.f3, .int .i64 x.f4, .int .i64 x.f5, .int .i64 x.f6, .int .i64 x.f7] := by
        have := congrArg Array.toList e
        simpa using this
      subst e'
      refine ⟨x, _, rfl, k44_mk W x, ?_⟩
      intro k u hk
      unfold World.cells? at hc1
      rw [if_pos (Nat.zero_le _)] at hc1
      have hk3 : k < 8 := by have := (List.getElem?_eq_some_iff.1 hk).1; simpa using this
      have := mapM_some_get hc1 k k (by simp [hk3])
      rw [Addr.add_add, hk] at this
      exact this)
    refine ⟨ops, hl, hlc, ⟨rfl, by have := hcm; simp only [maxLen] at this; omega, fun hp => ⟨a, rfl, fun j p hj => hq j p hj⟩⟩, ?_⟩
    have b1 := length_le (elems.map (·.1))
    rw [List.length_map] at b1
    rw [hd, hl]
    simp only [Rows.uptoBulk]
    omega
end Go.Proofs.Ytdohacnjngkkiaa.Rm
