/- Arguments that are slices of calls of a cache, read as rows. -/
import Derived.Test.YteiejkkgckdihaaRows
import Derived.Test.YteiejkkgckdihaaRd
import Derived.Deep.Strs
import Derived.WalkKit
import Derived.ProofKit
import Derived.OpenShut
import Derived.JoinedCond
import Derived.ShutString
import Derived.ChangeOld
import Derived.Below
namespace Go.Proofs.Yteiejkkgckdihaa.Ro
set_option linter.unusedVariables false
open Go.ChangeShapes Go.WideShapes Go.ChangeAt Go.RowKit Go.Proofs.YteiejkkgckdihaaW.PrintWords
theorem one_le {H : Type} (d : DataW H) : 1 ≤ Rows.uptoBulk d := by
  cases d with
  | lit l => cases l <;> simp [Rows.uptoBulk]
  | _ => simp [Rows.uptoBulk]
theorem length_le {H : Type} (l : List (DataW H)) : l.length ≤ Rows.uptoBulkAll l := by
  induction l with
  | nil => simp [Rows.uptoBulkAll]
  | cons x r ih => have := one_le x; simp only [Rows.uptoBulkAll, List.length_cons]; omega
theorem bulk_third {H : Type} (x y z : DataW H) : Rows.uptoBulk y + Rows.uptoBulk z ≤ Rows.uptoBulk (.agg [x, y, z]) := by
  simp only [Rows.uptoBulk, Rows.uptoBulkAll]
  omega
/-- a call of a cache, read -/
theorem read_op {H : Type} {enc : TypeId × Value → H} {W : World} {cs : Array Value} {d : DataW H} {p : List MemPlace} (hs : cs.size = 3) (h : DataW.Trod enc Try.prog W 0 (fun _ => true) true 31 (.agg cs) d p) :
    ∃ (kd : Int) (s : ByteArray) (A : Option Addr) (n c : Nat) (zs : List Int) (x y z : DataW H), cs = #[.int .i64 kd, .string s, .slice A n c] ∧ zs.length = n ∧ n ≤ c ∧ (Kd.int .u8).C W A zs.length zs ∧ d = .agg [x, y, z] ∧ y = .lit (.string s.data.toList) ∧ ((z = .nil ∧ zs = []) ∨ ∃ rest, z = .slice (lits .u8 zs) rest) := by
  obtain ⟨a, b, e, rfl⟩ : ∃ a b e, cs = #[a, b, e] := by
    obtain ⟨l⟩ := cs
    match l, hs with
    | [a, b, e], _ => exact ⟨a, b, e, rfl⟩
  obtain ⟨fuel, hf⟩ := h
  obtain ⟨y0, y1, y2, m, hx, hl, u0, u1, u2⟩ := Go.Deep.trod_struct3 Try.underlying31 hf
  have c3 : Try.prog.cellsOf 3 = 1 := by kernel_rfl
  have c9 : Try.prog.cellsOf 9 = 1 := by kernel_rfl
  have c29 : Try.prog.cellsOf 29 = 1 := by kernel_rfl
  simp only [Value.cells, c3, c9, c29] at u0 u1 u2
  simp at u0 u1 u2
  injection hx with hd hp
  obtain ⟨kd, e0, -, -⟩ := DataW.trod_int Try.underlying3 u0
  obtain ⟨s, e1, ey, -⟩ := DataW.trod_string Try.underlying9 u1
  simp at e0 e1
  subst e0 e1
  obtain ⟨A, n, c, rfl⟩ : ∃ A n c, e = .slice A n c := by
    rcases open_ints Try.underlying29 Try.underlying5 (by kernel_rfl) u2 with ⟨hcs, _⟩ | ⟨x, l, c, zs, hcs, _⟩
    · simp at hcs
      exact ⟨_, _, _, hcs⟩
    · simp at hcs
      exact ⟨_, _, _, hcs⟩
  obtain ⟨zs, hz, hc, hC, _, hd2⟩ := Rd.read_ints (enc := enc) (d := y2.1) (p := y2.2) Try.underlying29 Try.underlying5 (by kernel_rfl) ⟨m, u2⟩
  exact ⟨kd, s, A, n, c, zs, _, _, _, rfl, hz, hc, hC, hd, congrArg Prod.fst ey, hd2⟩
/-- a call: its kind, its key, its value -/
def OpK : Kd (Int × ByteArray × List Int) := Kd.pair (Kd.int .i64) (Kd.pair Kd.string (Kd.slice 5 (Kd.int .u8)))
theorem pick {α : Type} {Q : Nat → α → Prop} : ∀ (n : Nat), (∀ i, i < n → ∃ p, Q i p) → ∃ l : List α, l.length = n ∧ ∀ j p, l[j]? = some p → Q j p
  | 0, _ => ⟨[], rfl, fun j p h => by simp at h⟩
  | n + 1, h => by
    obtain ⟨l, hl, hq⟩ := pick n (fun i hi => h i (by omega))
    obtain ⟨p, hp⟩ := h n (by omega)
    refine ⟨l ++ [p], by simp [hl], fun j q hj => ?_⟩
    by_cases hjn : j < n
    · rw [List.getElem?_append_left (by omega)] at hj
      exact hq j q hj
    · have : j = n := by
        have := (List.getElem?_eq_some_iff.1 hj).1
        simp at this
        omega
      subst this
      rw [List.getElem?_append_right (by omega)] at hj
      simp [hl] at hj
      subst hj
      exact hp
theorem bulk_at {H : Type} {d : DataW H} : ∀ {l : List (DataW H)}, d ∈ l → Rows.uptoBulk d ≤ Rows.uptoBulkAll l
  | x :: l, h => by
    simp only [Rows.uptoBulkAll]
    rcases List.mem_cons.1 h with rfl | h
    · omega
    · have := bulk_at h
      omega
theorem read_ops {H : Type} {enc : TypeId × Value → H} {W : World} {A : Option Addr} {len cap : Nat} {d : DataW H} {p : List MemPlace} (h : DataW.Trod enc Try.prog W 0 (fun _ => true) true 22 (.slice A len cap) d p) :
    ∃ ops : List (Int × ByteArray × List Int), ops.length = len ∧ len ≤ cap ∧ OpK.C W A ops.length ops ∧ ∀ o ∈ ops, o.2.1.size + o.2.2.length ≤ Rows.uptoBulk d := by
  obtain ⟨fuel, hf⟩ := h
  rcases DataW.trod_slice Try.underlying22 hf with ⟨hcs, hx⟩ | ⟨a, l, c, elems, rest, n, _, hcs, hx, _, hlc, hcm, hel, hat, _⟩
  · simp [Value.cells] at hcs
    obtain ⟨rfl, rfl, rfl⟩ := hcs
    exact ⟨[], rfl, Nat.le_refl _, Kd.C_nil _ _, by simp⟩
  · simp [Value.cells] at hcs
    obtain ⟨rfl, rfl, rfl⟩ := hcs
    injection hx with hd hp
    have c31 : Try.prog.cellsOf 31 = 3 := by kernel_rfl
    obtain ⟨ops, hl, hq⟩ := pick (Q := fun i (o : Int × ByteArray × List Int) => o.2.1.size + o.2.2.length ≤ Rows.uptoBulk d ∧ ∃ c, c.length = OpK.sz ∧ OpK.K W o c ∧ ∀ k u, c[k]? = some u → W.cell? (a.add (i * OpK.sz + k)) = some u) len (fun i hi => by
      have h1 := hat i hi
      obtain ⟨⟨yd, yp⟩, hy⟩ : ∃ y, elems[i]? = some y := ⟨_, List.getElem?_eq_getElem (by omega)⟩
      rw [c31, hy] at h1
      obtain ⟨cs, hc1, hc2⟩ := Option.bind_eq_some_iff.1 h1
      obtain ⟨kd, s, A, m, cc, zs, x, y, z, e, hz, hcc, hC, hdd, hy2, hz2⟩ := read_op (cs := cs.toArray) (by
        obtain ⟨y0, y1, y2, m, hx, hl, u0, u1, u2⟩ := Go.Deep.trod_struct3 Try.underlying31 hc2
        simpa [c31] using hl) ⟨_, by simpa [Value.cells] using hc2⟩
      have e' : cs = [.int .i64 kd, .string s, .slice A m cc] := by
        have := congrArg Array.toList e
        simpa using this
      subst e'
      subst hz
      refine ⟨(kd, s, zs), ?_, [.int .i64 kd, .string s, .slice A zs.length cc], rfl, ⟨[.int .i64 kd], [.string s, .slice A zs.length cc], rfl, rfl, [.string s], [.slice A zs.length cc], rfl, rfl, A, cc, rfl, hcc, hC⟩, ?_⟩
      · have b1 := bulk_third x y z
        have b2 : Rows.uptoBulk yd ≤ Rows.uptoBulkAll (elems.map (·.1)) := bulk_at (List.mem_map.2 ⟨(yd, yp), List.mem_of_getElem? hy, rfl⟩)
        have b3 : Rows.uptoBulkAll (elems.map (·.1)) ≤ Rows.uptoBulk d := by
          rw [hd]
          simp only [Rows.uptoBulk]
          omega
        rw [← hdd] at b1
        have b0 : zs.length ≤ Rows.uptoBulk z := by
          rcases hz2 with ⟨rfl, rfl⟩ | ⟨rest, rfl⟩
          · simp
          · have := length_le (H := H) (lits .u8 zs)
            simp only [Rows.uptoBulk]
            have e : (lits (H := H) .u8 zs).length = zs.length := by simp [lits]
            omega
        have b4 : Rows.uptoBulk y = s.size + 1 := by
          rw [hy2]
          simp only [Rows.uptoBulk, Array.length_toList]
          rfl
        show s.size + zs.length ≤ _
        omega
      · intro k u hk
        unfold World.cells? at hc1
        rw [if_pos (Nat.zero_le _)] at hc1
        have hk3 : k < 3 := by have := (List.getElem?_eq_some_iff.1 hk).1; simpa using this
        have := mapM_some_get hc1 k k (by simp [hk3])
        rw [Addr.add_add, hk] at this
        exact this)
    refine ⟨ops, hl, hlc, ⟨rfl, by have := hcm; simp only [maxLen] at this; omega, fun hp => ⟨a, rfl, fun j p hj => (hq j p hj).2⟩⟩, fun o ho => ?_⟩
    obtain ⟨j, hj⟩ := List.getElem?_of_mem ho
    exact (hq j o hj).1
theorem bulkAll_ge {H : Type} (l : List (DataW H)) (h : ∀ d ∈ l, 3 ≤ Rows.uptoBulk d) : 3 * l.length ≤ Rows.uptoBulkAll l := by
  induction l with
  | nil => simp [Rows.uptoBulkAll]
  | cons x r ih =>
    have h1 := h x (by simp)
    have h2 := ih (fun d hd => h d (by simp [hd]))
    simp only [Rows.uptoBulkAll, List.length_cons]
    omega
theorem take_le {H : Type} : ∀ (n : Nat) (l : List (DataW H)), Rows.uptoBulkAll (l.take n) ≤ Rows.uptoBulkAll l
  | 0, l => by simp [Rows.uptoBulkAll]
  | n + 1, [] => by simp
  | n + 1, x :: l => by
    have := take_le n l
    simp only [List.take_succ_cons, Rows.uptoBulkAll]
    omega
theorem ops_len {H : Type} {enc : TypeId × Value → H} {W : World} {A : Option Addr} {len cap : Nat} {d : DataW H} {p : List MemPlace} (h : DataW.Trod enc Try.prog W 0 (fun _ => true) true 22 (.slice A len cap) d p) : 3 * len ≤ Rows.uptoBulk d := by
  obtain ⟨fuel, hf⟩ := h
  rcases DataW.trod_slice Try.underlying22 hf with ⟨hcs, hx⟩ | ⟨a, l, c, elems, rest, n, _, hcs, hx, _, hlc, hcm, hel, hat, _⟩
  · simp [Value.cells] at hcs
    obtain ⟨rfl, rfl, rfl⟩ := hcs
    omega
  · simp [Value.cells] at hcs
    obtain ⟨rfl, rfl, rfl⟩ := hcs
    injection hx with hd hp
    have c31 : Try.prog.cellsOf 31 = 3 := by kernel_rfl
    have hb := bulkAll_ge ((elems.map (·.1)).take len) (fun e he => by
      obtain ⟨i, hi, e1⟩ := List.getElem_of_mem he
      have hi' : i < len := by simp at hi; omega
      have h1 := hat i hi'
      obtain ⟨⟨yd, yp⟩, hy⟩ : ∃ y, elems[i]? = some y := ⟨_, List.getElem?_eq_getElem (by omega)⟩
      rw [c31, hy] at h1
      obtain ⟨cs, hc1, hc2⟩ := Option.bind_eq_some_iff.1 h1
      obtain ⟨kd, s, A, m, cc, zs, x, y, z, e2, hz, hcc, hC, hdd, hy2, hz2⟩ := read_op (cs := cs.toArray) (by
        obtain ⟨y0, y1, y2, m, hx, hl, u0, u1, u2⟩ := Go.Deep.trod_struct3 Try.underlying31 hc2
        simpa [c31] using hl) ⟨_, by simpa [Value.cells] using hc2⟩
      have he : e = yd := by
        rw [← e1, List.getElem_take, List.getElem_map]
        have := List.getElem?_eq_some_iff.1 hy
        rw [this.2]
      rw [he, hdd]
      have o1 := one_le x
      have o2 := one_le y
      have o3 := one_le z
      simp only [Rows.uptoBulk, Rows.uptoBulkAll]
      omega)
    have hle : Rows.uptoBulkAll ((elems.map (·.1)).take len) ≤ Rows.uptoBulkAll (elems.map (·.1)) := take_le _ _
    rw [hd]
    simp only [Rows.uptoBulk]
    have : ((elems.map (·.1)).take len).length = len := by simp; omega
    rw [this] at hb
    omega
theorem read_ops2 {H : Type} {enc : TypeId × Value → H} {W : World} {A : Option Addr} {len cap : Nat} {d : DataW H} {p : List MemPlace} (h : DataW.Trod enc Try.prog W 0 (fun _ => true) true 22 (.slice A len cap) d p) :
    ∃ ops : List (Int × ByteArray × List Int), ops.length = len ∧ len ≤ cap ∧ OpK.C W A ops.length ops ∧ (∀ o ∈ ops, o.2.1.size + o.2.2.length ≤ Rows.uptoBulk d) ∧ 3 * ops.length ≤ Rows.uptoBulk d := by
  obtain ⟨ops, h1, h2, h3, h4⟩ := read_ops h
  exact ⟨ops, h1, h2, h3, h4, by rw [h1]; exact ops_len h⟩
end Go.Proofs.Yteiejkkgckdihaa.Ro
