/- Arguments that are slices, read as rows: what a row's proof hands to a walk. -/
import Derived.Test.YteiejkkgckdihaaWMore
import Derived.SliceStrings
import Derived.ChangeSlices
import Derived.OpenShut
import Derived.Carry
import Derived.ChangeOld
import Derived.Below
import Derived.ProofKit
import Derived.WalkKit
namespace Go.Proofs.Yteiejkkgckdihaa.Rd
set_option linter.unusedVariables false
open Go.ChangeShapes Go.WideShapes Go.ChangeAt Go.RowKit Go.Proofs.YteiejkkgckdihaaW.PrintWords
variable {H : Type} {enc : TypeId × Value → H} {P : Program} {W : World}
theorem read_ints {t e : TypeId} {k : IntKind} {A : Option Addr} {len cap : Nat} {d : DataW H} {p : List MemPlace} (ht : P.underlying t = some (.slice e)) (he : P.underlying e = some (.int k)) (hc : P.cellsOf e = 1)
    (h : DataW.Trod enc P W 0 (fun _ => true) true t (.slice A len cap) d p) :
    ∃ zs : List Int, zs.length = len ∧ len ≤ cap ∧ (Kd.int k).C W A zs.length zs ∧ (∀ n ∈ zs, (Lit.int k n).wf = true) ∧ ((d = .nil ∧ zs = []) ∨ ∃ rest, d = .slice (lits k zs) rest) := by
  obtain ⟨fuel, hf⟩ := h
  rcases open_ints ht he hc hf with ⟨hcs, hx⟩ | ⟨x, l, c, zs, hcs, _, hl, hm, hz, hx, hcell, hwz⟩
  · simp [Value.cells] at hcs
    obtain ⟨rfl, rfl, rfl⟩ := hcs
    injection hx with hd _
    exact ⟨[], rfl, Nat.le_refl _, Kd.C_nil _ _, (by simp), .inl ⟨hd, rfl⟩⟩
  · simp [Value.cells] at hcs
    obtain ⟨rfl, rfl, rfl⟩ := hcs
    injection hx with hd _
    have hz' : zs.length = cap := by simpa using hz
    have hlt : (zs.take len).length = len := by rw [List.length_take]; omega
    refine ⟨zs.take len, hlt, hl, ?_, (fun n hn => hwz n (List.mem_of_mem_take hn)), .inr ⟨_, hd⟩⟩
    refine Kd.C_of_reads (d := (0 : Int)) ⟨rfl, by rw [hlt]; unfold maxLen at hm; omega, fun hp => ⟨x, rfl, fun j hj => ?_⟩⟩
    rw [hlt] at hj
    rw [hcell j (by omega)]
    simp [List.getD_eq_getElem?_getD, hj]
theorem read_strs {t e : TypeId} {A : Option Addr} {len cap : Nat} {d : DataW H} {p : List MemPlace} (ht : P.underlying t = some (.slice e)) (he : P.underlying e = some .string) (hc : P.cellsOf e = 1)
    (h : DataW.Trod enc P W 0 (fun _ => true) true t (.slice A len cap) d p) :
    ∃ ss : List ByteArray, ss.length = len ∧ len ≤ cap ∧ Kd.string.C W A ss.length ss ∧ (∀ s ∈ ss, s.size ≤ maxLen) ∧ ((d = .nil ∧ ss = []) ∨ ∃ rest, d = .slice (strs ss) rest) := by
  obtain ⟨fuel, hf⟩ := h
  rcases open_strings ht he hc hf with ⟨hcs, hx⟩ | ⟨x, l, c, zs, hcs, _, hl, hm, hz, hx, hcell, hwz⟩
  · simp [Value.cells] at hcs
    obtain ⟨rfl, rfl, rfl⟩ := hcs
    injection hx with hd _
    exact ⟨[], rfl, Nat.le_refl _, Kd.C_nil _ _, (by simp), .inl ⟨hd, rfl⟩⟩
  · simp [Value.cells] at hcs
    obtain ⟨rfl, rfl, rfl⟩ := hcs
    injection hx with hd _
    have hz' : zs.length = cap := by simpa using hz
    have hlt : (zs.take len).length = len := by rw [List.length_take]; omega
    refine ⟨zs.take len, hlt, hl, ?_, (fun n hn => hwz n (List.mem_of_mem_take hn)), .inr ⟨_, hd⟩⟩
    refine Kd.C_of_reads (d := ByteArray.empty) ⟨rfl, by rw [hlt]; unfold maxLen at hm; omega, fun hp => ⟨x, rfl, fun j hj => ?_⟩⟩
    rw [hlt] at hj
    rw [hcell j (by omega)]
    simp [List.getD_eq_getElem?_getD, hj]
end Go.Proofs.Yteiejkkgckdihaa.Rd
