/- An argument of bytes, read as a row. -/
import Derived.Test.YtdohacnjngkkiaaRm
import Derived.SliceStrings
import Derived.ChangeSlices
import Derived.Carry
namespace Go.Proofs.Ytdohacnjngkkiaa.Xm
set_option linter.unusedVariables false
open Go.ChangeShapes Go.WideShapes Go.ChangeAt Go.RowKit Go.Proofs.YtdohacnjngkkiaaW.PrintWords
theorem read_bytes {H : Type} {enc : TypeId × Value → H} {W : World} {A : Option Addr} {len cap : Nat} {d : DataW H} {p : List MemPlace} (h : DataW.Trod enc Try.prog W 0 (fun _ => true) true 52 (.slice A len cap) d p) :
    ∃ zs : List Int, zs.length = len ∧ len ≤ cap ∧ (Kd.int .u8).C W A zs.length zs ∧ (zs.length ≤ Rows.uptoBulk d ∧ ∀ n ∈ zs, 0 ≤ n ∧ n < 256) := by
  obtain ⟨fuel, hf⟩ := h
  rcases open_ints Try.underlying52 Try.underlying5 (by kernel_rfl) hf with ⟨hcs, hx⟩ | ⟨x, l, c, zs, hcs, _, hl, hm, hz, hx, hcell, hwz⟩
  · simp [Value.cells] at hcs
    obtain ⟨rfl, rfl, rfl⟩ := hcs
    exact ⟨[], rfl, Nat.le_refl _, Kd.C_nil _ _, by simp⟩
  · simp [Value.cells] at hcs
    obtain ⟨rfl, rfl, rfl⟩ := hcs
    injection hx with hd _
    have hz' : zs.length = cap := by simpa using hz
    have hlt : (zs.take len).length = len := by rw [List.length_take]; omega
    refine ⟨zs.take len, hlt, hl, ?_, ?_, fun n hn => ?_⟩
    · refine Kd.C_of_reads (d := (0 : Int)) ⟨rfl, by rw [hlt]; unfold maxLen at hm; omega, fun hp => ⟨x, rfl, fun j hj => ?_⟩⟩
      rw [hlt] at hj
      rw [hcell j (by omega)]
      simp [List.getD_eq_getElem?_getD, hj]
    · have b1 := Rm.length_le (lits (H := H) .u8 (zs.take len))
      have b2 : (lits (H := H) .u8 (zs.take len)).length = (zs.take len).length := by simp [lits]
      rw [hd]
      simp only [Rows.uptoBulk]
      omega
    · have hw := hwz n (List.mem_of_mem_take hn)
      have h1 : IntKind.u8.min = 0 := by decide
      have h2 : IntKind.u8.max = 255 := by decide
      simp [Lit.wf, h1, h2] at hw
      omega
end Go.Proofs.Ytdohacnjngkkiaa.Xm
