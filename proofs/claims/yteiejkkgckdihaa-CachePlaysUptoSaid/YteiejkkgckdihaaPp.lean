/- Two pointers, compared. -/
import Derived.Test.YteiejkkgckdihaaRg
import Derived.LaidEql
namespace Go.Proofs.Yteiejkkgckdihaa.Pp
open Go.RowKit Go.Proofs.Yteiejkkgckdihaa.Rg
theorem info61 : ∃ j, Try.prog.info? 61 = some j ∧ j.size ≠ 0 := by
  have h : (Try.prog.info? 61).map (fun j => j.size) = some 4 := by kernel_rfl
  cases hj : Try.prog.info? 61 with
  | none => rw [hj] at h; cases h
  | some j => rw [hj] at h; simp at h; exact ⟨j, rfl, by omega⟩
theorem run_eq_same (d : Nat) (w : World) (a : Nat) : (Op.equalIn (d + 1) 49 (PT a) (PT a)).run Try.prog w = .ok true w := by
  obtain ⟨j, hj, hs⟩ := info61
  simp [Op.equalIn, run_underlying Try.underlying49, sizeOf, typeInfo, hj, run_sameAddr_same]
theorem run_eq_other (d : Nat) (w : World) (a b : Nat) {ca cb : Array Value} {ta tb : TypeId} (hne : a ≠ b) (ha : w.heap[a]? = some (.cells ca ta (0, 0))) (hb : w.heap[b]? = some (.cells cb tb (0, 0))) :
    (Op.equalIn (d + 1) 49 (PT a) (PT b)).run Try.prog w = .ok false w := by
  obtain ⟨j, hj, hs⟩ := info61
  have h := run_sameAddr_other (P := Try.prog) w (a := ⟨a, 0, none⟩) (b := ⟨b, 0, none⟩) (fun e => hne (congrArg Addr.block e)) ha hb
  simp [Op.equalIn, run_underlying Try.underlying49, sizeOf, typeInfo, hj, hs, h]
theorem neq_same (w : World) (a : Nat) : (binOp .neq 49 (PT a) (PT a)).run Try.prog w = .ok (.bool false) w := by
  simp only [binOp]
  simp [Op.equal, Op.maxDepth, run_eq_same 9999 w a]
theorem neq_other (w : World) (a b : Nat) {ca cb : Array Value} {ta tb : TypeId} (hne : a ≠ b) (ha : w.heap[a]? = some (.cells ca ta (0, 0))) (hb : w.heap[b]? = some (.cells cb tb (0, 0))) :
    (binOp .neq 49 (PT a) (PT b)).run Try.prog w = .ok (.bool true) w := by
  simp only [binOp]
  simp [Op.equal, Op.maxDepth, run_eq_other 9999 w a b hne ha hb]
end Go.Proofs.Yteiejkkgckdihaa.Pp
