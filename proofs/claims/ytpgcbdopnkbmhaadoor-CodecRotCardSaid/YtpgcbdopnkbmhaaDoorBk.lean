/- What the bound of the second form gives: a slice of whole numbers is no longer than it. -/
import Derived.Test.YtpgcbdopnkbmhaaDoorRows
import Derived.Test.YtpgcbdopnkbmhaaDoorRd
namespace Go.Proofs.YtpgcbdopnkbmhaaDoor.Bk
set_option linter.unusedVariables false
open Go.ChangeShapes Go.WideShapes Go.ChangeAt Go.RowKit
theorem one_le {H : Type} (d : DataW H) : 1 ≤ Rows.uptoBulk d := by
  cases d with
  | lit l => cases l <;> simp [Rows.uptoBulk]
  | _ => simp [Rows.uptoBulk]
theorem length_le {H : Type} (l : List (DataW H)) : l.length ≤ Rows.uptoBulkAll l := by
  induction l with
  | nil => simp [Rows.uptoBulkAll]
  | cons x r ih => have := one_le x; simp only [Rows.uptoBulkAll, List.length_cons]; omega
theorem part_le {H : Type} {d : DataW H} {l : List (DataW H)} (h : d ∈ l) : Rows.uptoBulk d ≤ Rows.uptoBulkAll l := by
  induction l with
  | nil => cases h
  | cons x r ih =>
    simp only [Rows.uptoBulkAll]
    cases List.mem_cons.1 h with
    | inl e => subst e; omega
    | inr e => have := ih e; omega
theorem ints_le {H : Type} {k : IntKind} {l : List Int} {d : DataW H} {ds : List (DataW H)} (hk : Rows.uptoSmall H ds = true) (hm : d ∈ ds) (hd : (d = .nil ∧ l = []) ∨ ∃ rest, d = .slice (lits k l) rest) : l.length ≤ 1048576 := by
  have hb : Rows.uptoBulkAll ds ≤ 1048576 := of_decide_eq_true hk
  have hp := part_le hm
  rcases hd with ⟨rfl, rfl⟩ | ⟨rest, rfl⟩
  · simp
  · have h1 := length_le (H := H) (lits k l)
    have e : (lits (H := H) k l).length = l.length := by simp [lits]
    simp only [Rows.uptoBulk] at hp
    omega
end Go.Proofs.YtpgcbdopnkbmhaaDoor.Bk
