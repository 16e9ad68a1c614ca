/- Texts held against each other: what is greater, at most. -/
import Derived.Test.YtgafnjgiikdofaaGreatDoorA0
import Derived.Laws.Cover1
namespace Go.Proofs.YtgafnjgiikdofaaGreatDoor.Sg
open Go.RowKit
theorem bl_tri : ∀ x y : List UInt8, (!(Op.bytesLess x y || x == y)) = Op.bytesLess y x
  | [], [] => by simp [Op.bytesLess]
  | [], _ :: _ => by simp [Op.bytesLess]
  | _ :: _, [] => by simp [Op.bytesLess]
  | a :: x, b :: y => by
    have ih := bl_tri x y
    simp only [Op.bytesLess]
    by_cases h : a = b
    · subst h
      simp only [show ¬ a < a from UInt8.lt_irrefl a, decide_false, Bool.false_or, beq_self_eq_true, Bool.true_and]
      rw [← ih]
      simp
    · have h' : ¬ b = a := fun e => h e.symm
      by_cases hl : a < b
      · have h2 : ¬ b < a := UInt8.lt_asymm hl
        simp [hl, h2, h']
      · have h2 : b < a := by
          rcases UInt8.lt_or_lt_of_ne h with h3 | h3
          · exact absurd h3 hl
          · exact h3
        simp [hl, h2, h]
theorem gtr_str (t : TypeId) (a b : ByteArray) : binOp .gtr t (.string a) (.string b) = pure (.bool (Op.bytesLess b.toList a.toList)) := by rw [binOp_string_gtr, bl_tri]
theorem leq_str (t : TypeId) (a b : ByteArray) : binOp .leq t (.string a) (.string b) = pure (.bool (!(Op.bytesLess b.toList a.toList))) := by
  rw [binOp_string_leq, ← bl_tri a.toList b.toList]; simp
end Go.Proofs.YtgafnjgiikdofaaGreatDoor.Sg
