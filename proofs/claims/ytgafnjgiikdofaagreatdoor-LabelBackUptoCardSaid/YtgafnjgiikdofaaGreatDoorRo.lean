/- The document's Sort, walked. -/
import Derived.Test.YtgafnjgiikdofaaGreatDoorA5
import Derived.Test.YtgafnjgiikdofaaGreatDoorSc
import Derived.Test.YtgafnjgiikdofaaGreatDoorMd
namespace Go.Proofs.YtgafnjgiikdofaaGreatDoor.Ro
set_option linter.unusedVariables false
set_option linter.unusedSimpArgs false
open Go.Shelf Go.RowKit Go.Proofs.YtgafnjgiikdofaaGreatDoorW.PrintWords Go.Proofs.YtgafnjgiikdofaaGreatDoorW.PrintLast Go.Proofs.YtgafnjgiikdofaaGreatDoorW.PrintMore
open Go.Proofs.YtgafnjgiikdofaaGreatDoor.A Go.Proofs.YtgafnjgiikdofaaGreatDoor.Ss Go.Proofs.YtgafnjgiikdofaaGreatDoor.Sc
attribute [local go_sem high] Go.Proofs.YtgafnjgiikdofaaGreatDoor.Sg.gtr_str Go.Proofs.YtgafnjgiikdofaaGreatDoor.Sg.leq_str
/-- before, by name -/
def ltL (x y : S47) : Prop := Op.bytesLess x.f0.toList y.f0.toList = true
def Srt (t : List S47) : Prop := t.Pairwise fun x y => ¬ ltL y x
theorem ltL_trans {x y z : S47} (h : ltL x y) (h2 : ltL y z) : ltL x z := Sy.bl_trans _ _ _ h h2
theorem ltL_asymm {x y : S47} (h : ltL x y) : ¬ ltL y x := fun h2 => by
  have := Sy.bl_trans _ _ _ h h2
  rw [Sy.bl_irrefl] at this
  cases this
/-- the cells of a label in a list -/
theorem el47 {w : World} {A : Option Addr} {n : Nat} {l : List S47} (h : k47.C w A n l) (i : Nat) (hi : i < l.length) : ∃ ad, A = some ad ∧
    w.cell? (ad.add (i * 2)) = some (.string l[i].f0) ∧ w.cell? ⟨(ad.add (i * 2)).block, (ad.add (i * 2)).off + 1, none⟩ = some (.string l[i].f1) := by
  have hl := Kd.C_len h
  have h1 := at_T47 h (i : Int) (by omega) (by omega)
  have e : rd_T47 l (i : Int) = l[i] := rd_of l i hi
  rw [e] at h1
  simpa using h1
end Go.Proofs.YtgafnjgiikdofaaGreatDoor.Ro
