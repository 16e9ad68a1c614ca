/- label.Compare: the order of two labels, CompareFunc over it. -/
import Derived.Test.YtgafnjgiikdofaaGreatDoorMd
import Derived.Test.YtgafnjgiikdofaaGreatDoorSg
namespace Go.Proofs.YtgafnjgiikdofaaGreatDoor.Sc
set_option linter.unusedVariables false
set_option linter.unusedSimpArgs false
open Go.Shelf Go.RowKit Go.Sort Go.Lib Go.Proofs.YtgafnjgiikdofaaGreatDoorW.PrintWords Go.Proofs.YtgafnjgiikdofaaGreatDoorW.PrintLast Go.Proofs.YtgafnjgiikdofaaGreatDoorW.PrintMore
open Go.Proofs.YtgafnjgiikdofaaGreatDoor.A Go.Proofs.YtgafnjgiikdofaaGreatDoor.Ss
def orI (a b : Int) : Int := if a = 0 then b else a
/-- the order of two labels -/
def cfL (x y : S47) : Int := orI (Lib.compareBytes x.f0.data.toList y.f0.data.toList) (Lib.compareBytes x.f1.data.toList y.f1.data.toList)
/-- the order of two lists -/
def cmpLL : List S47 → List S47 → Int
  | [], [] => 0
  | [], _ :: _ => -1
  | _ :: _, [] => 1
  | x :: xs, y :: ys => if cfL x y = 0 then cmpLL xs ys else cfL x y
theorem rd_of (l : List S47) (k : Nat) (h : k < l.length) : rd_T47 l (k : Int) = l[k] := by
  unfold rd_T47
  simp [List.getD_eq_getElem?_getD, List.getElem?_eq_getElem h]
theorem w64' (k : Nat) (h : k < 9223372036854775807) : wrap64 ((k : Int) + 1) = ((k + 1 : Nat) : Int) := by unfold wrap64; omega
end Go.Proofs.YtgafnjgiikdofaaGreatDoor.Sc
