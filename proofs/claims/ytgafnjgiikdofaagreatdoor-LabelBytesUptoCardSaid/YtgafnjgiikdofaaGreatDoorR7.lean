/- Functions of the program as plain Lean functions, each with a proof that the call comes to what it says; lines written by a tool of the kit. -/
import Derived.Test.YtgafnjgiikdofaaGreatDoorSg
import Derived.Test.YtgafnjgiikdofaaGreatDoorMc
import Derived.Test.YtgafnjgiikdofaaGreatDoorMe
import Derived.Test.YtgafnjgiikdofaaGreatDoorRv
import Derived.Test.YtgafnjgiikdofaaGreatDoorMd
import Derived.Test.YtgafnjgiikdofaaGreatDoorMg
namespace Go.Proofs.YtgafnjgiikdofaaGreatDoor.R
open Go.Proofs.YtgafnjgiikdofaaGreatDoor.A Go.Proofs.YtgafnjgiikdofaaGreatDoor.Sx
open Go.RowKit Go.Proofs.YtgafnjgiikdofaaGreatDoorW.PrintWords Go.Proofs.YtgafnjgiikdofaaGreatDoorW.PrintLast Go.Proofs.YtgafnjgiikdofaaGreatDoorW.PrintMore
attribute [local go_sem high] Go.Proofs.YtgafnjgiikdofaaGreatDoor.Sg.gtr_str Go.Proofs.YtgafnjgiikdofaaGreatDoor.Sg.leq_str
set_option linter.unusedVariables false
set_option linter.unusedSimpArgs false
def icehouselaw02_LabelCompares.f (k : Nat) (l0 : List (S47)) (l1 : List (S47)) : Option (Bool) := (icehouselaw02_Own.f l0).bind fun t296 => ((icehouselaw02_Own.f l1).bind fun t299 => ((label_Compare.f t296 t299).bind fun t302 => ((icehouseref02_Compare.f k l0 l1).bind fun t303 => (if t302 = t303 then ((icehouselaw02_knows.f k).bind fun t304 => (some t304)) else (some false)))))
end Go.Proofs.YtgafnjgiikdofaaGreatDoor.R
