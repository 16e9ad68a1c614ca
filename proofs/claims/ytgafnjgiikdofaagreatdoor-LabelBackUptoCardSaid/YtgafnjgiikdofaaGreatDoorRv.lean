/- Contracts of Compare and of the document's Sort, in the words in which a caller's text asks for them. -/
import Derived.Test.YtgafnjgiikdofaaGreatDoorMe
import Derived.Test.YtgafnjgiikdofaaGreatDoorSc
namespace Go.Proofs.YtgafnjgiikdofaaGreatDoor.R
set_option linter.unusedVariables false
set_option linter.unusedSimpArgs false
open Go.Proofs.YtgafnjgiikdofaaGreatDoorW.PrintWords Go.Proofs.YtgafnjgiikdofaaGreatDoorW.PrintLast Go.Proofs.YtgafnjgiikdofaaGreatDoorW.PrintMore
open Go.Shelf Go.RowKit Go.Proofs.YtgafnjgiikdofaaGreatDoor.A Go.Proofs.YtgafnjgiikdofaaGreatDoor.Sx
def label_Compare.f (a b : List S47) : Option Int := some (Go.Proofs.YtgafnjgiikdofaaGreatDoor.Sc.cmpLL a b)
end Go.Proofs.YtgafnjgiikdofaaGreatDoor.R
