/- The document's Parse, walked. -/
import Derived.Test.YtgafnjgiikdofaaGreatDoorWo
import Derived.Test.YtgafnjgiikdofaaGreatDoorRz
namespace Go.Proofs.YtgafnjgiikdofaaGreatDoor.R
set_option linter.unusedVariables false
set_option linter.unusedSimpArgs false
open Go.Shelf Go.RowKit Go.Proofs.YtgafnjgiikdofaaGreatDoorW.PrintWords Go.Proofs.YtgafnjgiikdofaaGreatDoorW.PrintLast Go.Proofs.YtgafnjgiikdofaaGreatDoorW.PrintMore
open Go.Proofs.YtgafnjgiikdofaaGreatDoor.A Go.Proofs.YtgafnjgiikdofaaGreatDoor.Sn
end Go.Proofs.YtgafnjgiikdofaaGreatDoor.R
