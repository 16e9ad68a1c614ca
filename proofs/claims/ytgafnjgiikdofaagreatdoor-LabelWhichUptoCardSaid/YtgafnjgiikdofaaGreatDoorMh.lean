/- The document's Unquote and the program's: one and the same. -/
import Derived.Test.YtgafnjgiikdofaaGreatDoorMe
import Derived.Test.YtgafnjgiikdofaaGreatDoorMc
namespace Go.Proofs.YtgafnjgiikdofaaGreatDoor.Uu
set_option linter.unusedVariables false
set_option linter.unusedSimpArgs false
open Go.RowKit Go.Proofs.YtgafnjgiikdofaaGreatDoor.A Go.Proofs.YtgafnjgiikdofaaGreatDoor.Ut Go.Proofs.YtgafnjgiikdofaaGreatDoor.Sq Go.Proofs.YtgafnjgiikdofaaGreatDoor.Sm Go.Proofs.YtgafnjgiikdofaaGreatDoor.Rq Go.Proofs.YtgafnjgiikdofaaGreatDoor.Sf Go.Proofs.YtgafnjgiikdofaaGreatDoor.Se Go.Proofs.YtgafnjgiikdofaaGreatDoor.Su
open Go.Proofs.YtgafnjgiikdofaaGreatDoorW.PrintWords Go.Proofs.YtgafnjgiikdofaaGreatDoorW.PrintLast Go.Proofs.YtgafnjgiikdofaaGreatDoorW.PrintMore
end Go.Proofs.YtgafnjgiikdofaaGreatDoor.Uu
namespace Go.Proofs.YtgafnjgiikdofaaGreatDoor.Uv
set_option linter.unusedVariables false
set_option linter.unusedSimpArgs false
open Go.RowKit Go.Proofs.YtgafnjgiikdofaaGreatDoor.A Go.Proofs.YtgafnjgiikdofaaGreatDoor.Ut Go.Proofs.YtgafnjgiikdofaaGreatDoor.Sq Go.Proofs.YtgafnjgiikdofaaGreatDoor.Rq Go.Proofs.YtgafnjgiikdofaaGreatDoor.Se Go.Proofs.YtgafnjgiikdofaaGreatDoor.Su Go.Proofs.YtgafnjgiikdofaaGreatDoor.Sx Go.Proofs.YtgafnjgiikdofaaGreatDoor.So Go.Proofs.YtgafnjgiikdofaaGreatDoor.Uq Go.Proofs.YtgafnjgiikdofaaGreatDoor.Uu
open Go.RowKit
open Go.Proofs.YtgafnjgiikdofaaGreatDoorW.PrintWords Go.Proofs.YtgafnjgiikdofaaGreatDoorW.PrintLast Go.Proofs.YtgafnjgiikdofaaGreatDoorW.PrintMore
end Go.Proofs.YtgafnjgiikdofaaGreatDoor.Uv
