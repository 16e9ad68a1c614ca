/- Print: how long a quoted value is. -/
import Derived.Test.YtgafnjgiikdofaaGreatDoorLr
import Derived.Test.YtgafnjgiikdofaaGreatDoorMe
import Derived.Test.YtgafnjgiikdofaaGreatDoorMg
import Derived.Test.YtgafnjgiikdofaaGreatDoorR6
namespace Go.Proofs.YtgafnjgiikdofaaGreatDoor.Lp
set_option linter.unusedVariables false
open Go.Proofs.YtgafnjgiikdofaaGreatDoorW.PrintWords Go.Proofs.YtgafnjgiikdofaaGreatDoorW.PrintMore Go.Proofs.YtgafnjgiikdofaaGreatDoor.R Go.Proofs.YtgafnjgiikdofaaGreatDoor.Sc Go.RowKit Go.Proofs.YtgafnjgiikdofaaGreatDoor.A Go.Proofs.YtgafnjgiikdofaaGreatDoor.Rq Go.Proofs.YtgafnjgiikdofaaGreatDoor.Sq Go.Proofs.YtgafnjgiikdofaaGreatDoor.Sv Go.Proofs.YtgafnjgiikdofaaGreatDoor.Lr
end Go.Proofs.YtgafnjgiikdofaaGreatDoor.Lp
