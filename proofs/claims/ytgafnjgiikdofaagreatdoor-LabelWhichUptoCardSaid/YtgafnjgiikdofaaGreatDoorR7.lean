/- Functions of the program as plain Lean functions, each with a proof that the call comes to what it says; lines written by a tool of the kit. -/
import Derived.Test.YtgafnjgiikdofaaGreatDoorSg
import Derived.Test.YtgafnjgiikdofaaGreatDoorMc
import Derived.Test.YtgafnjgiikdofaaGreatDoorMe
import Derived.Test.YtgafnjgiikdofaaGreatDoorRv
import Derived.Test.YtgafnjgiikdofaaGreatDoorMd
import Derived.Test.YtgafnjgiikdofaaGreatDoorMg
namespace Go.Proofs.YtgafnjgiikdofaaGreatDoor.R
open Go.Proofs.YtgafnjgiikdofaaGreatDoor.A Go.Proofs.YtgafnjgiikdofaaGreatDoor.Sx
open Go.RowKit Go.Proofs.YtgafnjgiikdofaaGreatDoorW.PrintWords Go.Proofs.YtgafnjgiikdofaaGreatDoorW.PrintLast Go.Proofs.YtgafnjgiikdofaaGreatDoorW.PrintMore
attribute [local go_sem high] Go.Proofs.YtgafnjgiikdofaaGreatDoor.Sg.gtr_str Go.Proofs.YtgafnjgiikdofaaGreatDoor.Sg.leq_str
set_option linter.unusedVariables false
set_option linter.unusedSimpArgs false
end Go.Proofs.YtgafnjgiikdofaaGreatDoor.R
