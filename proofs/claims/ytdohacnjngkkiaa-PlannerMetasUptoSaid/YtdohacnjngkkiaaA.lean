/- Functions of the program as plain Lean functions, each with a proof that the call comes to what it says; lines written by a tool of the kit. -/
import Derived.Test.YtdohacnjngkkiaaA0
import Derived.Test.YtdohacnjngkkiaaA1
import Derived.Test.YtdohacnjngkkiaaA2
import Derived.Test.YtdohacnjngkkiaaA3
import Derived.Test.YtdohacnjngkkiaaA4
import Derived.Test.YtdohacnjngkkiaaA5
import Derived.Test.YtdohacnjngkkiaaA6
namespace Go.Proofs.Ytdohacnjngkkiaa.A
open Go.RowKit Go.Proofs.YtdohacnjngkkiaaW.PrintWords Go.Proofs.YtdohacnjngkkiaaW.PrintLast Go.Proofs.YtdohacnjngkkiaaW.PrintMore
attribute [local go_sem] max2_int min2_int max_two min_two max_three min_three max_four min_four   -- for this text's walks alone
set_option linter.unusedVariables false
set_option linter.unusedSimpArgs false

end Go.Proofs.Ytdohacnjngkkiaa.A
