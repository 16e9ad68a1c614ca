/- Scan.Word and Scan.Quoted of the document, walked. -/
import Derived.Test.YtgafnjgiikdofaaGreatDoorMa
import Derived.Test.YtgafnjgiikdofaaGreatDoorMb
import Derived.Laws.DeepStrings4
namespace Go.Proofs.YtgafnjgiikdofaaGreatDoor.R
set_option linter.unusedVariables false
set_option linter.unusedSimpArgs false
open Go.Shelf Go.RowKit Go.Proofs.YtgafnjgiikdofaaGreatDoorW.PrintWords Go.Proofs.YtgafnjgiikdofaaGreatDoorW.PrintLast Go.Proofs.YtgafnjgiikdofaaGreatDoorW.PrintMore
open Go.Proofs.YtgafnjgiikdofaaGreatDoor.A Go.Proofs.YtgafnjgiikdofaaGreatDoor.Sn
theorem let_is (c : Int) : icehouseref02_letter.f c = some (letB c) := by
  unfold icehouseref02_letter.f letB
  by_cases h1 : 97 ≤ c <;> by_cases h2 : c ≤ 122 <;> by_cases h3 : 65 ≤ c <;> by_cases h4 : c ≤ 90 <;> simp [h1, h2, h3, h4] <;> omega
theorem dig_is (c : Int) : icehouseref02_digit.f c = some (digB c) := by
  unfold icehouseref02_digit.f digB
  by_cases h1 : 48 ≤ c <;> simp [h1]
end Go.Proofs.YtgafnjgiikdofaaGreatDoor.R
