/- Parse: the document's and the program's are one law. -/
import Derived.Test.YtgafnjgiikdofaaGreatDoorLp
import Derived.Test.YtgafnjgiikdofaaGreatDoorPa
import Derived.Test.YtgafnjgiikdofaaGreatDoorMh
namespace Go.Proofs.YtgafnjgiikdofaaGreatDoor.Lq
set_option linter.unusedVariables false
set_option linter.unusedSimpArgs false
open Go.RowKit Go.Proofs.YtgafnjgiikdofaaGreatDoorW.PrintWords Go.Proofs.YtgafnjgiikdofaaGreatDoorW.PrintLast Go.Proofs.YtgafnjgiikdofaaGreatDoorW.PrintMore
open Go.Proofs.YtgafnjgiikdofaaGreatDoor.A Go.Proofs.YtgafnjgiikdofaaGreatDoor.R Go.Proofs.YtgafnjgiikdofaaGreatDoor.Sn Go.Proofs.YtgafnjgiikdofaaGreatDoor.So Go.Proofs.YtgafnjgiikdofaaGreatDoor.Sw Go.Proofs.YtgafnjgiikdofaaGreatDoor.Sx Go.Proofs.YtgafnjgiikdofaaGreatDoor.Sy Go.Proofs.YtgafnjgiikdofaaGreatDoor.Sc Go.Proofs.YtgafnjgiikdofaaGreatDoor.Lr Go.Proofs.YtgafnjgiikdofaaGreatDoor.Ut Go.Proofs.YtgafnjgiikdofaaGreatDoor.Uv
theorem sort_alike (l : List S47) (h : l.length ≤ 16) (hf : ∀ x ∈ l, x.f0.size ≤ 17592186044416 ∧ x.f1.size ≤ 17592186044416) : ∃ r, label_Sort.f l = some r ∧ icehouseref02_Sort.f l = some r := by
  have hp := (sortL_spec l).1
  have hr : label_Right.f (l.length + 2) (sortL l) = some (rightB (sortL l)) := lright_eq (sortL l) _ (by rw [hp.length_eq]; omega) (fun x hx => (hf x (hp.mem_iff.1 hx)).1) (by rw [hp.length_eq]; omega)
  unfold label_Sort.f icehouseref02_Sort.f
  rw [if_pos (by omega), if_pos h, if_pos ((fitL_iff l).2 hf), hr]
  cases rightB (sortL l) with
  | true => exact ⟨_, rfl, rfl⟩
  | false => exact ⟨_, rfl, rfl⟩
end Go.Proofs.YtgafnjgiikdofaaGreatDoor.Lq
