/- Functions of the program as plain Lean functions, each with a proof that the call comes to what it says; lines written by a tool of the kit. -/
import Derived.Test.YtgafnjgiikdofaaGreatDoorSg
import Derived.Test.YtgafnjgiikdofaaGreatDoorMc
import Derived.Test.YtgafnjgiikdofaaGreatDoorMe
import Derived.Test.YtgafnjgiikdofaaGreatDoorMg
import Derived.Test.YtgafnjgiikdofaaGreatDoorA5
namespace Go.Proofs.YtgafnjgiikdofaaGreatDoor.R
open Go.Proofs.YtgafnjgiikdofaaGreatDoor.A Go.Proofs.YtgafnjgiikdofaaGreatDoor.Sx
open Go.RowKit Go.Proofs.YtgafnjgiikdofaaGreatDoorW.PrintWords Go.Proofs.YtgafnjgiikdofaaGreatDoorW.PrintLast Go.Proofs.YtgafnjgiikdofaaGreatDoorW.PrintMore
attribute [local go_sem high] Go.Proofs.YtgafnjgiikdofaaGreatDoor.Sg.gtr_str Go.Proofs.YtgafnjgiikdofaaGreatDoor.Sg.leq_str
set_option linter.unusedVariables false
set_option linter.unusedSimpArgs false
def icehouseref02_Print.l0 : Nat → List (S47) → ByteArray → Int → Option (ByteArray)
  | 0, _, _, _ => none
  | k + 1, x0, x3, x4 => if x4 < (x0.length : Int) then (if x4 > 0 then (if x3.size + 2 ≤ 9223372036854775807 then (if 0 ≤ x4 then (if (x3 ++ (⟨#[44, 32]⟩ : ByteArray)).size + ((rd_T47 x0 x4).f0).size ≤ 9223372036854775807 then (if ((x3 ++ (⟨#[44, 32]⟩ : ByteArray)) ++ ((rd_T47 x0 x4).f0)).size + 1 ≤ 9223372036854775807 then ((icehouseref02_Quote.f ((rd_T47 x0 x4).f1)).bind fun t147 => (if (((x3 ++ (⟨#[44, 32]⟩ : ByteArray)) ++ ((rd_T47 x0 x4).f0)) ++ (⟨#[61]⟩ : ByteArray)).size + t147.size ≤ 9223372036854775807 then (icehouseref02_Print.l0 k x0 ((((x3 ++ (⟨#[44, 32]⟩ : ByteArray)) ++ ((rd_T47 x0 x4).f0)) ++ (⟨#[61]⟩ : ByteArray)) ++ t147) (wrap64 (x4 + 1))) else (none))) else (none)) else (none)) else (none)) else (none)) else (if 0 ≤ x4 then (if x3.size + ((rd_T47 x0 x4).f0).size ≤ 9223372036854775807 then (if (x3 ++ ((rd_T47 x0 x4).f0)).size + 1 ≤ 9223372036854775807 then ((icehouseref02_Quote.f ((rd_T47 x0 x4).f1)).bind fun t150 => (if ((x3 ++ ((rd_T47 x0 x4).f0)) ++ (⟨#[61]⟩ : ByteArray)).size + t150.size ≤ 9223372036854775807 then (icehouseref02_Print.l0 k x0 (((x3 ++ ((rd_T47 x0 x4).f0)) ++ (⟨#[61]⟩ : ByteArray)) ++ t150) (wrap64 (x4 + 1))) else (none))) else (none)) else (none)) else (none))) else (if x3.size + 1 ≤ 9223372036854775807 then (some (x3 ++ (⟨#[125]⟩ : ByteArray))) else (none))
def icehouseref02_Print.f (k : Nat) (l0 : List (S47)) : Option (ByteArray) := (icehouseref02_Right.f k l0).bind fun t144 => (if t144 = true then (icehouseref02_Print.l0 k l0 (⟨#[123]⟩ : ByteArray) 0) else (some (⟨#[]⟩ : ByteArray)))
-- NOT PRINTED: function 18 (icehouseref02_Parse)
end Go.Proofs.YtgafnjgiikdofaaGreatDoor.R
