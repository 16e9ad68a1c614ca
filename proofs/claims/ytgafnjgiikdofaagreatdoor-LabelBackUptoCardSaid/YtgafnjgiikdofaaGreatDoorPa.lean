/- The document's Parse, walked. -/
import Derived.Test.YtgafnjgiikdofaaGreatDoorWo
import Derived.Test.YtgafnjgiikdofaaGreatDoorRz
namespace Go.Proofs.YtgafnjgiikdofaaGreatDoor.R
set_option linter.unusedVariables false
set_option linter.unusedSimpArgs false
open Go.Shelf Go.RowKit Go.Proofs.YtgafnjgiikdofaaGreatDoorW.PrintWords Go.Proofs.YtgafnjgiikdofaaGreatDoorW.PrintLast Go.Proofs.YtgafnjgiikdofaaGreatDoorW.PrintMore
open Go.Proofs.YtgafnjgiikdofaaGreatDoor.A Go.Proofs.YtgafnjgiikdofaaGreatDoor.Sn
/-- one label read: is all well, is there more, the place, the labels -/
def pRound (k : Nat) (s : ByteArray) (a : Int) (l : List S47) : Option (Bool × Bool × ByteArray × Int × List S47) :=
  (icehouseref02_Scan_Blanks.f k s a).bind fun z1 => (icehouseref02_Scan_Word.f z1.1 z1.2).bind fun z2 => (icehouseref02_Scan_Blanks.f k z2.2.1 z2.2.2).bind fun z3 => (icehouseref02_Scan_Is.f z3.1 z3.2 61).bind fun z4 =>
  (icehouseref02_Scan_Blanks.f k z4.2.1 z4.2.2).bind fun z5 => (icehouseref02_Scan_Quoted.f k z5.1 z5.2).bind fun z6 => (icehouseref02_Scan_Blanks.f k z6.2.2.1 z6.2.2.2).bind fun z7 => (icehouseref02_Scan_Is.f z7.1 z7.2 44).bind fun z8 =>
  some (z4.1 && (z6.2.1 && decide (l.length < 16)), z8.1, z8.2.1, z8.2.2, l ++ [⟨z2.1, z6.1⟩])
def pLoop (k : Nat) : Nat → Bool → Bool → ByteArray → Int → List S47 → Option (Bool × ByteArray × Int × List S47)
  | 0, _, _, _, _, _ => none
  | n + 1, ok, more, s, a, l => if (more && ok) = true then (pRound k s a l).bind fun z => pLoop k n z.1 z.2.1 z.2.2.1 z.2.2.2.1 z.2.2.2.2 else some (ok, s, a, l)
def pF (k : Nat) (s : ByteArray) : Option (List S47 × Int) :=
  (icehouseref02_Scan_Blanks.f k s 0).bind fun z1 => (icehouseref02_Scan_Is.f z1.1 z1.2 123).bind fun z2 => (pLoop k k z2.1 true z2.2.1 z2.2.2 []).bind fun z3 =>
  (if z3.1 = true then icehouseref02_Scan_Is.f z3.2.1 z3.2.2.1 125 else some (false, z3.2.1, z3.2.2.1)).bind fun z4 => (icehouseref02_Scan_Blanks.f k z4.2.1 z4.2.2).bind fun z5 =>
  if z4.1 = true ∧ z5.2 = (s.size : Int) then icehouseref02_Sort.f z3.2.2.2 else some ([], 30)
def icehouseref02_Parse.f (s : ByteArray) : Option (List S47 × Int) := pF (4 * s.size + 700) s
end Go.Proofs.YtgafnjgiikdofaaGreatDoor.R
