/- LabelTexts: Print and Parse against the document's, for any labels and any text. -/
import Derived.Test.YtgafnjgiikdofaaGreatDoorLq
import Derived.Test.YtgafnjgiikdofaaGreatDoorRa
import Derived.Test.YtgafnjgiikdofaaGreatDoorLc
namespace Go.Proofs.YtgafnjgiikdofaaGreatDoor.Lt
set_option linter.unusedVariables false
open Go.RowKit Go.Proofs.YtgafnjgiikdofaaGreatDoor.Sc Go.Proofs.YtgafnjgiikdofaaGreatDoor.A Go.Proofs.YtgafnjgiikdofaaGreatDoor.R Go.Proofs.YtgafnjgiikdofaaGreatDoor.Sx Go.Proofs.YtgafnjgiikdofaaGreatDoor.Lc
open Go.Proofs.YtgafnjgiikdofaaGreatDoorW.PrintWords
theorem cmp_self (a : List S47) : cmpLL a a = 0 := good_ll.refl a
theorem pureT (l : List S47) (s : ByteArray) (hl : l.length ≤ 1048576) (hf : ∀ x ∈ l, x.f0.size ≤ 1048576 ∧ x.f1.size ≤ 1048576) (hs : s.size ≤ 1048576) : icehouselaw02_LabelTexts.f 3000000 l s = some true := by
  obtain ⟨r, p1, p2, p3⟩ := Lq.parse_alike s hs 3000000 (by omega)
  obtain ⟨q, q1, q2⟩ := Lp.print_alike l 3000000 (by omega) 1048576 (by omega) hf (by omega)
  unfold icehouselaw02_LabelTexts.f
  rw [own_eq l (by omega), p1, p2, q2]
  simp only [Option.bind_some]
  rw [q1]
  simp only [Option.bind_some]
  rw [if_pos trivial, same_eq r.1 r.1 _ (by omega) (by omega) (by omega), same_eq l l _ (by omega) (by omega) (by omega), Uk.knows_k _ (by omega), cmp_self, cmp_self]
  simp [icehouselaw02_num.f]
theorem walkT (A0 : Option Addr) (c0 : Nat) (l0 : List S47) (s : ByteArray) (w : World) (hr0 : Kd.C k47 w A0 l0.length l0) (hc0 : l0.length ≤ c0) (h0 : l0.length ≤ 1048576 ∧ ∀ x ∈ l0, x.f0.size ≤ 1048576 ∧ x.f1.size ≤ 1048576) (hs : s.size ≤ 1048576) (hE : Env w) :
    Calls Tryz.prog 4 #[.slice A0 l0.length c0, .string s] w fun e w' => e = .returned (.bool true) ∧ Below w.heap.size w w' :=
  icehouselaw02_LabelTexts.calls 3000000 A0 c0 l0 s true w hr0 hc0 (pureT l0 s h0.1 h0.2 hs) hE
end Go.Proofs.YtgafnjgiikdofaaGreatDoor.Lt
