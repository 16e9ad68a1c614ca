/- Scan.Word and Scan.Quoted of the document, walked. -/
import Derived.Test.YtgafnjgiikdofaaGreatDoorMa
import Derived.Test.YtgafnjgiikdofaaGreatDoorMb
import Derived.Laws.DeepStrings4
namespace Go.Proofs.YtgafnjgiikdofaaGreatDoor.R
set_option linter.unusedVariables false
set_option linter.unusedSimpArgs false
open Go.Shelf Go.RowKit Go.Proofs.YtgafnjgiikdofaaGreatDoorW.PrintWords Go.Proofs.YtgafnjgiikdofaaGreatDoorW.PrintLast Go.Proofs.YtgafnjgiikdofaaGreatDoorW.PrintMore
open Go.Proofs.YtgafnjgiikdofaaGreatDoor.A Go.Proofs.YtgafnjgiikdofaaGreatDoor.Sn
theorem let_is (c : Int) : icehouseref02_letter.f c = some (letB c) := by
  unfold icehouseref02_letter.f letB
  by_cases h1 : 97 ≤ c <;> by_cases h2 : c ≤ 122 <;> by_cases h3 : 65 ≤ c <;> by_cases h4 : c ≤ 90 <;> simp [h1, h2, h3, h4] <;> omega
theorem dig_is (c : Int) : icehouseref02_digit.f c = some (digB c) := by
  unfold icehouseref02_digit.f digB
  by_cases h1 : 48 ≤ c <;> simp [h1]
def wB (s : ByteArray) (i : Nat) : Bool := letB (bt s (i : Int)) || digB (bt s (i : Int))
def wFrom (s : ByteArray) : Nat → Nat → Nat
  | 0, i => i
  | d + 1, i => if i < s.size ∧ wB s i = true then wFrom s d (i + 1) else i
/-- where a name from i on ends -/
def wEnd (s : ByteArray) (i : Nat) : Nat := wFrom s (s.size - i) i
theorem wEnd_in (s : ByteArray) (i : Nat) (h : i < s.size) (h2 : wB s i = true) : wEnd s i = wEnd s (i + 1) := by
  unfold wEnd
  obtain ⟨d, hd⟩ : ∃ d, s.size - i = d + 1 := ⟨s.size - i - 1, by omega⟩
  rw [hd, wFrom, if_pos ⟨h, h2⟩, show s.size - (i + 1) = d by omega]
theorem wEnd_out (s : ByteArray) (i : Nat) (h : ¬ (i < s.size ∧ wB s i = true)) : wEnd s i = i := by
  unfold wEnd
  cases s.size - i with
  | zero => rfl
  | succ d => rw [wFrom, if_neg h]
def icehouseref02_Scan_Word.f (s0_0 : ByteArray) (s0_1 : Int) : Option (ByteArray × ByteArray × Int) := if 0 ≤ s0_1 ∧ s0_1 ≤ (s0_0.size : Int) ∧ s0_0.size ≤ 17592186044416 then some (s0_0.extract s0_1.toNat (wEnd s0_0 s0_1.toNat), s0_0, (wEnd s0_0 s0_1.toNat : Int)) else none
def icehouseref02_Scan_Quoted.f (k : Nat) (s0_0 : ByteArray) (s0_1 : Int) : Option (ByteArray × Bool × ByteArray × Int) := if 0 ≤ s0_1 ∧ s0_1 ≤ (s0_0.size : Int) ∧ s0_0.size ≤ 17592186044416 then (icehouseref02_Unquote.f k (s0_0.extract s0_1.toNat s0_0.size)).bind fun r => some (r.1, r.2.2, s0_0, wrap64 (s0_1 + r.2.1)) else none
end Go.Proofs.YtgafnjgiikdofaaGreatDoor.R
