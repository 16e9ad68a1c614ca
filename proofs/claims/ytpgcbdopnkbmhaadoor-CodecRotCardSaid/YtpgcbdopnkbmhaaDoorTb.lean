/- What the row's list gives: the table's cells hold its sixteen numbers. -/
import Derived.Test.YtpgcbdopnkbmhaaDoorRows
import Derived.Test.YtpgcbdopnkbmhaaDoorSu
import Derived.Lib.LaidTab
import Derived.Deep.DeepHandedRow
namespace Go.Proofs.YtpgcbdopnkbmhaaDoor.Tb
set_option linter.unusedVariables false
open Go.RowKit
theorem gTab : Tryd.prog.globalNamed "icehouse/codec.table" = some 0 := by kernel_rfl
theorem gTabType : (Tryd.prog.globals[0]?).map (·.type) = some 43 := by kernel_rfl
theorem cells43 : Tryd.prog.cellsOf 43 = 16 := by kernel_rfl
theorem cells24 : Tryd.prog.cellsOf 24 = 1 := by kernel_rfl
theorem table {W : World} (h : laidMetH Tryd.prog [("icehouse/codec.table", Rows.laid_icehouse_codec_table)] W) : Su.Tab W := by
  have t : Lib.TabIs Tryd.prog W "icehouse/codec.table" .u32 Cr.tab := Lib.tabIs_of_head (rest := []) gTab gTabType Tryd.underlying43 Tryd.underlying24 cells24 cells43 h
  intro i hi
  exact t.cell gTab i hi
theorem wf8 {l : List Int} (h : ∀ n ∈ l, (Lit.int .u8 n).wf = true) : ∀ n ∈ l, 0 ≤ n ∧ n < 256 := by
  intro n hn
  have := h n hn
  simp [Lit.wf, IntKind.min, IntKind.max, IntKind.signed, IntKind.bits] at this
  omega
end Go.Proofs.YtpgcbdopnkbmhaaDoor.Tb
