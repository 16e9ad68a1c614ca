/- LabelQuotes: any text quoted, any quoted text read: the call answers true. -/
import Derived.Test.YtgafnjgiikdofaaGreatDoorMg
import Derived.Test.YtgafnjgiikdofaaGreatDoorRx
import Derived.Test.YtgafnjgiikdofaaGreatDoorMh
import Derived.Test.YtgafnjgiikdofaaGreatDoorMf
namespace Go.Proofs.YtgafnjgiikdofaaGreatDoor.Ql
set_option linter.unusedVariables false
open Go.RowKit Go.Proofs.YtgafnjgiikdofaaGreatDoor.A Go.Proofs.YtgafnjgiikdofaaGreatDoor.R Go.Proofs.YtgafnjgiikdofaaGreatDoor.Sx Go.Proofs.YtgafnjgiikdofaaGreatDoor.So Go.Proofs.YtgafnjgiikdofaaGreatDoor.Sq
theorem pure (s : ByteArray) (hs : Fit s) : icehouselaw02_LabelQuotes.f (3 * s.size + 600) s = some true := by
  have hs' : s.size ≤ 17592186044416 := hs
  unfold icehouselaw02_LabelQuotes.f label_Unquote.f label_Quote.f icehouseref02_Quote.f
  rw [if_pos hs, if_pos hs, if_pos hs, Uv.unquote_eq s hs' _ (by omega), Uk.knows_k _ (by omega)]
  simp only [Option.bind_some]
  have hq : (⟨(quoteL s).toArray⟩ : ByteArray) = (if Lib.validD s.data.toList then ⟨(34 :: (s.data.toList.flatMap Rq.rqB ++ [34])).toArray⟩ else ⟨#[]⟩) := by
    rw [Uq.quote_eq]
    split <;> rfl
  rw [hq]
  simp
theorem walk (s : ByteArray) (W : World) (hs : Fit s) (hE : Env W) : Calls Tryz.prog 3 #[.string s] W fun e W' => e = .returned (.bool true) ∧ Below W.heap.size W W' :=
  icehouselaw02_LabelQuotes.calls _ s true W (pure s hs) hE
end Go.Proofs.YtgafnjgiikdofaaGreatDoor.Ql
