/-
  DERIVED. GIVEN WITH THE SEED: THE CARDS: each row of YtpgcbdopnkbmhaaDoorRows.lean that lists a variable, with what it lists TIED to the program's text (the seventh form; the later family's looks); each row that meets fmt, with fmt's text TOLD by the authors' own Lean function (tested against real Go, not proved from fmt's source: count such statements apart). THE CARD IS WHAT COUNTS. Prove the row's statement (the work); the ties are given (YtpgcbdopnkbmhaaDoorTie.lean); close each card by the builder's one call (the guide's Derived/Test/ToyasCard.lean, 'card_holds'). Laid BY PROGRAM, IN A SANDBOX (cutbox-door.mjs). By AI agents, Wed Nov 11 2026. No macro, syntax, notation, axiom, sorry.
-/
import Derived.Test.YtpgcbdopnkbmhaaDoorRows
import GoSem.ClaimSeven
namespace Go.Proofs.YtpgcbdopnkbmhaaDoor
namespace Rows

/-- THE TIED CARD OF 'icehouselaw01.CodecSums'. -/
def codecSumsCard : Claim7 := { stood := { row := codecSumsRow, standIns := [], harness := (true, "59647f4261dcd63099db53452f6371f3500b885140f2f046ee0069da6e3fcc1f"), looks := false }, kinds := [], alts := [], laidByText := true, laidKinds := [.data], laidTests := true, laidLooks := .later }
def CodecSumsCardSaid : Prop := Claim7.holds Tryd.pinned (.plain (OpenSpec.ofChange codecSumsSpec)) codecSumsCard

/-- THE TIED CARD OF 'icehouselaw01.CodecFrames'. -/
def codecFramesCard : Claim7 := { stood := { row := codecFramesRow, standIns := [], harness := (true, "59647f4261dcd63099db53452f6371f3500b885140f2f046ee0069da6e3fcc1f"), looks := false }, kinds := [], alts := [], laidByText := true, laidKinds := [.data], laidTests := true, laidLooks := .later }
def CodecFramesCardSaid : Prop := Claim7.holds Tryd.pinned (.plain (OpenSpec.ofChange codecFramesSpec)) codecFramesCard

/-- THE TIED CARD OF 'icehouselaw01.CodecFirst'. -/
def codecFirstCard : Claim7 := { stood := { row := codecFirstRow, standIns := [], harness := (true, "59647f4261dcd63099db53452f6371f3500b885140f2f046ee0069da6e3fcc1f"), looks := false }, kinds := [], alts := [], laidByText := true, laidKinds := [.data], laidTests := true, laidLooks := .later }
def CodecFirstCardSaid : Prop := Claim7.holds Tryd.pinned (.plain (OpenSpec.ofChange codecFirstSpec)) codecFirstCard

/-- THE TIED CARD OF 'icehouselaw01.CodecRot'. -/
def codecRotCard : Claim7 := { stood := { row := codecRotRow, standIns := [], harness := (true, "59647f4261dcd63099db53452f6371f3500b885140f2f046ee0069da6e3fcc1f"), looks := false }, kinds := [], alts := [], laidByText := true, laidKinds := [.data], laidTests := true, laidLooks := .later }
def CodecRotCardSaid : Prop := Claim7.holds Tryd.pinned (.plain (OpenSpec.ofChange codecRotSpec)) codecRotCard

/-- THE SECOND FORM's CARD OF 'icehouselaw01.CodecSums'. -/
def codecSumsUptoCard : Claim7 := { stood := { row := codecSumsUptoRow, standIns := [], harness := (true, "59647f4261dcd63099db53452f6371f3500b885140f2f046ee0069da6e3fcc1f"), looks := false }, kinds := [], alts := [], laidByText := true, laidKinds := [.data], laidTests := true, laidLooks := .later }
def CodecSumsUptoCardSaid : Prop := Claim7.holds Tryd.pinned (.plain (OpenSpec.upto codecSumsSpec)) codecSumsUptoCard

/-- THE SECOND FORM's CARD OF 'icehouselaw01.CodecFrames'. -/
def codecFramesUptoCard : Claim7 := { stood := { row := codecFramesUptoRow, standIns := [], harness := (true, "59647f4261dcd63099db53452f6371f3500b885140f2f046ee0069da6e3fcc1f"), looks := false }, kinds := [], alts := [], laidByText := true, laidKinds := [.data], laidTests := true, laidLooks := .later }
def CodecFramesUptoCardSaid : Prop := Claim7.holds Tryd.pinned (.plain (OpenSpec.upto codecFramesSpec)) codecFramesUptoCard

/-- THE SECOND FORM's CARD OF 'icehouselaw01.CodecFirst'. -/
def codecFirstUptoCard : Claim7 := { stood := { row := codecFirstUptoRow, standIns := [], harness := (true, "59647f4261dcd63099db53452f6371f3500b885140f2f046ee0069da6e3fcc1f"), looks := false }, kinds := [], alts := [], laidByText := true, laidKinds := [.data], laidTests := true, laidLooks := .later }
def CodecFirstUptoCardSaid : Prop := Claim7.holds Tryd.pinned (.plain (OpenSpec.upto codecFirstSpec)) codecFirstUptoCard

/-- THE SECOND FORM's CARD OF 'icehouselaw01.CodecRot'. -/
def codecRotUptoCard : Claim7 := { stood := { row := codecRotUptoRow, standIns := [], harness := (true, "59647f4261dcd63099db53452f6371f3500b885140f2f046ee0069da6e3fcc1f"), looks := false }, kinds := [], alts := [], laidByText := true, laidKinds := [.data], laidTests := true, laidLooks := .later }
def CodecRotUptoCardSaid : Prop := Claim7.holds Tryd.pinned (.plain (OpenSpec.upto codecRotSpec)) codecRotUptoCard
end Rows
end Go.Proofs.YtpgcbdopnkbmhaaDoor
