/-
  NARROWER THAN 'FOR EVERY INPUT', by the rows' own cells (each row's printed sentence says how): CodecSums: laid · CodecFrames: laid · CodecFirst: laid · CodecRot: laid.
  DERIVED. THE GIVEN ROWS OF THIS SEAT. 4 by the template 'for every input the law returns true; each argument reads behind the call as it read before'; 0 by the template 'total and deterministic' (their statements: YtpgcbdopnkbmhaaDoorTotals.lean).
  GIVEN WITH THE SEED: the statements are not yours to turn. If you find one false, say at which input.
  Laid BY PROGRAM, IN A SANDBOX (cutbox-rows.mjs): the forced cells as the released guide's own fill.sh prints them over the translation 252e23b192531a44… (all of the seat's roots in one cut). By AI agents, Wed Nov 11 2026. No macro, syntax, notation, axiom, sorry.
-/
import Derived.Test.YtpgcbdopnkbmhaaDoorChecked
import GoSem.Claim
import GoSem.ClaimJoined
import GoSem.ClaimMapViews
import Derived.JoinedTies
import Derived.KernelRfl
namespace Go.Proofs.YtpgcbdopnkbmhaaDoor
/- THE CELL 'sum', in the pinned program and in every row, IS THE sha256 OF THE DUMP (.gsa) THAT YtpgcbdopnkbmhaaDoorProg.lean LOADS. Nothing in Lean hashes anything: it is a label: what it is worth is what the hold of that sum in a sandbox is worth. -/
noncomputable def Tryd.pinned : Pinned := { name := "ytpgcbdopnkbmhaadoor", sum := "252e23b192531a443bd93aa8312163b8d712fb79bb95c0ae828cc9130a769b37", checked := Tryd.checked }
namespace Rows
def none {H : Type} : Left H := { results := [], args := [] }

/- WHAT THE LISTED PACKAGE-LEVEL VARIABLES READ AS WHEN THE CALL BEGINS. Each datum BY PROGRAM (the guide's laid-datum.mjs) off the statement by which the dump's own 'gosem.cut.vars' lays the variable. In a bare row this is a premise. The card (YtpgcbdopnkbmhaaDoorCards.lean) ties it to the program's text. -/
def laid_icehouse_codec_table {H : Type} : DataW H := .agg [.lit (.int .u32 0), .lit (.int .u32 274646895), .lit (.int .u32 549293790), .lit (.int .u32 820201905), .lit (.int .u32 1098587580), .lit (.int .u32 1361435347), .lit (.int .u32 1640403810), .lit (.int .u32 1905808397), .lit (.int .u32 2197175160), .lit (.int .u32 2460548119), .lit (.int .u32 2722870694), .lit (.int .u32 2987750089), .lit (.int .u32 3280807620), .lit (.int .u32 3553878443), .lit (.int .u32 3811616794), .lit (.int .u32 4084100981)]

/-- 'icehouselaw01.CodecSums': WHATEVER THE INPUT: true; the input reads as it did. -/
def codecSumsSpec : ChangeSpec := { name := "codecSums", fn := fun _ => fun
  | [d] => { results := [.lit (.bool true)], args := [d] }
  | _ => none }
def codecSumsRow : OpenClaim := { program := "ytpgcbdopnkbmhaadoor", sum := "252e23b192531a443bd93aa8312163b8d712fb79bb95c0ae828cc9130a769b37", func := "icehouse/icehouselaw01.CodecSums", spec := "codecSums", named := ["icehouse/codec.table"], apart := false, laid := [("icehouse/codec.table", laid_icehouse_codec_table)] }
def CodecSumsSaid : Prop := codecSumsRow.holds Tryd.pinned (OpenSpec.ofChange codecSumsSpec)

/-- ITS FALSE NEIGHBOUR: 'it returns false'. Refute it at one input. -/
def codecSumsWrong : ChangeSpec := { name := "codecSums", fn := fun _ => fun
  | [d] => { results := [.lit (.bool false)], args := [d] }
  | _ => none }
def CodecSumsWrongFalsely : Prop := codecSumsRow.holds Tryd.pinned (OpenSpec.ofChange codecSumsWrong)

/-- 'icehouselaw01.CodecFrames': WHATEVER THE INPUT: true; the input reads as it did. -/
def codecFramesSpec : ChangeSpec := { name := "codecFrames", fn := fun _ => fun
  | [d1, d2, d3] => { results := [.lit (.bool true)], args := [d1, d2, d3] }
  | _ => none }
def codecFramesRow : OpenClaim := { program := "ytpgcbdopnkbmhaadoor", sum := "252e23b192531a443bd93aa8312163b8d712fb79bb95c0ae828cc9130a769b37", func := "icehouse/icehouselaw01.CodecFrames", spec := "codecFrames", named := ["icehouse/codec.table"], apart := false, laid := [("icehouse/codec.table", laid_icehouse_codec_table)] }
def CodecFramesSaid : Prop := codecFramesRow.holds Tryd.pinned (OpenSpec.ofChange codecFramesSpec)

/-- ITS FALSE NEIGHBOUR: 'it returns false'. Refute it at one input. -/
def codecFramesWrong : ChangeSpec := { name := "codecFrames", fn := fun _ => fun
  | [d1, d2, d3] => { results := [.lit (.bool false)], args := [d1, d2, d3] }
  | _ => none }
def CodecFramesWrongFalsely : Prop := codecFramesRow.holds Tryd.pinned (OpenSpec.ofChange codecFramesWrong)

/-- 'icehouselaw01.CodecFirst': WHATEVER THE INPUT: true; the input reads as it did. -/
def codecFirstSpec : ChangeSpec := { name := "codecFirst", fn := fun _ => fun
  | [d1, d2, d3, d4] => { results := [.lit (.bool true)], args := [d1, d2, d3, d4] }
  | _ => none }
def codecFirstRow : OpenClaim := { program := "ytpgcbdopnkbmhaadoor", sum := "252e23b192531a443bd93aa8312163b8d712fb79bb95c0ae828cc9130a769b37", func := "icehouse/icehouselaw01.CodecFirst", spec := "codecFirst", named := ["icehouse/codec.table"], apart := false, laid := [("icehouse/codec.table", laid_icehouse_codec_table)] }
def CodecFirstSaid : Prop := codecFirstRow.holds Tryd.pinned (OpenSpec.ofChange codecFirstSpec)

/-- ITS FALSE NEIGHBOUR: 'it returns false'. Refute it at one input. -/
def codecFirstWrong : ChangeSpec := { name := "codecFirst", fn := fun _ => fun
  | [d1, d2, d3, d4] => { results := [.lit (.bool false)], args := [d1, d2, d3, d4] }
  | _ => none }
def CodecFirstWrongFalsely : Prop := codecFirstRow.holds Tryd.pinned (OpenSpec.ofChange codecFirstWrong)

/-- 'icehouselaw01.CodecRot': WHATEVER THE INPUT: true; the input reads as it did. -/
def codecRotSpec : ChangeSpec := { name := "codecRot", fn := fun _ => fun
  | [d1, d2, d3, d4] => { results := [.lit (.bool true)], args := [d1, d2, d3, d4] }
  | _ => none }
def codecRotRow : OpenClaim := { program := "ytpgcbdopnkbmhaadoor", sum := "252e23b192531a443bd93aa8312163b8d712fb79bb95c0ae828cc9130a769b37", func := "icehouse/icehouselaw01.CodecRot", spec := "codecRot", named := ["icehouse/codec.table"], apart := false, laid := [("icehouse/codec.table", laid_icehouse_codec_table)] }
def CodecRotSaid : Prop := codecRotRow.holds Tryd.pinned (OpenSpec.ofChange codecRotSpec)

/-- ITS FALSE NEIGHBOUR: 'it returns false'. Refute it at one input. -/
def codecRotWrong : ChangeSpec := { name := "codecRot", fn := fun _ => fun
  | [d1, d2, d3, d4] => { results := [.lit (.bool false)], args := [d1, d2, d3, d4] }
  | _ => none }
def CodecRotWrongFalsely : Prop := codecRotRow.holds Tryd.pinned (OpenSpec.ofChange codecRotWrong)

/- THE SECOND FORM. 'bulk': how many values and letters a reading holds, each counted each time it is reached (what is shared counts as often as it is met; a slice's spare places count too). A statement '..UptoSaid' is the law's where the arguments, and the package variables that the reading takes, are together of bulk at most 1048576: NARROWER than '..Said'. Prove '..Said' where nothing that the law and all that it calls make is longer than what came in: it says more and counts as full. Else prove '..UptoSaid'. A law counts once. -/
mutual
def uptoBulk {H : Type} : DataW H → Nat
  | .lit (.string bytes) => bytes.length + 1
  | .lit _ => 1
  | .nil => 1
  | .ptr d => uptoBulk d + 1
  | .slice elems spare => uptoBulkAll elems + uptoBulkAll spare + 1
  | .agg parts => uptoBulkAll parts + 1
  | .iface _ d => uptoBulk d + 1
  | .map entries => uptoBulkEntries entries + 1
  | .held _ => 1
def uptoBulkAll {H : Type} : List (DataW H) → Nat
  | [] => 0
  | d :: r => uptoBulk d + uptoBulkAll r
def uptoBulkEntries {H : Type} : List (Lit × DataW H) → Nat
  | [] => 0
  | x :: r => uptoBulkEntry x + uptoBulkEntries r
def uptoBulkEntry {H : Type} : Lit × DataW H → Nat
  | (.string bytes, d) => bytes.length + uptoBulk d + 1
  | (_, d) => uptoBulk d + 1
 end
def uptoSmall : (H : Type) → List (DataW H) → Bool := fun _ ds => decide (uptoBulkAll ds ≤ 1048576)
def OpenSpec.upto (s : _root_.Go.ChangeSpec) : _root_.Go.OpenSpec := { _root_.Go.OpenSpec.ofChange s with cond := some uptoSmall }

/-- 'icehouselaw01.CodecSums', WHERE WHAT IT READS IS OF BULK AT MOST 1048576: true; the input reads as it did. -/
def codecSumsUptoRow : OpenClaim := { program := "ytpgcbdopnkbmhaadoor", sum := "252e23b192531a443bd93aa8312163b8d712fb79bb95c0ae828cc9130a769b37", func := "icehouse/icehouselaw01.CodecSums", spec := "codecSums", named := ["icehouse/codec.table"], apart := false, laid := [("icehouse/codec.table", laid_icehouse_codec_table)], narrowed := true }
def CodecSumsUptoSaid : Prop := codecSumsUptoRow.holds Tryd.pinned (OpenSpec.upto codecSumsSpec)

/-- 'icehouselaw01.CodecFrames', WHERE WHAT IT READS IS OF BULK AT MOST 1048576: true; the input reads as it did. -/
def codecFramesUptoRow : OpenClaim := { program := "ytpgcbdopnkbmhaadoor", sum := "252e23b192531a443bd93aa8312163b8d712fb79bb95c0ae828cc9130a769b37", func := "icehouse/icehouselaw01.CodecFrames", spec := "codecFrames", named := ["icehouse/codec.table"], apart := false, laid := [("icehouse/codec.table", laid_icehouse_codec_table)], narrowed := true }
def CodecFramesUptoSaid : Prop := codecFramesUptoRow.holds Tryd.pinned (OpenSpec.upto codecFramesSpec)

/-- 'icehouselaw01.CodecFirst', WHERE WHAT IT READS IS OF BULK AT MOST 1048576: true; the input reads as it did. -/
def codecFirstUptoRow : OpenClaim := { program := "ytpgcbdopnkbmhaadoor", sum := "252e23b192531a443bd93aa8312163b8d712fb79bb95c0ae828cc9130a769b37", func := "icehouse/icehouselaw01.CodecFirst", spec := "codecFirst", named := ["icehouse/codec.table"], apart := false, laid := [("icehouse/codec.table", laid_icehouse_codec_table)], narrowed := true }
def CodecFirstUptoSaid : Prop := codecFirstUptoRow.holds Tryd.pinned (OpenSpec.upto codecFirstSpec)

/-- 'icehouselaw01.CodecRot', WHERE WHAT IT READS IS OF BULK AT MOST 1048576: true; the input reads as it did. -/
def codecRotUptoRow : OpenClaim := { program := "ytpgcbdopnkbmhaadoor", sum := "252e23b192531a443bd93aa8312163b8d712fb79bb95c0ae828cc9130a769b37", func := "icehouse/icehouselaw01.CodecRot", spec := "codecRot", named := ["icehouse/codec.table"], apart := false, laid := [("icehouse/codec.table", laid_icehouse_codec_table)], narrowed := true }
def CodecRotUptoSaid : Prop := codecRotUptoRow.holds Tryd.pinned (OpenSpec.upto codecRotSpec)

end Rows
end Go.Proofs.YtpgcbdopnkbmhaaDoor
