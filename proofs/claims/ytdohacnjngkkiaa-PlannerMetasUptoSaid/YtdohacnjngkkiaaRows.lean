/-
  No cell of these rows narrows 'for every input' (looked for: loops, veiled, ifaces, maps, wideKeys, modest, calm, conditions, laid).
  DERIVED. THE GIVEN ROWS OF THIS SEAT. 6 by the template 'for every input the law returns true; each argument reads behind the call as it read before'; 0 by the template 'total and deterministic' (their statements: YtdohacnjngkkiaaTotals.lean).
  GIVEN WITH THE SEED: the statements are not yours to turn. If you find one false, say at which input.
  Laid BY PROGRAM, IN A SANDBOX (cutbox-rows.mjs): the forced cells as the released guide's own fill.sh prints them over the translation 287c9ccd1c29416f… (all of the seat's roots in one cut). By AI agents, Wed Nov 11 2026. No macro, syntax, notation, axiom, sorry.
-/
import Derived.Test.YtdohacnjngkkiaaChecked
import GoSem.Claim
import GoSem.ClaimJoined
import GoSem.ClaimMapViews
import Derived.JoinedTies
import Derived.KernelRfl
namespace Go.Proofs.Ytdohacnjngkkiaa
/- THE CELL 'sum', in the pinned program and in every row, IS THE sha256 OF THE DUMP (.gsa) THAT YtdohacnjngkkiaaProg.lean LOADS. Nothing in Lean hashes anything: it is a label: what it is worth is what the hold of that sum in a sandbox is worth. -/
noncomputable def Try.pinned : Pinned := { name := "ytdohacnjngkkiaa", sum := "287c9ccd1c29416f2bce9332b9e1807ff4b02f3b95d90d0d0dfe9216b65a38ae", checked := Try.checked }
namespace Rows
def none {H : Type} : Left H := { results := [], args := [] }

/-- 'icehouselaw09.PlannerLooks': WHATEVER THE INPUT: true; the input reads as it did. -/
def plannerLooksSpec : ChangeSpec := { name := "plannerLooks", fn := fun _ => fun
  | [d1, d2, d3, d4, d5] => { results := [.lit (.bool true)], args := [d1, d2, d3, d4, d5] }
  | _ => none }
def plannerLooksRow : OpenClaim := { program := "ytdohacnjngkkiaa", sum := "287c9ccd1c29416f2bce9332b9e1807ff4b02f3b95d90d0d0dfe9216b65a38ae", func := "icehouse/icehouselaw09.PlannerLooks", spec := "plannerLooks", unfollowed := true, recurses := true, apart := false }
def PlannerLooksSaid : Prop := plannerLooksRow.holds Try.pinned (OpenSpec.ofChange plannerLooksSpec)

/-- ITS FALSE NEIGHBOUR: 'it returns false'. Refute it at one input. -/
def plannerLooksWrong : ChangeSpec := { name := "plannerLooks", fn := fun _ => fun
  | [d1, d2, d3, d4, d5] => { results := [.lit (.bool false)], args := [d1, d2, d3, d4, d5] }
  | _ => none }
def PlannerLooksWrongFalsely : Prop := plannerLooksRow.holds Try.pinned (OpenSpec.ofChange plannerLooksWrong)

/-- 'icehouselaw09.PlannerWhich': WHATEVER THE INPUT: true; the input reads as it did. -/
def plannerWhichSpec : ChangeSpec := { name := "plannerWhich", fn := fun _ => fun
  | [d1, d2, d3, d4, d5] => { results := [.lit (.bool true)], args := [d1, d2, d3, d4, d5] }
  | _ => none }
def plannerWhichRow : OpenClaim := { program := "ytdohacnjngkkiaa", sum := "287c9ccd1c29416f2bce9332b9e1807ff4b02f3b95d90d0d0dfe9216b65a38ae", func := "icehouse/icehouselaw09.PlannerWhich", spec := "plannerWhich", unfollowed := true, recurses := true, apart := false }
def PlannerWhichSaid : Prop := plannerWhichRow.holds Try.pinned (OpenSpec.ofChange plannerWhichSpec)

/-- ITS FALSE NEIGHBOUR: 'it returns false'. Refute it at one input. -/
def plannerWhichWrong : ChangeSpec := { name := "plannerWhich", fn := fun _ => fun
  | [d1, d2, d3, d4, d5] => { results := [.lit (.bool false)], args := [d1, d2, d3, d4, d5] }
  | _ => none }
def PlannerWhichWrongFalsely : Prop := plannerWhichRow.holds Try.pinned (OpenSpec.ofChange plannerWhichWrong)

/-- 'icehouselaw09.PlannerPacks': WHATEVER THE INPUT: true; the input reads as it did. -/
def plannerPacksSpec : ChangeSpec := { name := "plannerPacks", fn := fun _ => fun
  | [d1, d2, d3, d4] => { results := [.lit (.bool true)], args := [d1, d2, d3, d4] }
  | _ => none }
def plannerPacksRow : OpenClaim := { program := "ytdohacnjngkkiaa", sum := "287c9ccd1c29416f2bce9332b9e1807ff4b02f3b95d90d0d0dfe9216b65a38ae", func := "icehouse/icehouselaw09.PlannerPacks", spec := "plannerPacks", unfollowed := true, recurses := true, apart := false }
def PlannerPacksSaid : Prop := plannerPacksRow.holds Try.pinned (OpenSpec.ofChange plannerPacksSpec)

/-- ITS FALSE NEIGHBOUR: 'it returns false'. Refute it at one input. -/
def plannerPacksWrong : ChangeSpec := { name := "plannerPacks", fn := fun _ => fun
  | [d1, d2, d3, d4] => { results := [.lit (.bool false)], args := [d1, d2, d3, d4] }
  | _ => none }
def PlannerPacksWrongFalsely : Prop := plannerPacksRow.holds Try.pinned (OpenSpec.ofChange plannerPacksWrong)

/-- 'icehouselaw09.PlannerEnds': WHATEVER THE INPUT: true; the input reads as it did. -/
def plannerEndsSpec : ChangeSpec := { name := "plannerEnds", fn := fun _ => fun
  | [d1, d2, d3] => { results := [.lit (.bool true)], args := [d1, d2, d3] }
  | _ => none }
def plannerEndsRow : OpenClaim := { program := "ytdohacnjngkkiaa", sum := "287c9ccd1c29416f2bce9332b9e1807ff4b02f3b95d90d0d0dfe9216b65a38ae", func := "icehouse/icehouselaw09.PlannerEnds", spec := "plannerEnds", unfollowed := true, recurses := true, apart := false }
def PlannerEndsSaid : Prop := plannerEndsRow.holds Try.pinned (OpenSpec.ofChange plannerEndsSpec)

/-- ITS FALSE NEIGHBOUR: 'it returns false'. Refute it at one input. -/
def plannerEndsWrong : ChangeSpec := { name := "plannerEnds", fn := fun _ => fun
  | [d1, d2, d3] => { results := [.lit (.bool false)], args := [d1, d2, d3] }
  | _ => none }
def PlannerEndsWrongFalsely : Prop := plannerEndsRow.holds Try.pinned (OpenSpec.ofChange plannerEndsWrong)

/-- 'icehouselaw09.PlannerJoins': WHATEVER THE INPUT: true; the input reads as it did. -/
def plannerJoinsSpec : ChangeSpec := { name := "plannerJoins", fn := fun _ => fun
  | [d1, d2, d3] => { results := [.lit (.bool true)], args := [d1, d2, d3] }
  | _ => none }
def plannerJoinsRow : OpenClaim := { program := "ytdohacnjngkkiaa", sum := "287c9ccd1c29416f2bce9332b9e1807ff4b02f3b95d90d0d0dfe9216b65a38ae", func := "icehouse/icehouselaw09.PlannerJoins", spec := "plannerJoins", unfollowed := true, recurses := true, apart := false }
def PlannerJoinsSaid : Prop := plannerJoinsRow.holds Try.pinned (OpenSpec.ofChange plannerJoinsSpec)

/-- ITS FALSE NEIGHBOUR: 'it returns false'. Refute it at one input. -/
def plannerJoinsWrong : ChangeSpec := { name := "plannerJoins", fn := fun _ => fun
  | [d1, d2, d3] => { results := [.lit (.bool false)], args := [d1, d2, d3] }
  | _ => none }
def PlannerJoinsWrongFalsely : Prop := plannerJoinsRow.holds Try.pinned (OpenSpec.ofChange plannerJoinsWrong)

/-- 'icehouselaw09.PlannerMetas': WHATEVER THE INPUT: true; the input reads as it did. -/
def plannerMetasSpec : ChangeSpec := { name := "plannerMetas", fn := fun _ => fun
  | [d1, d2] => { results := [.lit (.bool true)], args := [d1, d2] }
  | _ => none }
def plannerMetasRow : OpenClaim := { program := "ytdohacnjngkkiaa", sum := "287c9ccd1c29416f2bce9332b9e1807ff4b02f3b95d90d0d0dfe9216b65a38ae", func := "icehouse/icehouselaw09.PlannerMetas", spec := "plannerMetas", unfollowed := true, recurses := true, apart := false }
def PlannerMetasSaid : Prop := plannerMetasRow.holds Try.pinned (OpenSpec.ofChange plannerMetasSpec)

/-- ITS FALSE NEIGHBOUR: 'it returns false'. Refute it at one input. -/
def plannerMetasWrong : ChangeSpec := { name := "plannerMetas", fn := fun _ => fun
  | [d1, d2] => { results := [.lit (.bool false)], args := [d1, d2] }
  | _ => none }
def PlannerMetasWrongFalsely : Prop := plannerMetasRow.holds Try.pinned (OpenSpec.ofChange plannerMetasWrong)

/- THE SECOND FORM. 'bulk': how many values and letters a reading holds, each counted each time it is reached (what is shared counts as often as it is met; a slice's spare places count too). A statement '..UptoSaid' is the law's where the arguments, and the package variables that the reading takes, are together of bulk at most 1048576: NARROWER than '..Said'. Prove '..Said' where nothing that the law and all that it calls make is longer than what came in: it says more and counts as full. Else prove '..UptoSaid'. A law counts once. -/
mutual
def uptoBulk {H : Type} : DataW H → Nat
  | .lit (.string bytes) => bytes.length + 1
  | .lit _ => 1
  | .nil => 1
  | .ptr d => uptoBulk d + 1
  | .slice elems spare => uptoBulkAll elems + uptoBulkAll spare + 1
  | .agg parts => uptoBulkAll parts + 1
  | .iface _ d => uptoBulk d + 1
  | .map entries => uptoBulkEntries entries + 1
  | .held _ => 1
def uptoBulkAll {H : Type} : List (DataW H) → Nat
  | [] => 0
  | d :: r => uptoBulk d + uptoBulkAll r
def uptoBulkEntries {H : Type} : List (Lit × DataW H) → Nat
  | [] => 0
  | x :: r => uptoBulkEntry x + uptoBulkEntries r
def uptoBulkEntry {H : Type} : Lit × DataW H → Nat
  | (.string bytes, d) => bytes.length + uptoBulk d + 1
  | (_, d) => uptoBulk d + 1
 end
def uptoSmall : (H : Type) → List (DataW H) → Bool := fun _ ds => decide (uptoBulkAll ds ≤ 1048576)
def OpenSpec.upto (s : _root_.Go.ChangeSpec) : _root_.Go.OpenSpec := { _root_.Go.OpenSpec.ofChange s with cond := some uptoSmall }

/-- 'icehouselaw09.PlannerLooks', WHERE WHAT IT READS IS OF BULK AT MOST 1048576: true; the input reads as it did. -/
def plannerLooksUptoRow : OpenClaim := { program := "ytdohacnjngkkiaa", sum := "287c9ccd1c29416f2bce9332b9e1807ff4b02f3b95d90d0d0dfe9216b65a38ae", func := "icehouse/icehouselaw09.PlannerLooks", spec := "plannerLooks", unfollowed := true, recurses := true, apart := false, narrowed := true }
def PlannerLooksUptoSaid : Prop := plannerLooksUptoRow.holds Try.pinned (OpenSpec.upto plannerLooksSpec)

/-- 'icehouselaw09.PlannerWhich', WHERE WHAT IT READS IS OF BULK AT MOST 1048576: true; the input reads as it did. -/
def plannerWhichUptoRow : OpenClaim := { program := "ytdohacnjngkkiaa", sum := "287c9ccd1c29416f2bce9332b9e1807ff4b02f3b95d90d0d0dfe9216b65a38ae", func := "icehouse/icehouselaw09.PlannerWhich", spec := "plannerWhich", unfollowed := true, recurses := true, apart := false, narrowed := true }
def PlannerWhichUptoSaid : Prop := plannerWhichUptoRow.holds Try.pinned (OpenSpec.upto plannerWhichSpec)

/-- 'icehouselaw09.PlannerPacks', WHERE WHAT IT READS IS OF BULK AT MOST 1048576: true; the input reads as it did. -/
def plannerPacksUptoRow : OpenClaim := { program := "ytdohacnjngkkiaa", sum := "287c9ccd1c29416f2bce9332b9e1807ff4b02f3b95d90d0d0dfe9216b65a38ae", func := "icehouse/icehouselaw09.PlannerPacks", spec := "plannerPacks", unfollowed := true, recurses := true, apart := false, narrowed := true }
def PlannerPacksUptoSaid : Prop := plannerPacksUptoRow.holds Try.pinned (OpenSpec.upto plannerPacksSpec)

/-- 'icehouselaw09.PlannerEnds', WHERE WHAT IT READS IS OF BULK AT MOST 1048576: true; the input reads as it did. -/
def plannerEndsUptoRow : OpenClaim := { program := "ytdohacnjngkkiaa", sum := "287c9ccd1c29416f2bce9332b9e1807ff4b02f3b95d90d0d0dfe9216b65a38ae", func := "icehouse/icehouselaw09.PlannerEnds", spec := "plannerEnds", unfollowed := true, recurses := true, apart := false, narrowed := true }
def PlannerEndsUptoSaid : Prop := plannerEndsUptoRow.holds Try.pinned (OpenSpec.upto plannerEndsSpec)

/-- 'icehouselaw09.PlannerJoins', WHERE WHAT IT READS IS OF BULK AT MOST 1048576: true; the input reads as it did. -/
def plannerJoinsUptoRow : OpenClaim := { program := "ytdohacnjngkkiaa", sum := "287c9ccd1c29416f2bce9332b9e1807ff4b02f3b95d90d0d0dfe9216b65a38ae", func := "icehouse/icehouselaw09.PlannerJoins", spec := "plannerJoins", unfollowed := true, recurses := true, apart := false, narrowed := true }
def PlannerJoinsUptoSaid : Prop := plannerJoinsUptoRow.holds Try.pinned (OpenSpec.upto plannerJoinsSpec)

/-- 'icehouselaw09.PlannerMetas', WHERE WHAT IT READS IS OF BULK AT MOST 1048576: true; the input reads as it did. -/
def plannerMetasUptoRow : OpenClaim := { program := "ytdohacnjngkkiaa", sum := "287c9ccd1c29416f2bce9332b9e1807ff4b02f3b95d90d0d0dfe9216b65a38ae", func := "icehouse/icehouselaw09.PlannerMetas", spec := "plannerMetas", unfollowed := true, recurses := true, apart := false, narrowed := true }
def PlannerMetasUptoSaid : Prop := plannerMetasUptoRow.holds Try.pinned (OpenSpec.upto plannerMetasSpec)

end Rows
end Go.Proofs.Ytdohacnjngkkiaa
