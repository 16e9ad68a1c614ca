-- PRINTED BY print.sh 35421559b90ae4d0a3588c463048766b98c2df88dd9212a6774a882060cdf62d: not written by this session
-- PRINTED WORDS (module Derived/Print/More.lean): go-gate-2's additions: an AI agent of Go's test side, Tue Nov 17 2026; no person has read it. Lean checks it.
import Derived.Test.YtgafnjgiikdofaaGreatDoorWWords
import Derived.Test.YtgafnjgiikdofaaGreatDoorWLast
import Derived.Test.YtgafnjgiikdofaaGreatDoorWQPut
import Derived.Test.YtgafnjgiikdofaaGreatDoorWApart
import Derived.Test.YtgafnjgiikdofaaGreatDoorWZeros
import Derived.Test.YtgafnjgiikdofaaGreatDoorWFoot
import Derived.Test.YtgafnjgiikdofaaGreatDoorWKept
import Derived.Test.YtgafnjgiikdofaaGreatDoorWNEv
namespace Go.Proofs.YtgafnjgiikdofaaGreatDoorW.PrintMore
open Go.RowKit Go.Proofs.YtgafnjgiikdofaaGreatDoorW.PrintWords
end Go.Proofs.YtgafnjgiikdofaaGreatDoorW.PrintMore
namespace Go.Proofs.YtgafnjgiikdofaaGreatDoorW.PrintWords
open Go.RowKit
section
variable {P : Program} {ops : Array Oper} {rest : List Oper} {o : Oper} {a : Act} {Q : Exit → Act → World → Prop} {W : World}
/-- The operation is a call of this function (a cheap look ahead of a dear step). -/
theorem gate_callee {f : FuncId} {as : Array Operand} {ts : Array TypeId} (_ho : o.op = .call { callee := .value (.func f), args := as, argTypes := ts }) (h : wpList P ops Q (o :: rest) a W) : wpList P ops Q (o :: rest) a W := h
/-- The operation is a builtin over these places. -/
theorem gate_builtin {b : Builtin} {xs : Array Operand} {ts : Array TypeId} (_ho : o.op = .call { callee := .builtin b, args := xs, argTypes := ts }) (h : wpList P ops Q (o :: rest) a W) : wpList P ops Q (o :: rest) a W := h
end
end Go.Proofs.YtgafnjgiikdofaaGreatDoorW.PrintWords
namespace Go.Proofs.YtgafnjgiikdofaaGreatDoorW.PrintWords
open Go.RowKit
end Go.Proofs.YtgafnjgiikdofaaGreatDoorW.PrintWords
