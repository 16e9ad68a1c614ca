/- Blocks joined, as a plain function. -/
import Derived.Test.YtdohacnjngkkiaaPm
namespace Go.Proofs.Ytdohacnjngkkiaa.Jd
open Go.RowKit Go.Proofs.Ytdohacnjngkkiaa.A Go.Proofs.Ytdohacnjngkkiaa.Pm
/-- two blocks joined -/
def stepJ (m x : S40) : S40 := ⟨m.f0, min m.f1 x.f1, max m.f2 x.f2, min m.f3 x.f3, max m.f4 x.f4, min (wrap64 (m.f5 + x.f5)) 1099511627776, min (wrap64 (m.f6 + x.f6)) 1099511627776, max m.f7 x.f7⟩
def lastJ (m : S40) (id : Int) : S40 := { m with f0 := id, f7 := wrap64 (m.f7 + 1) }
def finJ (m : S40) (id : Int) : S40 × Bool := if rightB (lastJ m id) = true then (lastJ m id, true) else (z40, false)
def joinB (l : List S40) (id : Int) : S40 × Bool :=
  match l with
  | [] => (z40, false)
  | x :: r => if fineB (x :: r) = true then finJ (r.foldl stepJ x) id else (z40, false)
end Go.Proofs.Ytdohacnjngkkiaa.Jd
