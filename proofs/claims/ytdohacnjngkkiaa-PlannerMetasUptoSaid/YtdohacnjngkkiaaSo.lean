/- The sort of blocks by their first numbers, at this program. -/
import Derived.Test.YtdohacnjngkkiaaLa
import Derived.Test.YtdohacnjngkkiaaPd
import Derived.Deep.QuietTactic
import Derived.BigQuiet
namespace Go.Proofs.Ytdohacnjngkkiaa.So
set_option linter.unusedVariables false
set_option linter.unusedSimpArgs false
open Go.Shelf Go.RowKit Go.Sort Go.Proofs.YtdohacnjngkkiaaW.PrintWords Go.Proofs.YtdohacnjngkkiaaW.PrintLast Go.Proofs.YtdohacnjngkkiaaW.PrintMore Go.Proofs.Ytdohacnjngkkiaa.Fr Go.Proofs.Ytdohacnjngkkiaa.A Go.Proofs.Ytdohacnjngkkiaa.Pm Go.Proofs.Ytdohacnjngkkiaa.Pf Go.Proofs.Ytdohacnjngkkiaa.Pi Go.Proofs.Ytdohacnjngkkiaa.Pc Go.Proofs.Ytdohacnjngkkiaa.Pd
/-- as the two are ordered -/
def cmpI (a b : Int) : Int := if a < b then -1 else if b < a then 1 else 0
def orI (a b : Int) : Int := if a = 0 then b else a
def cfM (x y : S40) : Int := orI (cmpI x.f3 y.f3) (cmpI x.f0 y.f0)
theorem nan_no (a : Int) (w : World) : Calls Try.prog 61 #[.int .i64 a] w fun e w' => e = .returned (.bool false) ∧ w' = w := by
  go_enter Try.func61, Try.ntmps61
  go_wp2
  go_ret
  exact ⟨rfl, rfl⟩
theorem compare_is (a b : Int) (w : World) : Calls Try.prog 46 #[.int .i64 a, .int .i64 b] w fun e w' => e = .returned (.int .i64 (cmpI a b)) ∧ w' = w := by
  have ha := nan_no a w
  have hb := nan_no b w
  by_cases h1 : a < b
  · have e : cmpI a b = -1 := by unfold cmpI; rw [if_pos h1]
    have HE := Aside0.mk e
    clear e
    go_enter Try.func46, Try.ntmps46
    go_wp2_with fail
    refine ha.mono ?_
    rintro e wt ⟨rfl, hwt⟩
    rw [hwt]
    clear hwt wt
    go_wp2_with fail
    refine hb.mono ?_
    rintro e wt ⟨rfl, hwt⟩
    rw [hwt]
    clear hwt wt
    go_wp2
    go_ret
    exact ⟨by rw [HE.out]; rfl, rfl⟩
  · by_cases h2 : b < a
    · have e : cmpI a b = 1 := by unfold cmpI; rw [if_neg h1, if_pos h2]
      have HE := Aside0.mk e
      clear e
      go_enter Try.func46, Try.ntmps46
      go_wp2_with fail
      refine ha.mono ?_
      rintro e wt ⟨rfl, hwt⟩
      rw [hwt]
      clear hwt wt
      go_wp2_with fail
      refine hb.mono ?_
      rintro e wt ⟨rfl, hwt⟩
      rw [hwt]
      clear hwt wt
      go_wp2
      go_ret
      exact ⟨by rw [HE.out]; rfl, rfl⟩
    · have e : cmpI a b = 0 := by unfold cmpI; rw [if_neg h1, if_neg h2]
      have HE := Aside0.mk e
      clear e
      go_enter Try.func46, Try.ntmps46
      go_wp2_with fail
      refine ha.mono ?_
      rintro e wt ⟨rfl, hwt⟩
      rw [hwt]
      clear hwt wt
      go_wp2_with fail
      refine hb.mono ?_
      rintro e wt ⟨rfl, hwt⟩
      rw [hwt]
      clear hwt wt
      go_wp2
      go_ret
      exact ⟨by rw [HE.out]; rfl, rfl⟩
/-- the first that is not zero -/
theorem or_is (a b : Int) (g : Nat) (w : World) (h : w.heap[g]? = some (.cells #[.int .i64 a, .int .i64 b] 3 (0, 0))) : Calls Try.prog 45 #[.slice (some ⟨g, 0, none⟩) 2 2] w fun e w' => e = .returned (.int .i64 (orI a b)) ∧ w' = w := by
  have c0 := blk_cell h 0
  have c1 := blk_cell h 1
  simp at c0 c1
  have i0 : (0 : Int) < 2 := by omega
  have i1 : (1 : Int) < 2 := by omega
  clear h
  by_cases h1 : a = 0
  · subst h1
    by_cases h2 : b = 0
    · subst h2
      go_enter Try.func45, Try.ntmps45
      go_wp2_with fail
      go_loopg [8] 3 (fun g' s8 wx => ∃ k : Nat, s8 = .int .i64 (k : Int) ∧ k + g' = 3 ∧ k ≤ 2 ∧ wx = w)
      case atStart => exact ⟨0, rfl, by omega, by omega, rfl⟩
      case round =>
        obtain ⟨k, rfl, hk, hk2, hw⟩ := hrel
        subst hw
        rcases (show k = 0 ∨ k = 1 ∨ k = 2 by omega) with rfl | rfl | rfl
        · go_wp2
          go_roundg 2
          case measure => omega
          case rel => exact ⟨1, rfl, by omega, by omega, rfl⟩
        · go_wp2
          go_roundg 1
          case measure => omega
          case rel => exact ⟨2, rfl, by omega, by omega, rfl⟩
        · go_wp2
          go_ret
          exact ⟨rfl, rfl⟩
    · have n2 : (b == 0) = false := by simpa using h2
      have n3 : (b != 0) = true := by simpa using h2
      go_enter Try.func45, Try.ntmps45
      go_wp2_with fail
      go_loopg [8] 3 (fun g' s8 wx => ∃ k : Nat, s8 = .int .i64 (k : Int) ∧ k + g' = 3 ∧ k ≤ 1 ∧ wx = w)
      case atStart => exact ⟨0, rfl, by omega, by omega, rfl⟩
      case round =>
        obtain ⟨k, rfl, hk, hk2, hw⟩ := hrel
        subst hw
        rcases (show k = 0 ∨ k = 1 by omega) with rfl | rfl
        · go_wp2
          go_roundg 2
          case measure => omega
          case rel => exact ⟨1, rfl, by omega, by omega, rfl⟩
        · go_wp2
          go_ret
          exact ⟨rfl, rfl⟩
  · have n2 : (a == 0) = false := by simpa using h1
    have n3 : (a != 0) = true := by simpa using h1
    have HV : Aside0 (orI a b = a) := ⟨if_neg h1⟩
    clear h1
    go_enter Try.func45, Try.ntmps45
    go_wp2_with fail
    go_loopg [8] 3 (fun g' s8 wx => ∃ k : Nat, s8 = .int .i64 (k : Int) ∧ k + g' = 3 ∧ k ≤ 0 ∧ wx = w)
    case atStart => exact ⟨0, rfl, by omega, by omega, rfl⟩
    case round =>
      obtain ⟨k, rfl, hk, hk2, hw⟩ := hrel
      subst hw
      obtain rfl : k = 0 := by omega
      go_wp2
      go_ret
      exact ⟨by rw [HV.out]; rfl, rfl⟩
end Go.Proofs.Ytdohacnjngkkiaa.So
