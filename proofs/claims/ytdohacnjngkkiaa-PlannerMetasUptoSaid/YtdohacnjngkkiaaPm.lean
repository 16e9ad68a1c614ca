/- Blocks of rows as plain data: which may be, which lists, which are over. -/
import Derived.Test.YtdohacnjngkkiaaA6
namespace Go.Proofs.Ytdohacnjngkkiaa.Pm
set_option linter.unusedVariables false
open Go.RowKit Go.Proofs.YtdohacnjngkkiaaW.PrintWords Go.Proofs.Ytdohacnjngkkiaa.A
theorem S40.ext' {x y : S40} (h0 : x.f0 = y.f0) (h1 : x.f1 = y.f1) (h2 : x.f2 = y.f2) (h3 : x.f3 = y.f3) (h4 : x.f4 = y.f4) (h5 : x.f5 = y.f5) (h6 : x.f6 = y.f6) (h7 : x.f7 = y.f7) : x = y := by
  cases x; cases y
  simp only at h0 h1 h2 h3 h4 h5 h6 h7
  subst h0 h1 h2 h3 h4 h5 h6 h7
  rfl
/-- a block as a value -/
def ag (x : S40) : Value := .agg #[.int .i64 x.f0, .int .i64 x.f1, .int .i64 x.f2, .int .i64 x.f3, .int .i64 x.f4, .int .i64 x.f5, .int .i64 x.f6, .int .i64 x.f7]
def inB (n least : Int) : Bool := decide (least ≤ n) && decide (n < 1099511627776)
def rightB (x : S40) : Bool := inB x.f0 1 && inB x.f1 0 && inB x.f2 x.f1 && inB x.f3 1 && inB x.f4 x.f3 && inB x.f5 1 && inB x.f6 0 && decide (0 ≤ x.f7) && decide (x.f7 ≤ 20)
theorem in_is (n least : Int) : planner_in.f n least = some (inB n least) := by
  unfold planner_in.f inB
  by_cases h : n ≥ least
  · rw [if_pos h]; simp [h]
  · rw [if_neg h]; simp [h]
theorem right_is (x : S40) : planner_Right.f x.f0 x.f1 x.f2 x.f3 x.f4 x.f5 x.f6 x.f7 = some (rightB x) := by
  unfold planner_Right.f rightB
  simp only [in_is, Option.bind_some]
  cases inB x.f0 1 <;> simp
  cases inB x.f1 0 <;> simp
  cases inB x.f2 x.f1 <;> simp
  cases inB x.f3 1 <;> simp
  cases inB x.f4 x.f3 <;> simp
  cases inB x.f5 1 <;> simp
  cases inB x.f6 0 <;> simp
  by_cases h : 0 ≤ x.f7
  · simp [h]
  · simp [h]
theorem right_wf {x : S40} (h : rightB x = true) : 1 ≤ x.f0 ∧ x.f0 < 1099511627776 ∧ 0 ≤ x.f1 ∧ x.f1 < 1099511627776 ∧ x.f1 ≤ x.f2 ∧ x.f2 < 1099511627776 ∧ 1 ≤ x.f3 ∧ x.f3 < 1099511627776 ∧ x.f3 ≤ x.f4 ∧ x.f4 < 1099511627776 ∧ 1 ≤ x.f5 ∧ x.f5 < 1099511627776 ∧ 0 ≤ x.f6 ∧ x.f6 < 1099511627776 ∧ 0 ≤ x.f7 ∧ x.f7 ≤ 20 := by
  unfold rightB inB at h
  simp only [Bool.and_eq_true, decide_eq_true_eq] at h
  omega
/-- a list that may be -/
def fineB (l : List S40) : Bool := l.all rightB && decide ((l.map (·.f0)).Nodup)
theorem fine_iff {l : List S40} : fineB l = true ↔ (∀ x ∈ l, rightB x = true) ∧ (l.map (·.f0)).Nodup := by
  unfold fineB
  rw [Bool.and_eq_true, List.all_eq_true, decide_eq_true_eq]
/-- those that fit, where the list may be -/
def idsB (l : List S40) (p : S40 → Bool) : List Int := if fineB l = true then (l.filter p).map (·.f0) else []
def lookB (fr up : Int) (x : S40) : Bool := decide (x.f1 < up) && decide (fr ≤ x.f2)
def overB (keep now : Int) (x : S40) : Bool := decide (1 ≤ keep) && (decide (x.f2 ≤ now) && decide (keep ≤ wrap64 (now - x.f2)))
theorem over_is (x : S40) (keep now : Int) : planner_Meta_over.f x.f0 x.f1 x.f2 x.f3 x.f4 x.f5 x.f6 x.f7 keep now = some (overB keep now x) := by
  unfold planner_Meta_over.f overB
  by_cases h1 : keep ≥ 1
  · rw [if_pos h1]
    by_cases h2 : now ≥ x.f2
    · rw [if_pos h2]; simp [h1, h2]
    · rw [if_neg h2]; simp [h2]
  · rw [if_neg h1]; simp [h1]
end Go.Proofs.Ytdohacnjngkkiaa.Pm
