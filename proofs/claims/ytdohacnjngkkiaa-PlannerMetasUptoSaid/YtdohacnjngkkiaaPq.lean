/- Pack, as a plain function of the sorted row. -/
import Derived.Test.YtdohacnjngkkiaaPk
namespace Go.Proofs.Ytdohacnjngkkiaa.Pq
set_option linter.unusedVariables false
open Go.Proofs.Ytdohacnjngkkiaa.A Go.Proofs.Ytdohacnjngkkiaa.Pm Go.Proofs.Ytdohacnjngkkiaa.Sr
/-- are they of one level, and together not too large? -/
def runOk (lv mx : Int) : Int → List S40 → Bool
  | _, [] => true
  | t, m :: r => decide (m.f7 = lv) && (decide (t + m.f6 ≤ mx) && runOk lv mx (t + m.f6) r)
/-- the run at a place -/
def runAt (fan : Nat) (s : List S40) (i : Nat) : List S40 := (s.drop i).take fan
def packL (fan : Nat) (mx : Int) (s : List S40) (lv : Nat) : Option (List S40) :=
  (List.range (s.length + 1 - fan)).findSome? fun i => if runOk lv mx 0 (runAt fan s i) = true then some (runAt fan s i) else none
def packS (fan : Nat) (mx : Int) (s : List S40) : Option (List S40) := (List.range 20).findSome? (packL fan mx s)
def packR (l s : List S40) (fan mx keep : Int) : List Int :=
  if fan < 2 ∨ 16 < fan ∨ mx < 1 ∨ keep < 1 ∨ fineB l = false then [] else ((packS fan.toNat mx s).getD []).map (·.f0)
theorem find_none {α : Type} (N : Nat) (f : Nat → Option α) (h : ∀ i, i < N → f i = none) : (List.range N).findSome? f = none := by
  rw [List.findSome?_eq_none_iff]
  intro i hi
  exact h i (List.mem_range.1 hi)
theorem find_some {α : Type} (N : Nat) (f : Nat → Option α) (n : Nat) (r : α) (hn : n < N) (h : ∀ i, i < n → f i = none) (hr : f n = some r) : (List.range N).findSome? f = some r := by
  induction N with
  | zero => omega
  | succ N ih =>
    rw [List.range_succ, List.findSome?_append]
    by_cases hN : n < N
    · rw [ih hN]; rfl
    · have : n = N := by omega
      subst this
      rw [find_none n f h]
      simp [hr]
theorem run_len {fan i : Nat} {s : List S40} (h : i + fan ≤ s.length) : (runAt fan s i).length = fan := by
  unfold runAt
  rw [List.length_take, List.length_drop]
  omega
theorem srt_exists (l : List S40) : ∃ s : List S40, s.Perm l ∧ s.Pairwise fun x y => ¬ lessM y x := by
  refine ⟨l.mergeSort (fun x y => !(Go.Proofs.ltOf So.cfM) y x), List.mergeSort_perm _ _, ?_⟩
  have h := List.pairwise_mergeSort (le := fun x y => !(Go.Proofs.ltOf So.cfM) y x) (fun a b c hab hbc => ?_) (fun a b => ?_) l
  · refine h.imp ?_
    intro a b hab
    have hab' : Go.Proofs.ltOf So.cfM b a = false := by simpa using hab
    exact (lt_no _ _).1 hab'
  · simp only [Bool.not_eq_true'] at hab hbc ⊢
    exact cfM_swo.ntrans _ _ _ hbc hab
  · simp only [Bool.or_eq_true, Bool.not_eq_true']
    rw [lt_no, lt_no]
    unfold lessM
    omega
end Go.Proofs.Ytdohacnjngkkiaa.Pq
