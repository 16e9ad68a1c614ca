/- The document's Sort in the words in which a caller's text asks for it. -/
import Derived.Test.YtgafnjgiikdofaaGreatDoorRo
import Derived.Test.YtgafnjgiikdofaaGreatDoorLr
import Derived.Test.YtgafnjgiikdofaaGreatDoorMe
namespace Go.Proofs.YtgafnjgiikdofaaGreatDoor.R
set_option linter.unusedVariables false
set_option linter.unusedSimpArgs false
open Go.Proofs.YtgafnjgiikdofaaGreatDoorW.PrintWords Go.Proofs.YtgafnjgiikdofaaGreatDoorW.PrintLast Go.Proofs.YtgafnjgiikdofaaGreatDoorW.PrintMore
open Go.Shelf Go.RowKit Go.Proofs.YtgafnjgiikdofaaGreatDoor.A Go.Proofs.YtgafnjgiikdofaaGreatDoor.Ro Go.Proofs.YtgafnjgiikdofaaGreatDoor.Lr Go.Proofs.YtgafnjgiikdofaaGreatDoor.Sy Go.Proofs.YtgafnjgiikdofaaGreatDoor.Sc
theorem rise (l : List S47) : ∀ m i, i + m = l.length → rightFrom l m i = true → ∀ j, i ≤ j → j < l.length → 1 ≤ j → ltL (rd_T47 l ((j - 1 : Nat) : Int)) (rd_T47 l (j : Int)) := by
  intro m
  induction m with
  | zero => intro i h1 h2 j h3 h4 h5; omega
  | succ m ih =>
    intro i h1 h2 j h3 h4 h5
    unfold rightFrom at h2
    simp only [Bool.and_eq_true, Bool.or_eq_true, decide_eq_true_eq] at h2
    rcases Nat.eq_or_lt_of_le h3 with e | e
    · subst e
      rcases h2.2.2.1 with h6 | h6
      · omega
      · exact h6
    · exact ih (i + 1) (by omega) h2.2.2.2 j (by omega) h4 h5
theorem strict_of (l : List S47) (h : rightB l = true) : l.Pairwise ltL := by
  have hr := rise l l.length 0 (by omega) h
  rw [List.pairwise_iff_getElem]
  intro p q hp hq hpq
  obtain ⟨d, rfl⟩ : ∃ d, q = p + 1 + d := ⟨q - p - 1, by omega⟩
  clear hpq
  induction d with
  | zero =>
    have := hr (p + 1) (by omega) (by omega) (by omega)
    rw [show p + 1 - 1 = p from rfl, rd_of l p hp, rd_of l (p + 1) (by omega)] at this
    exact this
  | succ d ih =>
    have h1 := ih (by omega)
    have := hr (p + 1 + d + 1) (by omega) (by omega) (by omega)
    rw [show p + 1 + d + 1 - 1 = p + 1 + d from rfl, rd_of l (p + 1 + d) (by omega), rd_of l (p + 1 + d + 1) (by omega)] at this
    exact ltL_trans h1 this
theorem uniq (t u : List S47) (h : t.Perm u) (ht : Srt t) (hu : Srt u) (hr : rightB t = true) : t = u := by
  refine List.Perm.eq_of_pairwise (le := fun x y => ¬ ltL y x) ?_ ht hu h
  intro a b ha hb h1 h2
  obtain ⟨p, hp, rfl⟩ := List.getElem_of_mem ha
  obtain ⟨q, hq, rfl⟩ := List.getElem_of_mem (h.mem_iff.2 hb)
  have hs := List.pairwise_iff_getElem.1 (strict_of t hr)
  rcases Nat.lt_trichotomy p q with e | e | e
  · exact absurd (hs p q hp hq e) h2
  · subst e; rfl
  · exact absurd (hs q p hq hp e) h1
theorem sortL_srt (l : List S47) : Srt (sortL l) := by
  have h := (sortL_spec l).2
  unfold Srt ltL
  refine h.imp ?_
  intro x y hxy
  rw [Lib.toList_data, Lib.toList_data, hxy]
  decide
def FitL (l : List S47) : Bool := l.all fun x => decide (x.f0.size ≤ 17592186044416) && decide (x.f1.size ≤ 17592186044416)
def icehouseref02_Sort.f (l : List S47) : Option (List S47 × Int) := if l.length ≤ 16 then (if FitL l = true then some (if rightB (sortL l) = true then (sortL l, 0) else ([], 30)) else none) else some ([], 30)
end Go.Proofs.YtgafnjgiikdofaaGreatDoor.R
