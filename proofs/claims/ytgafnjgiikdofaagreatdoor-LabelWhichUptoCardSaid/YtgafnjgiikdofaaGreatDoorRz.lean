/- The document's Sort in the words in which a caller's text asks for it. -/
import Derived.Test.YtgafnjgiikdofaaGreatDoorRo
import Derived.Test.YtgafnjgiikdofaaGreatDoorLr
import Derived.Test.YtgafnjgiikdofaaGreatDoorMe
namespace Go.Proofs.YtgafnjgiikdofaaGreatDoor.R
set_option linter.unusedVariables false
set_option linter.unusedSimpArgs false
open Go.Proofs.YtgafnjgiikdofaaGreatDoorW.PrintWords Go.Proofs.YtgafnjgiikdofaaGreatDoorW.PrintLast Go.Proofs.YtgafnjgiikdofaaGreatDoorW.PrintMore
open Go.Shelf Go.RowKit Go.Proofs.YtgafnjgiikdofaaGreatDoor.A Go.Proofs.YtgafnjgiikdofaaGreatDoor.Ro Go.Proofs.YtgafnjgiikdofaaGreatDoor.Lr Go.Proofs.YtgafnjgiikdofaaGreatDoor.Sy Go.Proofs.YtgafnjgiikdofaaGreatDoor.Sc
theorem rise (l : List S47) : ∀ m i, i + m = l.length → rightFrom l m i = true → ∀ j, i ≤ j → j < l.length → 1 ≤ j → ltL (rd_T47 l ((j - 1 : Nat) : Int)) (rd_T47 l (j : Int)) := by
  intro m
  induction m with
  | zero => intro i h1 h2 j h3 h4 h5; omega
  | succ m ih =>
    intro i h1 h2 j h3 h4 h5
    unfold rightFrom at h2
    simp only [Bool.and_eq_true, Bool.or_eq_true, decide_eq_true_eq] at h2
    rcases Nat.eq_or_lt_of_le h3 with e | e
    · subst e
      rcases h2.2.2.1 with h6 | h6
      · omega
      · exact h6
    · exact ih (i + 1) (by omega) h2.2.2.2 j (by omega) h4 h5
theorem strict_of (l : List S47) (h : rightB l = true) : l.Pairwise ltL := by
  have hr := rise l l.length 0 (by omega) h
  rw [List.pairwise_iff_getElem]
  intro p q hp hq hpq
  obtain ⟨d, rfl⟩ : ∃ d, q = p + 1 + d := ⟨q - p - 1, by omega⟩
  clear hpq
  induction d with
  | zero =>
    have := hr (p + 1) (by omega) (by omega) (by omega)
    rw [show p + 1 - 1 = p from rfl, rd_of l p hp, rd_of l (p + 1) (by omega)] at this
    exact this
  | succ d ih =>
    have h1 := ih (by omega)
    have := hr (p + 1 + d + 1) (by omega) (by omega) (by omega)
    rw [show p + 1 + d + 1 - 1 = p + 1 + d from rfl, rd_of l (p + 1 + d) (by omega), rd_of l (p + 1 + d + 1) (by omega)] at this
    exact ltL_trans h1 this
theorem uniq (t u : List S47) (h : t.Perm u) (ht : Srt t) (hu : Srt u) (hr : rightB t = true) : t = u := by
  refine List.Perm.eq_of_pairwise (le := fun x y => ¬ ltL y x) ?_ ht hu h
  intro a b ha hb h1 h2
  obtain ⟨p, hp, rfl⟩ := List.getElem_of_mem ha
  obtain ⟨q, hq, rfl⟩ := List.getElem_of_mem (h.mem_iff.2 hb)
  have hs := List.pairwise_iff_getElem.1 (strict_of t hr)
  rcases Nat.lt_trichotomy p q with e | e | e
  · exact absurd (hs p q hp hq e) h2
  · subst e; rfl
  · exact absurd (hs q p hq hp e) h1
theorem sortL_srt (l : List S47) : Srt (sortL l) := by
  have h := (sortL_spec l).2
  unfold Srt ltL
  refine h.imp ?_
  intro x y hxy
  rw [Lib.toList_data, Lib.toList_data, hxy]
  decide
theorem right_alike (t u : List S47) (h : t.Perm u) (ht : Srt t) (hu : Srt u) : rightB t = rightB u := by
  cases h1 : rightB t with
  | true => rw [← uniq t u h ht hu h1, h1]
  | false =>
    cases h2 : rightB u with
    | false => rfl
    | true => rw [← uniq u t h.symm hu ht h2, h2] at h1; cases h1
def FitL (l : List S47) : Bool := l.all fun x => decide (x.f0.size ≤ 17592186044416) && decide (x.f1.size ≤ 17592186044416)
theorem fitL_iff (l : List S47) : FitL l = true ↔ ∀ x ∈ l, x.f0.size ≤ 17592186044416 ∧ x.f1.size ≤ 17592186044416 := by
  unfold FitL
  simp [List.all_eq_true]
def icehouseref02_Sort.f (l : List S47) : Option (List S47 × Int) := if l.length ≤ 16 then (if FitL l = true then some (if rightB (sortL l) = true then (sortL l, 0) else ([], 30)) else none) else some ([], 30)
theorem icehouseref02_Sort.calls (A0 : Option Addr) (c0 : Nat) (l0 : List S47) (r1 : List S47) (r2 : Int) (w : World) (hr0 : Kd.C k47 w A0 l0.length l0) (hc0 : l0.length ≤ c0) (h : icehouseref02_Sort.f l0 = some (r1, r2)) :
    Calls Tryz.prog 24 #[.slice A0 l0.length c0] w fun e w' => ∃ v0_ : Value, e = .returned (.tuple #[v0_, .int .i64 r2]) ∧ Kd.R k47 47 w' w.heap.size (fun _ => True) v0_ r1 ∧ Below w.heap.size w w' := by
  unfold icehouseref02_Sort.f at h
  split at h
  · rename_i hl
    split at h
    · rename_i hf
      rw [fitL_iff] at hf
      have hw := rsort_walk A0 c0 l0 w 18000000000000 rightB hr0 hc0 hl (fun t hp hs => rright_eq t _ 17592186044416 (Nat.le_refl _) (by rw [hp.length_eq]; omega) (fun x hx => hf x (hp.mem_iff.1 hx)) (by rw [hp.length_eq]; omega))
      refine hw.mono ?_
      rintro e w' ⟨t, v, hp, hs, rfl, hR, hB⟩
      have ha := right_alike t (sortL l0) (hp.trans (sortL_spec l0).1.symm) hs (sortL_srt l0)
      injection h with h
      cases hb : rightB t with
      | true =>
        rw [← ha, hb, if_pos rfl] at h
        rw [hb, if_pos rfl] at hR
        have he := uniq t (sortL l0) (hp.trans (sortL_spec l0).1.symm) hs (sortL_srt l0) hb
        injection h with h1 h2
        subst h1 h2
        rw [← he]
        exact ⟨v, rfl, hR, hB⟩
      | false =>
        rw [← ha, hb, if_neg (by decide)] at h
        rw [hb, if_neg (by decide)] at hR
        injection h with h1 h2
        subst h1 h2
        exact ⟨v, rfl, hR, hB⟩
    · cases h
  · rename_i hl
    injection h with h
    injection h with h1 h2
    subst h1 h2
    refine (rsort_long A0 c0 l0 w (by have h9 : l0.length ≤ 9223372036854775807 := hr0.2.1; exact h9) (by omega)).mono ?_
    rintro e w' ⟨rfl, rfl⟩
    exact ⟨_, rfl, Kd.R_nil _ _ _ _ _, Below.refl _ _⟩
end Go.Proofs.YtgafnjgiikdofaaGreatDoor.R
