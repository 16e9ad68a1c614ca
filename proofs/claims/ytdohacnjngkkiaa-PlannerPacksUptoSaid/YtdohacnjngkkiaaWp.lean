/- What is packed is of the list, each once, and not over. -/
import Derived.Test.YtdohacnjngkkiaaKn
namespace Go.Proofs.Ytdohacnjngkkiaa.Wp
open Go.RowKit Go.Proofs.Ytdohacnjngkkiaa.A Go.Proofs.Ytdohacnjngkkiaa.Pm Go.Proofs.Ytdohacnjngkkiaa.Pq Go.Proofs.Ytdohacnjngkkiaa.Sr Go.Proofs.Ytdohacnjngkkiaa.Kn
set_option linter.unusedVariables false
theorem ids_mem {l : List S40} (hf : fineB l = true) {x : S40} (hx : x ∈ l) (p : S40 → Bool) : x.f0 ∈ idsB l p ↔ p x = true := by
  unfold idsB
  rw [if_pos hf, List.mem_map]
  constructor
  · rintro ⟨y, hy, he⟩
    obtain ⟨hy1, hy2⟩ := List.mem_filter.1 hy
    have := f0_inj (fine_iff.1 hf).2 hy1 hx he
    subst this
    exact hy2
  · intro h
    exact ⟨x, List.mem_filter.2 ⟨hx, h⟩, rfl⟩
theorem ids_le (l : List S40) (p : S40 → Bool) : (idsB l p).length ≤ l.length := by
  unfold idsB
  split
  · rw [List.length_map]; exact List.length_filter_le _ _
  · exact Nat.zero_le _
theorem ids_of {l : List S40} {p : S40 → Bool} {v : Int} (h : v ∈ idsB l p) : ∃ x ∈ l, x.f0 = v := by
  unfold idsB at h
  split at h
  · obtain ⟨y, hy, he⟩ := List.mem_map.1 h
    exact ⟨y, (List.mem_filter.1 hy).1, he⟩
  · cases h
theorem ids_wf {l : List S40} {p : S40 → Bool} {v : Int} (h : v ∈ idsB l p) : 1 ≤ v ∧ v < 1099511627776 := by
  unfold idsB at h
  split at h
  · rename_i hf
    obtain ⟨y, hy, rfl⟩ := List.mem_map.1 h
    have := right_wf ((fine_iff.1 hf).1 y (List.mem_filter.1 hy).1)
    omega
  · cases h
theorem packL_some {F : Nat} {mx : Int} {s r : List S40} {lv : Nat} (h : packL F mx s lv = some r) : ∃ i : Nat, i < s.length + 1 - F ∧ r = runAt F s i ∧ runOk lv mx 0 r = true := by
  unfold packL at h
  obtain ⟨i, hi, hr⟩ := List.exists_of_findSome?_eq_some h
  have hi' := List.mem_range.1 hi
  by_cases ho : runOk lv mx 0 (runAt F s i) = true
  · rw [if_pos ho] at hr
    cases hr
    exact ⟨i, hi', rfl, ho⟩
  · rw [if_neg ho] at hr
    cases hr
theorem packS_some {F : Nat} {mx : Int} {s r : List S40} (h : packS F mx s = some r) : ∃ lv i : Nat, lv < 20 ∧ i < s.length + 1 - F ∧ r = runAt F s i ∧ runOk lv mx 0 r = true := by
  unfold packS at h
  obtain ⟨lv, hl, hr⟩ := List.exists_of_findSome?_eq_some h
  obtain ⟨i, h1, h2, h3⟩ := packL_some hr
  exact ⟨lv, i, List.mem_range.1 hl, h1, h2, h3⟩
theorem run_sub (F i : Nat) (s : List S40) : (runAt F s i).Sublist s := (List.take_sublist _ _).trans (List.drop_sublist _ _)
/-- what Pack answers: nothing, or the numbers of a run of the sorted rest -/
theorem packR_is {l s : List S40} {fan mx keep : Int} : packR l s fan mx keep = [] ∨ ∃ (F lv i : Nat), fan = F ∧ 2 ≤ F ∧ F ≤ 16 ∧ lv < 20 ∧ i + F ≤ s.length ∧ runOk lv mx 0 (runAt F s i) = true ∧ packR l s fan mx keep = (runAt F s i).map (·.f0) := by
  unfold packR
  split
  · exact .inl rfl
  · rename_i hbad
    cases hp : packS fan.toNat mx s with
    | none => exact .inl rfl
    | some r =>
      obtain ⟨lv, i, h1, h2, h3, h4⟩ := packS_some hp
      refine .inr ⟨fan.toNat, lv, i, ?_, ?_, ?_, h1, ?_, h3 ▸ h4, ?_⟩
      · have : ¬ fan < 2 := fun h => hbad (.inl h)
        omega
      · have : ¬ fan < 2 := fun h => hbad (.inl h)
        omega
      · have : ¬ 16 < fan := fun h => hbad (.inr (.inl h))
        omega
      · have : ¬ fan < 2 := fun h => hbad (.inl h)
        omega
      · rw [h3]; rfl
theorem pack_facts {l s : List S40} {fan mx keep now : Int} (hf : fineB l = true) (hp : s.Perm (l.filter (fun x => !overB keep now x))) :
    (packR l s fan mx keep).Nodup ∧ (∀ v ∈ packR l s fan mx keep, ∃ y ∈ l, y.f0 = v ∧ overB keep now y = false) ∧ (packR l s fan mx keep = [] ∨ ((packR l s fan mx keep).length : Int) = fan) ∧ (packR l s fan mx keep).length ≤ l.length := by
  rcases packR_is (l := l) (s := s) (fan := fan) (mx := mx) (keep := keep) with h | ⟨F, lv, i, rfl, _, _, _, hi, _, h⟩
  · rw [h]
    exact ⟨List.nodup_nil, (fun v hv => by cases hv), Or.inl rfl, Nat.zero_le _⟩
  · rw [h]
    have hsl : (s.map (·.f0)).Nodup := by
      refine (hp.map _).nodup_iff.2 ?_
      exact ((List.filter_sublist (l := l)).map _).nodup (fine_iff.1 hf).2
    have hrl := run_len hi
    refine ⟨((run_sub F i s).map _).nodup hsl, fun v hv => ?_, .inr ?_, ?_⟩
    · obtain ⟨y, hy, rfl⟩ := List.mem_map.1 hv
      have hm := List.mem_filter.1 (hp.mem_iff.1 ((run_sub F i s).subset hy))
      exact ⟨y, hm.1, rfl, by simpa using hm.2⟩
    · rw [List.length_map, hrl]
    · rw [List.length_map, hrl]
      have h1 := hp.length_eq
      have h2 := List.length_filter_le (fun x => !overB keep now x) l
      omega
end Go.Proofs.Ytdohacnjngkkiaa.Wp
