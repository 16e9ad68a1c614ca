/- What blocks make: it covers them all, has all their rows and bytes, and is the same in any order. -/
import Derived.Test.YtdohacnjngkkiaaJd
import Derived.IntWalk
namespace Go.Proofs.Ytdohacnjngkkiaa.Jp
open Go.RowKit Go.Proofs.Ytdohacnjngkkiaa.A Go.Proofs.Ytdohacnjngkkiaa.Pm Go.Proofs.Ytdohacnjngkkiaa.Jd
set_option linter.unusedVariables false
def stepN (m x : S40) : S40 := ⟨m.f0, min m.f1 x.f1, max m.f2 x.f2, min m.f3 x.f3, max m.f4 x.f4, min (m.f5 + x.f5) 1099511627776, min (m.f6 + x.f6) 1099511627776, max m.f7 x.f7⟩
def u0 : S40 := ⟨0, 1099511627776, 0, 1099511627776, 0, 0, 0, 0⟩
theorem fold_N : ∀ (r : List S40) (m : S40), 0 ≤ m.f5 → m.f5 ≤ 1099511627776 → 0 ≤ m.f6 → m.f6 ≤ 1099511627776 → (∀ x ∈ r, rightB x = true) → r.foldl stepJ m = r.foldl stepN m
  | [], m, _, _, _, _, _ => rfl
  | x :: r, m, h5, h5', h6, h6', hr => by
    have hx := right_wf (hr x (List.mem_cons_self))
    have e : stepJ m x = stepN m x := by
      unfold stepJ stepN
      rw [Go.IntWalk.wrap64_in (m.f5 + x.f5) (by omega), Go.IntWalk.wrap64_in (m.f6 + x.f6) (by omega)]
    rw [List.foldl_cons, List.foldl_cons, e]
    refine fold_N r (stepN m x) ?_ ?_ ?_ ?_ (fun y hy => hr y (List.mem_cons_of_mem _ hy))
    · show 0 ≤ min (m.f5 + x.f5) 1099511627776; omega
    · show min (m.f5 + x.f5) 1099511627776 ≤ _; omega
    · show 0 ≤ min (m.f6 + x.f6) 1099511627776; omega
    · show min (m.f6 + x.f6) 1099511627776 ≤ _; omega
theorem fold_f0 : ∀ (r : List S40) (m : S40) (a : Int), r.foldl stepN { m with f0 := a } = { r.foldl stepN m with f0 := a }
  | [], m, a => rfl
  | x :: r, m, a => by
    rw [List.foldl_cons, List.foldl_cons]
    exact fold_f0 r (stepN m x) a
theorem u0_step {x : S40} (h : rightB x = true) : stepN u0 x = { x with f0 := 0 } := by
  have hx := right_wf h
  unfold stepN u0
  refine S40.ext' rfl ?_ ?_ ?_ ?_ ?_ ?_ ?_
  · show min 1099511627776 x.f1 = x.f1; omega
  · show max 0 x.f2 = x.f2; omega
  · show min 1099511627776 x.f3 = x.f3; omega
  · show max 0 x.f4 = x.f4; omega
  · show min (0 + x.f5) 1099511627776 = x.f5; omega
  · show min (0 + x.f6) 1099511627776 = x.f6; omega
  · show max 0 x.f7 = x.f7; omega
theorem fin_f0 (m : S40) (a id : Int) : finJ { m with f0 := a } id = finJ m id := rfl
theorem join_is {l : List S40} (hf : fineB l = true) (hne : l ≠ []) (id : Int) : joinB l id = finJ (l.foldl stepN u0) id := by
  cases l with
  | nil => exact absurd rfl hne
  | cons x r =>
    have hr := (fine_iff.1 hf).1
    have hx := right_wf (hr x (List.mem_cons_self))
    show (if fineB (x :: r) = true then finJ (r.foldl stepJ x) id else (z40, false)) = _
    rw [if_pos hf, fold_N r x (by omega) (by omega) (by omega) (by omega) (fun y hy => hr y (List.mem_cons_of_mem _ hy)), List.foldl_cons, u0_step (hr x (List.mem_cons_self)), fold_f0 r x 0]
    rfl
theorem join_no {l : List S40} {id : Int} {q : S40} (h : joinB l id = (q, false)) : q = z40 := by
  unfold joinB finJ at h
  split at h
  · cases h; rfl
  · split at h
    · split at h
      · cases h
      · cases h; rfl
    · cases h; rfl
theorem fold_le : ∀ (l : List S40) (m : S40), (l.foldl stepN m).f1 ≤ m.f1 ∧ m.f2 ≤ (l.foldl stepN m).f2 ∧ (l.foldl stepN m).f3 ≤ m.f3 ∧ m.f4 ≤ (l.foldl stepN m).f4 ∧ m.f7 ≤ (l.foldl stepN m).f7 ∧
    ∀ x ∈ l, (l.foldl stepN m).f1 ≤ x.f1 ∧ x.f2 ≤ (l.foldl stepN m).f2 ∧ (l.foldl stepN m).f3 ≤ x.f3 ∧ x.f4 ≤ (l.foldl stepN m).f4 ∧ x.f7 ≤ (l.foldl stepN m).f7
  | [], m => ⟨Int.le_refl _, Int.le_refl _, Int.le_refl _, Int.le_refl _, Int.le_refl _, fun x hx => by cases hx⟩
  | y :: r, m => by
    have ih := fold_le r (stepN m y)
    rw [List.foldl_cons]
    generalize r.foldl stepN (stepN m y) = q at ih
    obtain ⟨h1, h2, h3, h4, h7, hx⟩ := ih
    replace h1 : q.f1 ≤ min m.f1 y.f1 := h1
    replace h2 : max m.f2 y.f2 ≤ q.f2 := h2
    replace h3 : q.f3 ≤ min m.f3 y.f3 := h3
    replace h4 : max m.f4 y.f4 ≤ q.f4 := h4
    replace h7 : max m.f7 y.f7 ≤ q.f7 := h7
    refine ⟨by omega, by omega, by omega, by omega, by omega, fun x hxm => ?_⟩
    rcases List.mem_cons.1 hxm with rfl | hxm
    · exact ⟨by omega, by omega, by omega, by omega, by omega⟩
    · exact hx x hxm
def sumI : List Int → Int := List.foldl (· + ·) 0
theorem sum_from (l : List Int) : ∀ a : Int, l.foldl (· + ·) a = a + sumI l := by
  induction l with
  | nil => intro a; simp [sumI]
  | cons x r ih => intro a; rw [List.foldl_cons, ih]; show _ = a + (x :: r).foldl (· + ·) 0; rw [List.foldl_cons, ih]; omega
theorem sum_cons (x : Int) (l : List Int) : sumI (x :: l) = x + sumI l := by
  show (x :: l).foldl (· + ·) 0 = _
  rw [List.foldl_cons, sum_from]; omega
theorem sum_snoc (l : List Int) (x : Int) : sumI (l ++ [x]) = sumI l + x := by
  show (l ++ [x]).foldl (· + ·) 0 = _
  rw [List.foldl_append]; rfl
theorem sum_bd : ∀ (l : List Int), (∀ x ∈ l, 0 ≤ x ∧ x < 1099511627776) → 0 ≤ sumI l ∧ sumI l ≤ 1099511627776 * l.length
  | [], _ => by simp [sumI]
  | x :: r, h => by
    have ih := sum_bd r (fun y hy => h y (List.mem_cons_of_mem _ hy))
    have hx := h x (List.mem_cons_self)
    rw [sum_cons, List.length_cons]
    omega
theorem fold_sum : ∀ (l : List S40) (m : S40), (∀ x ∈ l, rightB x = true) → 0 ≤ m.f5 → m.f5 ≤ 1099511627776 → 0 ≤ m.f6 → m.f6 ≤ 1099511627776 →
    (l.foldl stepN m).f5 = min (m.f5 + sumI (l.map (·.f5))) 1099511627776 ∧ (l.foldl stepN m).f6 = min (m.f6 + sumI (l.map (·.f6))) 1099511627776
  | [], m, _, h5, h5', h6, h6' => by
    simp only [List.foldl_nil, List.map_nil]
    show m.f5 = min (m.f5 + 0) _ ∧ m.f6 = min (m.f6 + 0) _
    omega
  | y :: r, m, hr, h5, h5', h6, h6' => by
    have hy := right_wf (hr y (List.mem_cons_self))
    have hr' : ∀ x ∈ r, rightB x = true := fun x hx => hr x (List.mem_cons_of_mem _ hx)
    have ih := fold_sum r (stepN m y) hr' (by show 0 ≤ min (m.f5 + y.f5) 1099511627776; omega) (by show min (m.f5 + y.f5) 1099511627776 ≤ _; omega) (by show 0 ≤ min (m.f6 + y.f6) 1099511627776; omega) (by show min (m.f6 + y.f6) 1099511627776 ≤ _; omega)
    rw [List.foldl_cons]
    generalize r.foldl stepN (stepN m y) = q at ih
    obtain ⟨i5, i6⟩ := ih
    replace i5 : q.f5 = min (min (m.f5 + y.f5) 1099511627776 + sumI (r.map (·.f5))) 1099511627776 := i5
    replace i6 : q.f6 = min (min (m.f6 + y.f6) 1099511627776 + sumI (r.map (·.f6))) 1099511627776 := i6
    have b5 := (sum_bd (r.map (·.f5)) (fun v hv => by obtain ⟨z, hz, rfl⟩ := List.mem_map.1 hv; have := right_wf (hr' z hz); omega)).1
    have b6 := (sum_bd (r.map (·.f6)) (fun v hv => by obtain ⟨z, hz, rfl⟩ := List.mem_map.1 hv; have := right_wf (hr' z hz); omega)).1
    rw [List.map_cons, List.map_cons, sum_cons, sum_cons]
    exact ⟨by omega, by omega⟩
theorem fold_lev : ∀ (l : List S40) (m : S40), (∀ x ∈ l, rightB x = true) → 0 ≤ m.f7 → m.f7 ≤ 20 → 0 ≤ (l.foldl stepN m).f7 ∧ (l.foldl stepN m).f7 ≤ 20
  | [], m, _, h, h' => ⟨h, h'⟩
  | y :: r, m, hr, h, h' => by
    have hy := right_wf (hr y (List.mem_cons_self))
    rw [List.foldl_cons]
    exact fold_lev r (stepN m y) (fun x hx => hr x (List.mem_cons_of_mem _ hx)) (by show 0 ≤ max m.f7 y.f7; omega) (by show max m.f7 y.f7 ≤ _; omega)
/-- **what blocks make covers them, and has their rows and bytes** -/
theorem join_yes {l : List S40} {id : Int} {q : S40} (h : joinB l id = (q, true)) : l ≠ [] ∧ fineB l = true ∧ rightB q = true ∧ q.f0 = id ∧ q.f5 = sumI (l.map (·.f5)) ∧ q.f6 = sumI (l.map (·.f6)) ∧
    ∀ x ∈ l, q.f1 ≤ x.f1 ∧ x.f2 ≤ q.f2 ∧ q.f3 ≤ x.f3 ∧ x.f4 ≤ q.f4 ∧ x.f7 < q.f7 := by
  have hne : l ≠ [] := by intro e; subst e; cases h
  have hf : fineB l = true := by
    cases l with
    | nil => exact absurd rfl hne
    | cons x r =>
      replace h : (if fineB (x :: r) = true then finJ (r.foldl stepJ x) id else (z40, false)) = (q, true) := h
      by_cases hf : fineB (x :: r) = true
      · exact hf
      · rw [if_neg hf] at h; cases h
  rw [join_is hf hne] at h
  have hr := (fine_iff.1 hf).1
  have h1 := fold_le l u0
  have h2 := fold_sum l u0 hr (by decide) (by decide) (by decide) (by decide)
  have h3 := fold_lev l u0 hr (by decide) (by decide)
  generalize l.foldl stepN u0 = m at h h1 h2 h3
  unfold finJ at h
  by_cases hR : rightB (lastJ m id) = true
  · rw [if_pos hR] at h
    cases h
    have hw := right_wf hR
    have e7 : (lastJ m id).f7 = m.f7 + 1 := by show wrap64 (m.f7 + 1) = _; rw [Go.IntWalk.wrap64_in _ (by omega)]
    have e5 : (lastJ m id).f5 = m.f5 := rfl
    have e6 : (lastJ m id).f6 = m.f6 := rfl
    obtain ⟨s5, s6⟩ := h2
    replace s5 : m.f5 = min (0 + sumI (l.map (·.f5))) 1099511627776 := s5
    replace s6 : m.f6 = min (0 + sumI (l.map (·.f6))) 1099511627776 := s6
    refine ⟨hne, hf, hR, rfl, by omega, by omega, fun x hx => ?_⟩
    have hb := h1.2.2.2.2.2 x hx
    exact ⟨hb.1, hb.2.1, hb.2.2.1, hb.2.2.2.1, by omega⟩
  · rw [if_neg hR] at h; cases h
theorem fine_perm {l l' : List S40} (hp : l'.Perm l) (hf : fineB l = true) : fineB l' = true := by
  rw [fine_iff] at hf ⊢
  exact ⟨fun x hx => hf.1 x (hp.mem_iff.1 hx), (hp.map _).nodup_iff.2 hf.2⟩
/-- **the same in any order** -/
theorem join_perm {l l' : List S40} (hp : l'.Perm l) (id : Int) (hf : fineB l = true) (hne : l ≠ []) : joinB l' id = joinB l id := by
  have hne' : l' ≠ [] := by intro e; subst e; exact hne (List.Perm.nil_eq hp).symm
  have hf' := fine_perm hp hf
  rw [join_is hf hne, join_is hf' hne']
  have hr := (fine_iff.1 hf').1
  have e := List.Perm.foldl_eq' (f := stepN) hp (fun x hx y hy z => by
    have h1 := right_wf (hr x hx)
    have h2 := right_wf (hr y hy)
    unfold stepN
    refine S40.ext' rfl ?_ ?_ ?_ ?_ ?_ ?_ ?_ <;> simp only <;> omega) u0
  rw [e]
end Go.Proofs.Ytdohacnjngkkiaa.Jp
