/- A turn of packing and joining: the blocks become fewer, their rows stay together. -/
import Derived.Test.YtdohacnjngkkiaaWp
import Derived.Test.YtdohacnjngkkiaaJp
namespace Go.Proofs.Ytdohacnjngkkiaa.Ep
open Go.RowKit Go.Proofs.Ytdohacnjngkkiaa.A Go.Proofs.Ytdohacnjngkkiaa.Pm Go.Proofs.Ytdohacnjngkkiaa.Pq Go.Proofs.Ytdohacnjngkkiaa.Sr Go.Proofs.Ytdohacnjngkkiaa.Kn Go.Proofs.Ytdohacnjngkkiaa.Wp Go.Proofs.Ytdohacnjngkkiaa.Jp Go.Proofs.Ytdohacnjngkkiaa.Jd
set_option linter.unusedVariables false
theorem sum_perm {l l' : List Int} (h : l.Perm l') : sumI l = sumI l' := List.Perm.foldl_eq' h (fun x _ y _ z => by omega) 0
theorem sum_append (l l' : List Int) : sumI (l ++ l') = sumI l + sumI l' := by
  show (l ++ l').foldl (· + ·) 0 = _
  rw [List.foldl_append, sum_from]; rfl
theorem run_lev {lv mx : Int} : ∀ (r : List S40) (t : Int), runOk lv mx t r = true → ∀ x ∈ r, x.f7 = lv
  | [], _, _, x, hx => by cases hx
  | y :: r, t, h, x, hx => by
    unfold runOk at h
    simp only [Bool.and_eq_true, decide_eq_true_eq] at h
    rcases List.mem_cons.1 hx with rfl | hx
    · exact h.1
    · exact run_lev r _ h.2.2 x hx
theorem fold_bd : ∀ (l : List S40) (m : S40), (∀ x ∈ l, rightB x = true) → 0 ≤ m.f1 → m.f2 < 1099511627776 → 1 ≤ m.f3 → m.f4 < 1099511627776 →
    0 ≤ (l.foldl stepN m).f1 ∧ (l.foldl stepN m).f2 < 1099511627776 ∧ 1 ≤ (l.foldl stepN m).f3 ∧ (l.foldl stepN m).f4 < 1099511627776
  | [], m, _, h1, h2, h3, h4 => ⟨h1, h2, h3, h4⟩
  | y :: r, m, hr, h1, h2, h3, h4 => by
    have hy := right_wf (hr y (List.mem_cons_self))
    rw [List.foldl_cons]
    refine fold_bd r (stepN m y) (fun x hx => hr x (List.mem_cons_of_mem _ hx)) ?_ ?_ ?_ ?_
    · show 0 ≤ min m.f1 y.f1; omega
    · show max m.f2 y.f2 < _; omega
    · show 1 ≤ min m.f3 y.f3; omega
    · show max m.f4 y.f4 < _; omega
theorem fold_lvl (lv : Int) : ∀ (l : List S40) (m : S40), (∀ x ∈ l, x.f7 = lv) → m.f7 ≤ lv → (l.foldl stepN m).f7 ≤ lv
  | [], m, _, h => h
  | y :: r, m, hr, h => by
    have hy := hr y (List.mem_cons_self)
    rw [List.foldl_cons]
    refine fold_lvl lv r (stepN m y) (fun x hx => hr x (List.mem_cons_of_mem _ hx)) ?_
    show max m.f7 y.f7 ≤ lv; omega
/-- some of one level, together not too many: they make a block -/
theorem join_ok {l : List S40} {id lv : Int} (hf : fineB l = true) (hne : l ≠ []) (hid : 1 ≤ id ∧ id < 1099511627776) (h5 : sumI (l.map (·.f5)) < 1099511627776) (h6 : sumI (l.map (·.f6)) < 1099511627776)
    (hl : ∀ x ∈ l, x.f7 = lv) (hlv : 0 ≤ lv ∧ lv < 20) : ∃ q, joinB l id = (q, true) := by
  rw [join_is hf hne]
  have hr := (fine_iff.1 hf).1
  have h1 := fold_le l u0
  have h2 := fold_sum l u0 hr (by decide) (by decide) (by decide) (by decide)
  have h3 := fold_bd l u0 hr (by decide) (by decide) (by decide) (by decide)
  have h4 := fold_lvl lv l u0 hl (by show 0 ≤ lv; omega)
  have h7 := fold_lev l u0 hr (by decide) (by decide)
  have hb5 := sum_bd (l.map (·.f5)) (fun v hv => by obtain ⟨z, hz, rfl⟩ := List.mem_map.1 hv; have := right_wf (hr z hz); omega)
  have hb6 := sum_bd (l.map (·.f6)) (fun v hv => by obtain ⟨z, hz, rfl⟩ := List.mem_map.1 hv; have := right_wf (hr z hz); omega)
  obtain ⟨x, r, rfl⟩ : ∃ x r, l = x :: r := by cases l with | nil => exact absurd rfl hne | cons x r => exact ⟨x, r, rfl⟩
  have hx := right_wf (hr x (List.mem_cons_self))
  have hxs := h1.2.2.2.2.2 x (List.mem_cons_self)
  have hb5' := sum_bd (r.map (·.f5)) (fun v hv => by obtain ⟨z, hz, rfl⟩ := List.mem_map.1 hv; have := right_wf (hr z (List.mem_cons_of_mem _ hz)); omega)
  rw [List.map_cons, sum_cons] at h5
  have e5 := h2.1
  have e6 := h2.2
  rw [List.map_cons, sum_cons] at e5
  replace e5 : ((x :: r).foldl stepN u0).f5 = min (0 + (x.f5 + sumI (r.map (·.f5)))) 1099511627776 := e5
  replace e6 : ((x :: r).foldl stepN u0).f6 = min (0 + sumI ((x :: r).map (·.f6))) 1099511627776 := e6
  generalize (x :: r).foldl stepN u0 = m at h1 h2 h3 h4 h7 hxs e5 e6
  have hR : rightB (lastJ m id) = true := by
    have e7 : (lastJ m id).f7 = m.f7 + 1 := by show wrap64 (m.f7 + 1) = _; rw [Go.IntWalk.wrap64_in _ (by omega)]
    unfold rightB inB
    simp only [Bool.and_eq_true, decide_eq_true_eq]
    rw [e7]
    show ((((((((1 ≤ id ∧ id < 1099511627776) ∧ 0 ≤ m.f1 ∧ m.f1 < 1099511627776) ∧ m.f1 ≤ m.f2 ∧ m.f2 < 1099511627776) ∧ 1 ≤ m.f3 ∧ m.f3 < 1099511627776) ∧ m.f3 ≤ m.f4 ∧ m.f4 < 1099511627776) ∧ 1 ≤ m.f5 ∧ m.f5 < 1099511627776) ∧ 0 ≤ m.f6 ∧ m.f6 < 1099511627776) ∧ 0 ≤ m.f7 + 1) ∧ m.f7 + 1 ≤ 20
    omega
  exact ⟨lastJ m id, by unfold finJ; rw [if_pos hR]⟩
structure Good (xs : List S40) (next : Int) : Prop where
  right : ∀ x ∈ xs, rightB x = true
  low : ∀ x ∈ xs, x.f0 < next
  nd : (xs.map (·.f0)).Nodup
theorem Good.fine {xs : List S40} {next : Int} (h : Good xs next) : fineB xs = true := fine_iff.2 ⟨h.right, h.nd⟩
def inP (p : List Int) (x : S40) : Bool := decide (x.f0 ∈ p)
theorem split_perm {xs s : List S40} {keep now : Int} {F i : Nat} (hp : s.Perm (xs.filter (fun x => !overB keep now x))) (hi : i + F ≤ s.length) :
    ∃ u, xs.Perm (runAt F s i ++ u) := by
  have h1 : s.Perm (runAt F s i ++ (s.take i ++ s.drop (i + F))) := by
    have e : s = s.take i ++ (runAt F s i ++ s.drop (i + F)) := by
      unfold runAt
      rw [← List.drop_drop, List.take_append_drop, List.take_append_drop]
    have h2 : (s.take i ++ (runAt F s i ++ s.drop (i + F))).Perm (runAt F s i ++ (s.take i ++ s.drop (i + F))) := by
      rw [← List.append_assoc, ← List.append_assoc]
      exact List.Perm.append_right _ List.perm_append_comm
    exact (List.Perm.of_eq e).trans h2
  have h3 : xs.Perm (xs.filter (fun x => !overB keep now x) ++ xs.filter (fun x => !!overB keep now x)) := (List.filter_append_perm _ xs).symm
  refine ⟨s.take i ++ s.drop (i + F) ++ xs.filter (fun x => !!overB keep now x), h3.trans ?_⟩
  rw [← List.append_assoc]
  exact List.Perm.append_right _ (hp.symm.trans h1)
theorem filter_parts {xs r u : List S40} (hx : xs.Perm (r ++ u)) (hnd : (xs.map (·.f0)).Nodup) :
    (xs.filter (inP (r.map (·.f0)))).Perm r ∧ (xs.filter (fun x => !inP (r.map (·.f0)) x)).Perm u := by
  have hn : ((r ++ u).map (·.f0)).Nodup := (hx.map _).nodup_iff.1 hnd
  rw [List.map_append, List.nodup_append] at hn
  have hr : ∀ x ∈ r, inP (r.map (·.f0)) x = true := fun x h => decide_eq_true (List.mem_map.2 ⟨x, h, rfl⟩)
  have hu : ∀ x ∈ u, inP (r.map (·.f0)) x = false := fun x h => decide_eq_false (fun hm => hn.2.2 _ hm _ (List.mem_map.2 ⟨x, h, rfl⟩) rfl)
  constructor
  · refine (hx.filter _).trans ?_
    rw [List.filter_append, List.filter_eq_self.2 hr, List.filter_eq_nil_iff.2 (fun x h => by rw [hu x h]; decide), List.append_nil]
  · refine (hx.filter _).trans ?_
    rw [List.filter_append, List.filter_eq_nil_iff.2 (fun x h => by rw [hr x h]; decide), List.nil_append, List.filter_eq_self.2 (fun x h => by rw [hu x h]; rfl)]
/-- **a turn** -/
theorem turn_ok {xs s : List S40} {mx keep now next : Int} {F lv i : Nat} (hg : Good xs next) (hn : 1 ≤ next ∧ next < 1099511627776) (h5 : sumI (xs.map (·.f5)) < 1099511627776) (h6 : sumI (xs.map (·.f6)) < 1099511627776)
    (hp : s.Perm (xs.filter (fun x => !overB keep now x))) (hi : i + F ≤ s.length) (hF : 2 ≤ F) (hlv : lv < 20) (hok : runOk lv mx 0 (runAt F s i) = true) :
    (xs.filter (inP ((runAt F s i).map (·.f0)))).length = F ∧ ∃ q, joinB (xs.filter (inP ((runAt F s i).map (·.f0)))) next = (q, true) ∧
      Good (xs.filter (fun x => !inP ((runAt F s i).map (·.f0)) x) ++ [q]) (next + 1) ∧
      sumI ((xs.filter (fun x => !inP ((runAt F s i).map (·.f0)) x) ++ [q]).map (·.f5)) = sumI (xs.map (·.f5)) ∧ sumI ((xs.filter (fun x => !inP ((runAt F s i).map (·.f0)) x) ++ [q]).map (·.f6)) = sumI (xs.map (·.f6)) ∧
      (xs.filter (fun x => !inP ((runAt F s i).map (·.f0)) x) ++ [q]).length + F = xs.length + 1 := by
  obtain ⟨u, hx⟩ := split_perm hp hi
  have hrl := run_len hi
  generalize runAt F s i = r at hx hrl hok ⊢
  obtain ⟨h1, h2⟩ := filter_parts hx hg.nd
  have hsub : ∀ x ∈ xs.filter (inP (r.map (·.f0))), x ∈ xs := fun x h => (List.mem_filter.1 h).1
  have hsub2 : ∀ x ∈ xs.filter (fun x => !inP (r.map (·.f0)) x), x ∈ xs := fun x h => (List.mem_filter.1 h).1
  have s5 : sumI (xs.map (·.f5)) = sumI ((xs.filter (inP (r.map (·.f0)))).map (·.f5)) + sumI ((xs.filter (fun x => !inP (r.map (·.f0)) x)).map (·.f5)) := by
    rw [sum_perm (hx.map _), sum_perm (h1.map _), sum_perm (h2.map _), List.map_append, sum_append]
  have s6 : sumI (xs.map (·.f6)) = sumI ((xs.filter (inP (r.map (·.f0)))).map (·.f6)) + sumI ((xs.filter (fun x => !inP (r.map (·.f0)) x)).map (·.f6)) := by
    rw [sum_perm (hx.map _), sum_perm (h1.map _), sum_perm (h2.map _), List.map_append, sum_append]
  have hl : xs.length = (xs.filter (inP (r.map (·.f0)))).length + (xs.filter (fun x => !inP (r.map (·.f0)) x)).length := by
    rw [hx.length_eq, h1.length_eq, h2.length_eq, List.length_append]
  have hll : (xs.filter (inP (r.map (·.f0)))).length = F := by rw [h1.length_eq, hrl]
  have hb5 := (sum_bd ((xs.filter (fun x => !inP (r.map (·.f0)) x)).map (·.f5)) (fun v hv => by obtain ⟨z, hz, rfl⟩ := List.mem_map.1 hv; have := right_wf (hg.right z (hsub2 z hz)); omega)).1
  have hb6 := (sum_bd ((xs.filter (fun x => !inP (r.map (·.f0)) x)).map (·.f6)) (fun v hv => by obtain ⟨z, hz, rfl⟩ := List.mem_map.1 hv; have := right_wf (hg.right z (hsub2 z hz)); omega)).1
  have hnd1 : ((xs.filter (inP (r.map (·.f0)))).map (·.f0)).Nodup := ((List.filter_sublist (l := xs)).map _).nodup hg.nd
  have hnd2 : ((xs.filter (fun x => !inP (r.map (·.f0)) x)).map (·.f0)).Nodup := ((List.filter_sublist (l := xs)).map _).nodup hg.nd
  have hne : xs.filter (inP (r.map (·.f0))) ≠ [] := by intro e; rw [e] at hll; simp at hll; omega
  have hlev : ∀ x ∈ xs.filter (inP (r.map (·.f0))), x.f7 = (lv : Int) := fun x h => run_lev r 0 hok x (h1.mem_iff.1 h)
  generalize xs.filter (inP (r.map (·.f0))) = X at *
  generalize xs.filter (fun x => !inP (r.map (·.f0)) x) = Y at *
  obtain ⟨q, hq⟩ := join_ok (id := next) (lv := lv) (fine_iff.2 ⟨fun x h => hg.right x (hsub x h), hnd1⟩) hne hn (by omega) (by omega) hlev (by omega)
  have hy := join_yes hq
  refine ⟨hll, q, hq, ⟨fun x h => ?_, fun x h => ?_, ?_⟩, ?_, ?_, ?_⟩
  · rcases List.mem_append.1 h with h | h
    · exact hg.right x (hsub2 x h)
    · simp at h; rw [h]; exact hy.2.2.1
  · rcases List.mem_append.1 h with h | h
    · have := hg.low x (hsub2 x h); omega
    · simp at h; rw [h, hy.2.2.2.1]; omega
  · rw [List.map_append, List.nodup_append]
    refine ⟨hnd2, by simp, fun a ha b hb => ?_⟩
    obtain ⟨z, hz, rfl⟩ := List.mem_map.1 ha
    simp at hb
    have := hg.low z (hsub2 z hz)
    rw [hb, hy.2.2.2.1]; omega
  · rw [List.map_append, sum_append]
    show _ + sumI [q.f5] = _
    rw [s5, show sumI [q.f5] = q.f5 from by rw [sum_cons]; show q.f5 + 0 = _; omega, hy.2.2.2.2.1]; omega
  · rw [List.map_append, sum_append]
    show _ + sumI [q.f6] = _
    rw [s6, show sumI [q.f6] = q.f6 from by rw [sum_cons]; show q.f6 + 0 = _; omega, hy.2.2.2.2.2.1]; omega
  · rw [List.length_append, List.length_singleton]; omega
end Go.Proofs.Ytdohacnjngkkiaa.Ep
