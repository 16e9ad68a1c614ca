/- Pack: its function values, and what DeleteFunc makes of a row of one's own. -/
import Derived.Test.YtdohacnjngkkiaaSr
import Derived.Shelf.Abstract
import Derived.Shelf.SlSortCmp.NoneTotal
namespace Go.Proofs.Ytdohacnjngkkiaa.Pk
set_option linter.unusedVariables false
set_option linter.unusedSimpArgs false
open Go.Proofs.Ytdohacnjngkkiaa.So Go.Proofs.Ytdohacnjngkkiaa.La Go.Proofs.Ytdohacnjngkkiaa.Sm Go.Proofs.Ytdohacnjngkkiaa.Sr Go.Shelf Go.RowKit Go.Proofs.YtdohacnjngkkiaaW.PrintWords Go.Proofs.YtdohacnjngkkiaaW.PrintLast Go.Proofs.YtdohacnjngkkiaaW.PrintMore Go.Proofs.Ytdohacnjngkkiaa.Fr Go.Proofs.Ytdohacnjngkkiaa.A Go.Proofs.Ytdohacnjngkkiaa.Pm Go.Proofs.Ytdohacnjngkkiaa.Pf Go.Proofs.Ytdohacnjngkkiaa.Pi Go.Proofs.Ytdohacnjngkkiaa.Pc Go.Proofs.Ytdohacnjngkkiaa.Pd
theorem cell_stays {B : Nat} {w W : World} {b : Nat} {cs : Array Value} {t : TypeId} (h : w.heap[b]? = some (.cells cs t (0, 0))) (hlt : b < B) (hb : Below B w W) : W.heap[b]? = some (.cells cs t (0, 0)) := (hb.block _ hlt).trans h
set_option maxHeartbeats 1000000 in
/-- what Pack deletes -/
theorem pack1_asks (B b1 b2 : Nat) (fan mx keep now : Int) (w : World) (l1 : b1 < B) (l2 : b2 < B) (h1 : w.heap[b1]? = some (.cells #[.int .i64 fan, .int .i64 mx, .int .i64 keep] 36 (0, 0))) (h2 : w.heap[b2]? = some (.cells #[.int .i64 now] 3 (0, 0))) (hB : B ≤ w.heap.size) :
    AsksB B 42 #[.pointer (some ⟨b1, 0, none⟩), .pointer (some ⟨b2, 0, none⟩)] (overB keep now) w := by
  intro x W hb
  have HS : Aside0 (B ≤ W.heap.size) := ⟨Nat.le_trans hB hb.size⟩
  obtain ⟨W1, hW1⟩ : ∃ W1, W1 = W.alloc (.cells #[.int .i64 x.f0, .int .i64 x.f1, .int .i64 x.f2, .int .i64 x.f3, .int .i64 x.f4, .int .i64 x.f5, .int .i64 x.f6, .int .i64 x.f7] 40) := ⟨_, rfl⟩
  have hbw : Below W.heap.size W W1 := by rw [hW1]; exact below_alloc (Below.refl _ _) _
  have hbk : W1.heap[W.heap.size]? = some (.cells #[.int .i64 x.f0, .int .i64 x.f1, .int .i64 x.f2, .int .i64 x.f3, .int .i64 x.f4, .int .i64 x.f5, .int .i64 x.f6, .int .i64 x.f7] 40 (0, 0)) := by rw [hW1]; exact blk_new _ _
  have k1 := (hbw.block _ (Nat.lt_of_lt_of_le l1 HS.out)).trans (cell_stays h1 l1 hb)
  have k2 := (hbw.block _ (Nat.lt_of_lt_of_le l2 HS.out)).trans (cell_stays h2 l2 hb)
  have c1 := blk_cell k1 2
  have c2 := blk_cell k2 0
  have e0 := blk_cell hbk 0
  have e1 := blk_cell hbk 1
  have e2 := blk_cell hbk 2
  have e3 := blk_cell hbk 3
  have e4 := blk_cell hbk 4
  have e5 := blk_cell hbk 5
  have e6 := blk_cell hbk 6
  have e7 := blk_cell hbk 7
  simp at e0 e1 e2 e3 e4 e5 e6 e7 c1 c2
  have HBW := Aside0.mk hbw
  have hov := over_fn x keep now W1
  have hov' := over_fn x keep now W1.drew
  unfold ag at hov hov'
  clear h1 h2 hb hbk hbw k1 k2 l1 l2 hB
  unfold ag
  go_enter Try.func42, Try.ntmps42
  go_upto_region 1 with fail
  rw [← hW1]
  clear hW1
  go_wp2_with fail
  refine hov.mono ?_
  rintro e w2 ⟨rfl, hb2⟩
  have HB2 := Aside0.mk (below_then HBW.out HBW.out.size hb2)
  clear hov hb2
  go_wp2
  go_ret
  exact ⟨rfl, HB2.out⟩
/-- all fit -/
theorem pack3_asks (w : World) : Asks 47 #[] (fun _ => true) w := by
  intro x W hb
  unfold ag
  clear hb
  go_enter Try.func47, Try.ntmps47
  go_wp2
  go_ret
  exact ⟨rfl, below_alloc (Below.refl _ _) _⟩
theorem first_split (p : S40 → Bool) : ∀ (l : List S40), (∃ x ∈ l, p x = true) → ∃ X z Y, l = X ++ z :: Y ∧ (∀ x ∈ X, p x = false) ∧ p z = true
  | [], h => by obtain ⟨x, hx, _⟩ := h; cases hx
  | a :: t, h => by
    by_cases ha : p a = true
    · exact ⟨[], a, t, rfl, fun x hx => (by cases hx), ha⟩
    · obtain ⟨x, hx, hpx⟩ := h
      have hx' : x ∈ t := by
        rcases List.mem_cons.1 hx with rfl | hx
        · exact absurd hpx ha
        · exact hx
      obtain ⟨X, z, Y, rfl, hX, hz⟩ := first_split p t ⟨x, hx', hpx⟩
      refine ⟨a :: X, z, Y, rfl, fun y hy => ?_, hz⟩
      rcases List.mem_cons.1 hy with rfl | hy
      · simpa using ha
      · exact hX y hy
/-- **slices.DeleteFunc of a row of one's own** -/
theorem del_own (v : Value) (l : List S40) (g : Nat) (lb : Array Value) (p : S40 → Bool) (base : Nat) (w0 w : World) (eg : ∀ args w, (callFunc g args).run Try.prog w = .ok (.enter g args) w) (hp : AsksB base g lb p w0) (hb0 : Below base w0 w) (hB : base ≤ w.heap.size)
    (hR : k40.R 40 w base (fun _ => True) v l) (hl : l.length ≤ 1048576) :
    Calls Try.prog 40 #[v, .func (.func g) #[] lb] w fun e w' => ∃ v', e = .returned v' ∧ k40.R 40 w' base (fun _ => True) v' (l.filter (fun x => !p x)) ∧ Below base w0 w' := by
  obtain ⟨A, c, rfl, hc⟩ := OwnRow.slice_ hR.2
  obtain ⟨_, _, hC⟩ := Kd.R_reads' hR
  by_cases hno : ∀ x ∈ l, p x = false
  · refine (del_no A c l g lb p base w0 w eg hp hb0 hB hC hl hno).mono ?_
    rintro e w' ⟨rfl, hb⟩
    have hf : l.filter (fun x => !p x) = l := by
      rw [List.filter_eq_self]
      intro x hx
      simp [hno x hx]
    rw [hf]
    exact ⟨_, rfl, Kd.R_below hR hb, below_then hb0 hB hb⟩
  · have hex : ∃ x ∈ l, p x = true := by
      apply Classical.byContradiction
      intro h
      apply hno
      intro x hx
      cases hpx : p x
      · rfl
      · exact absurd ⟨x, hx, hpx⟩ h
    obtain ⟨X, z, Y, rfl, hX, hz⟩ := first_split p l hex
    obtain ⟨gb, cur, rfl, _⟩ := R_form hR (by rw [List.length_append, List.length_cons]; omega)
    refine (del_yes gb c X Y z g lb p base w0 w eg hp hb0 hB hR hl hX hz).mono ?_
    rintro e w' ⟨m, rfl, hr, hb⟩
    exact ⟨_, rfl, hr, hb⟩
/-- **slices.SortFunc of a row of one's own** -/
theorem sort_own (v : Value) (l : List S40) (base : Nat) (w0 w : World) (hb0 : Below base w0 w)
    (hR : k40.R 40 w base (fun _ => True) v l) (hl : l.length ≤ 1048576) :
    Calls Try.prog 43 #[v, .func (.func 44) #[] #[]] w fun e w' => e = .returned (.tuple #[]) ∧ ∃ l', l'.Perm l ∧ (l'.Pairwise fun x y => ¬ lessM y x) ∧
      k40.R 40 w' base (fun _ => True) v l' ∧ Below base w0 w' := by
  obtain ⟨A, c, rfl, hc⟩ := OwnRow.slice_ hR.2
  by_cases hn : 0 < l.length
  · obtain ⟨gb, cur, rfl, _⟩ := R_form hR hn
    refine (sort_calls gb c base l w0 w hn hl hb0 hR).mono ?_
    rintro e w' ⟨rfl, l', hp, hs, hr, hb⟩
    rw [hp.length_eq] at hr
    exact ⟨rfl, l', hp, hs, hr, hb⟩
  · have e : l = [] := List.length_eq_zero_iff.1 (by omega)
    subst e
    refine Calls.mono (AnyF.slices_SortFunc_none sortM A c (.func (.func 44) #[] #[]) w) ?_
    rintro e w' ⟨rfl, rfl⟩
    exact ⟨rfl, [], List.Perm.refl _, List.Pairwise.nil, hR, hb0⟩
end Go.Proofs.Ytdohacnjngkkiaa.Pk
