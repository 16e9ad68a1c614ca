/- The document's answers as plain functions of the blocks. -/
import Derived.Test.YtdohacnjngkkiaaKn
namespace Go.Proofs.Ytdohacnjngkkiaa.Rl
set_option linter.unusedVariables false
set_option linter.unusedSimpArgs false
open Go.RowKit Go.Proofs.YtdohacnjngkkiaaW.PrintWords Go.Proofs.YtdohacnjngkkiaaW.PrintLast Go.Proofs.YtdohacnjngkkiaaW.PrintMore Go.Proofs.Ytdohacnjngkkiaa.A Go.Proofs.Ytdohacnjngkkiaa.Pm Go.Proofs.Ytdohacnjngkkiaa.Pf Go.Proofs.Ytdohacnjngkkiaa.Pi
/-- the program's block of the document's -/
def cv (x : S44) : S40 := ⟨x.f0, x.f1, x.f2, x.f3, x.f4, x.f5, x.f6, x.f7⟩
theorem rd44 {l : List S44} {i : Nat} (h : i < l.length) : rd_T44 l (i : Int) = l[i] := by
  unfold rd_T44
  simp [List.getD_eq_getElem?_getD, List.getElem?_eq_getElem h]
theorem rd40 {l : List S40} {i : Nat} (h : i < l.length) : rd_T40 l (i : Int) = l[i] := by
  unfold rd_T40
  simp [List.getD_eq_getElem?_getD, List.getElem?_eq_getElem h]
theorem w1 {i n : Nat} (h : i < n) (hn : n ≤ 1048576) : wrap64 ((i : Int) + 1) = ((i + 1 : Nat) : Int) := by
  rw [Go.IntWalk.wrap64_in _ (by omega)]
  omega
theorem ev_step {α : Type} {f g : Nat → Option α} {r : α} (hg : Ev g r) (h : ∀ k, f (k + 1) = g k) : Ev f r := by
  obtain ⟨K, hK⟩ := hg
  refine ⟨K + 1, fun k hk => ?_⟩
  obtain ⟨k', rfl⟩ : ∃ k', k = k' + 1 := ⟨k - 1, by omega⟩
  rw [h]
  exact hK k' (by omega)
theorem ev_some {α : Type} (r : α) : Ev (fun _ => some r) r := ⟨0, fun _ _ => rfl⟩
theorem ev_bind {α β : Type} {g1 : Nat → Option α} {g2 : Nat → α → Option β} {a : α} {r : β} (h1 : Ev g1 a) (h2 : Ev (fun k => g2 k a) r) : Ev (fun k => (g1 k).bind (g2 k)) r := by
  obtain ⟨K1, hK1⟩ := h1
  obtain ⟨K2, hK2⟩ := h2
  refine ⟨max K1 K2, fun k hk => ?_⟩
  show (g1 k).bind (g2 k) = some r
  rw [hK1 k (by omega), Option.bind_some]
  exact hK2 k (by omega)
theorem list_law (l : List S44) (hl : l.length ≤ 1048576) : ∀ (n i : Nat) (acc : List S40), i + n = l.length → acc.length = i → Ev (fun k => icehouselaw09_List.l0 k l acc (i : Int)) (acc ++ (l.drop i).map cv)
  | 0, i, acc, h, ha => by
    rw [List.drop_of_length_le (by omega)]
    refine ev_step (ev_some _) (fun k => ?_)
    rw [icehouselaw09_List.l0, if_neg (by omega)]
    simp
  | n + 1, i, acc, h, ha => by
    have hi : i < l.length := by omega
    have ih := list_law l hl n (i + 1) (acc ++ [cv l[i]]) (by omega) (by simp [ha])
    rw [List.drop_eq_getElem_cons hi, List.map_cons]
    rw [List.append_assoc] at ih
    refine ev_step ih (fun k => ?_)
    rw [icehouselaw09_List.l0, if_pos (by omega), if_pos (by omega), rd44 hi, w1 hi hl]
    simp only [icehouselaw09_Own.f, Option.bind_some]
    rw [if_pos (by omega)]
    rfl
theorem list_is (l : List S44) (hl : l.length ≤ 1048576) : Ev (fun k => icehouselaw09_List.f k l) (l.map cv) := by
  have h := list_law l hl l.length 0 [] (by omega) rfl
  rw [List.nil_append, List.drop_zero] at h
  exact h
theorem ints_law (a : List Int) (hl : a.length ≤ 1048576) : ∀ (n i : Nat), i + n = a.length → Ev (fun k => icehouselaw05_Ints.l0 k a a (i : Int)) true
  | 0, i, h => by
    refine ev_step (ev_some _) (fun k => ?_)
    rw [icehouselaw05_Ints.l0, if_neg (by omega)]
  | n + 1, i, h => by
    have hi : i < a.length := by omega
    refine ev_step (ints_law a hl n (i + 1) (by omega)) (fun k => ?_)
    rw [icehouselaw05_Ints.l0, if_pos (by omega), if_pos (by omega), if_pos (by omega), if_pos rfl, w1 hi hl]
theorem ints_is (a : List Int) (hl : a.length ≤ 1048576) : Ev (fun k => icehouselaw05_Ints.f k a a) true := by
  obtain ⟨K, hK⟩ := ints_law a hl a.length 0 (by omega)
  refine ⟨K, fun k hk => ?_⟩
  show (if (a.length : Int) = (a.length : Int) then icehouselaw05_Ints.l0 k a a 0 else some false) = some true
  rw [if_pos rfl]
  exact hK k hk
theorem same_law (l : List S44) (hl : l.length ≤ 1048576) : ∀ (n i : Nat), i + n = l.length → Ev (fun k => icehouselaw09_same.l0 k (l.map cv) l (i : Int)) true
  | 0, i, h => by
    refine ev_step (ev_some _) (fun k => ?_)
    rw [icehouselaw09_same.l0, if_neg (by omega)]
    simp
  | n + 1, i, h => by
    have hi : i < l.length := by omega
    have hi' : i < (l.map cv).length := by rw [List.length_map]; exact hi
    refine ev_step (same_law l hl n (i + 1) (by omega)) (fun k => ?_)
    have e : (l.map cv)[i] = cv l[i] := by simp
    rw [icehouselaw09_same.l0, if_pos (by omega), if_pos (by omega), if_pos (by omega), rd44 hi, rd40 hi', w1 hi hl, e]
    simp [icehouselaw09_Own.f, cv]
theorem same_is (l : List S44) (hl : l.length ≤ 1048576) : Ev (fun k => icehouselaw09_same.f k (l.map cv) l) true := same_law l hl l.length 0 (by omega)
theorem rin_is (n least : Int) : icehouseref09_in.f n least = some (inB n least) := by
  unfold icehouseref09_in.f inB
  by_cases h : n ≥ least
  · rw [if_pos h]; simp [h]
  · rw [if_neg h]; simp [h]
theorem rright_is (x : S44) : icehouseref09_Right.f x.f0 x.f1 x.f2 x.f3 x.f4 x.f5 x.f6 x.f7 = some (rightB (cv x)) := by
  unfold icehouseref09_Right.f rightB cv
  simp only [rin_is, Option.bind_some]
  cases inB x.f0 1 <;> simp
  cases inB x.f1 0 <;> simp
  cases inB x.f2 x.f1 <;> simp
  cases inB x.f3 1 <;> simp
  cases inB x.f4 x.f3 <;> simp
  cases inB x.f5 1 <;> simp
  cases inB x.f6 0 <;> simp
  by_cases h : 0 ≤ x.f7
  · simp [h]
  · simp [h]
/-- from a place on the list may be -/
def FineFrom (l : List S44) (i : Nat) : Prop := ∀ q (hq : q < l.length), i ≤ q → rightB (cv l[q]) = true ∧ ∀ p (hp : p < q), l[p].f0 ≠ l[q].f0
theorem fine_l1 (l : List S44) (hl : l.length ≤ 1048576) (i : Nat) (hi : i < l.length) (ih : ∀ b : Bool, (b = true ↔ FineFrom l (i + 1)) → Ev (fun k => icehouseref09_Fine.l0 k l ((i + 1 : Nat) : Int)) b) :
    ∀ (n j : Nat), j + n = i → ∀ b : Bool, (b = true ↔ (∀ p (hp : p < i), j ≤ p → l[p].f0 ≠ l[i].f0) ∧ FineFrom l (i + 1)) → Ev (fun k => icehouseref09_Fine.l1 k l (i : Int) (j : Int)) b
  | 0, j, h, b, hb => by
    refine ev_step (ih b (hb.trans ⟨fun h => h.2, fun h => ⟨fun p hp hj => by omega, h⟩⟩)) (fun k => ?_)
    rw [icehouseref09_Fine.l1, if_neg (by omega), w1 hi hl]
  | n + 1, j, h, b, hb => by
    have hj : j < l.length := by omega
    by_cases he : l[j].f0 = l[i].f0
    · have hbf : b = false := by
        cases b with
        | false => rfl
        | true => exact absurd he ((hb.1 rfl).1 j (by omega) (Nat.le_refl _))
      subst hbf
      refine ev_step (ev_some _) (fun k => ?_)
      rw [icehouseref09_Fine.l1, if_pos (by omega), if_pos (by omega), if_pos (by omega), if_pos (by omega), if_pos (by omega), rd44 hi, rd44 hj, if_pos he]
    · refine ev_step (fine_l1 l hl i hi ih n (j + 1) (by omega) b (hb.trans ⟨fun h => ⟨fun p hp hpj => h.1 p hp (by omega), h.2⟩, fun h => ⟨fun p hp hpj => ?_, h.2⟩⟩)) (fun k => ?_)
      · rcases Nat.eq_or_lt_of_le hpj with rfl | hlt
        · exact he
        · exact h.1 p hp hlt
      · rw [icehouseref09_Fine.l1, if_pos (by omega), if_pos (by omega), if_pos (by omega), if_pos (by omega), if_pos (by omega), rd44 hi, rd44 hj, if_neg he, w1 hj hl]
theorem fine_l0 (l : List S44) (hl : l.length ≤ 1048576) : ∀ (n i : Nat), i + n = l.length → ∀ b : Bool, (b = true ↔ FineFrom l i) → Ev (fun k => icehouseref09_Fine.l0 k l (i : Int)) b
  | 0, i, h, b, hb => by
    have hbt : b = true := hb.2 (fun q hq hiq => by omega)
    subst hbt
    refine ev_step (ev_some _) (fun k => ?_)
    rw [icehouseref09_Fine.l0, if_neg (by omega)]
  | n + 1, i, h, b, hb => by
    have hi : i < l.length := by omega
    have hR := rright_is l[i]
    by_cases hr : rightB (cv l[i]) = true
    · rw [hr] at hR
      refine ev_step (fine_l1 l hl i hi (fine_l0 l hl n (i + 1) (by omega)) i 0 (by omega) b (hb.trans ⟨fun h => ⟨fun p hp _ => (h i hi (Nat.le_refl _)).2 p hp, fun q hq hiq => h q hq (by omega)⟩, fun h q hq hiq => ?_⟩)) (fun k => ?_)
      · rcases Nat.eq_or_lt_of_le hiq with rfl | hlt
        · exact ⟨hr, fun p hp => h.1 p hp (Nat.zero_le _)⟩
        · exact h.2 q hq hlt
      · rw [icehouseref09_Fine.l0, if_pos (by omega), if_pos (by omega), rd44 hi, hR, Option.bind_some, if_pos rfl]
        rfl
    · have hbf : b = false := by
        cases b with
        | false => rfl
        | true => exact absurd (hb.1 rfl i hi (Nat.le_refl _)).1 hr
      subst hbf
      have hr' : rightB (cv l[i]) = false := by simpa using hr
      rw [hr'] at hR
      refine ev_step (ev_some _) (fun k => ?_)
      rw [icehouseref09_Fine.l0, if_pos (by omega), if_pos (by omega), rd44 hi, hR, Option.bind_some, if_neg (by decide)]
theorem fineFrom_iff (l : List S44) : fineB (l.map cv) = true ↔ FineFrom l 0 := by
  rw [fine_iff, List.map_map]
  constructor
  · rintro ⟨h1, h2⟩ q hq _
    refine ⟨h1 _ (List.mem_map.2 ⟨l[q], List.getElem_mem hq, rfl⟩), fun p hp he => ?_⟩
    have h3 := (List.pairwise_iff_getElem.1 h2) p q (by rw [List.length_map]; omega) (by rw [List.length_map]; omega) hp
    apply h3
    simpa [cv] using he
  · intro h
    refine ⟨fun x hx => ?_, List.pairwise_iff_getElem.2 fun p q hp hq hpq => ?_⟩
    · obtain ⟨y, hy, rfl⟩ := List.mem_map.1 hx
      obtain ⟨q, hq, rfl⟩ := List.getElem_of_mem hy
      exact (h q hq (Nat.zero_le _)).1
    · have h3 := (h q (by rw [List.length_map] at hq; exact hq) (Nat.zero_le _)).2 p hpq
      simpa [cv] using h3
theorem fine_is (l : List S44) (hl : l.length ≤ 1048576) : Ev (fun k => icehouseref09_Fine.f k l) (fineB (l.map cv)) := fine_l0 l hl l.length 0 (by omega) _ (fineFrom_iff l)
theorem look_iff (a1 a2 : Int) (x : S44) : lookB a1 a2 (cv x) = true ↔ x.f1 < a2 ∧ a1 ≤ x.f2 := by
  unfold lookB cv
  simp only [Bool.and_eq_true, decide_eq_true_eq]
theorem look_law (l : List S44) (hl : l.length ≤ 1048576) (a1 a2 : Int) (hf : fineB (l.map cv) = true) : ∀ (n i : Nat) (acc : List Int), i + n = l.length → acc.length ≤ i → Ev (fun k => icehouseref09_Look.l0 k l a1 a2 acc (i : Int)) (acc ++ (((l.drop i).map cv).filter (lookB a1 a2)).map (·.f0))
  | 0, i, acc, h, ha => by
    rw [List.drop_of_length_le (by omega)]
    refine ev_step (g := fun k => icehouseref09_Look.j1 k l a1 a2 acc (i : Int) false) ?_ (fun k => by rw [icehouseref09_Look.l0, if_neg (by omega)])
    refine ev_step (ev_some _) (fun k => ?_)
    rw [icehouseref09_Look.j1, if_neg (by decide)]
    simp
  | n + 1, i, acc, h, ha => by
    have hi : i < l.length := by omega
    have hfi := fine_is l hl
    rw [hf] at hfi
    refine ev_step (ev_bind (g2 := fun k t => icehouseref09_Look.j1 k l a1 a2 acc (i : Int) t) hfi ?_) (fun k => by rw [icehouseref09_Look.l0, if_pos (by omega)])
    rw [List.drop_eq_getElem_cons hi, List.map_cons]
    by_cases hp : lookB a1 a2 (cv l[i]) = true
    · rw [List.filter_cons_of_pos hp, List.map_cons]
      have ih := look_law l hl a1 a2 hf n (i + 1) (acc ++ [l[i].f0]) (by omega) (by rw [List.length_append]; simp; omega)
      rw [List.append_assoc] at ih
      refine ev_step ih (fun k => ?_)
      rw [icehouseref09_Look.j1, if_pos rfl, if_pos (by omega), if_pos (by omega), rd44 hi, w1 hi hl]
      have hp' : l[i].f1 < a2 ∧ a1 ≤ l[i].f2 := (look_iff _ _ _).1 hp
      rw [if_pos hp'.1, if_pos hp'.2, if_pos (by omega)]
    · rw [List.filter_cons_of_neg hp]
      have ih := look_law l hl a1 a2 hf n (i + 1) acc (by omega) (by omega)
      refine ev_step ih (fun k => ?_)
      rw [icehouseref09_Look.j1, if_pos rfl, if_pos (by omega), if_pos (by omega), rd44 hi, w1 hi hl]
      have hp' : ¬ (l[i].f1 < a2 ∧ a1 ≤ l[i].f2) := fun h => hp ((look_iff _ _ _).2 h)
      by_cases h1 : l[i].f1 < a2
      · rw [if_pos h1, if_neg (fun h2 => hp' ⟨h1, h2⟩)]
      · rw [if_neg h1]
theorem look_is (l : List S44) (hl : l.length ≤ 1048576) (a1 a2 : Int) : Ev (fun k => icehouseref09_Look.f k l a1 a2) (idsB (l.map cv) (lookB a1 a2)) := by
  by_cases hf : fineB (l.map cv) = true
  · unfold idsB
    rw [if_pos hf]
    have h := look_law l hl a1 a2 hf l.length 0 [] (by omega) (Nat.le_refl _)
    rw [List.nil_append, List.drop_zero] at h
    exact h
  · unfold idsB
    rw [if_neg hf]
    have hff : fineB (l.map cv) = false := by simpa using hf
    have hj : ∀ i : Int, Ev (fun k => icehouseref09_Look.j1 k l a1 a2 [] i false) [] := fun i => ev_step (ev_some _) (fun k => by rw [icehouseref09_Look.j1, if_neg (by decide)])
    show Ev (fun k => icehouseref09_Look.l0 k l a1 a2 [] 0) []
    by_cases h0 : (0 : Int) < l.length
    · have hfi := fine_is l hl
      rw [hff] at hfi
      exact ev_step (ev_bind (g2 := fun k t => icehouseref09_Look.j1 k l a1 a2 [] 0 t) hfi (hj 0)) (fun k => by rw [icehouseref09_Look.l0, if_pos h0])
    · exact ev_step (hj 0) (fun k => by rw [icehouseref09_Look.l0, if_neg h0])
theorem rover_is (x : S44) (keep now : Int) : icehouseref09_over.f x.f0 x.f1 x.f2 x.f3 x.f4 x.f5 x.f6 x.f7 keep now = some (overB keep now (cv x)) := over_is (cv x) keep now
theorem over_law (l : List S44) (hl : l.length ≤ 1048576) (a1 a2 : Int) (hf : fineB (l.map cv) = true) : ∀ (n i : Nat) (acc : List Int), i + n = l.length → acc.length ≤ i → Ev (fun k => icehouseref09_Over.l0 k l a1 a2 acc (i : Int)) (acc ++ (((l.drop i).map cv).filter (overB a1 a2)).map (·.f0))
  | 0, i, acc, h, ha => by
    rw [List.drop_of_length_le (by omega)]
    refine ev_step (g := fun k => icehouseref09_Over.j1 k l a1 a2 acc (i : Int) false) ?_ (fun k => by rw [icehouseref09_Over.l0, if_neg (by omega)])
    refine ev_step (ev_some _) (fun k => ?_)
    rw [icehouseref09_Over.j1, if_neg (by decide)]
    simp
  | n + 1, i, acc, h, ha => by
    have hi : i < l.length := by omega
    have hfi := fine_is l hl
    rw [hf] at hfi
    refine ev_step (ev_bind (g2 := fun k t => icehouseref09_Over.j1 k l a1 a2 acc (i : Int) t) hfi ?_) (fun k => by rw [icehouseref09_Over.l0, if_pos (by omega)])
    rw [List.drop_eq_getElem_cons hi, List.map_cons]
    by_cases hp : overB a1 a2 (cv l[i]) = true
    · rw [List.filter_cons_of_pos hp, List.map_cons]
      have ih := over_law l hl a1 a2 hf n (i + 1) (acc ++ [l[i].f0]) (by omega) (by rw [List.length_append]; simp; omega)
      rw [List.append_assoc] at ih
      refine ev_step ih (fun k => ?_)
      rw [icehouseref09_Over.j1, if_pos rfl, if_pos (by omega), if_pos (by omega), rd44 hi, w1 hi hl]
      rw [rover_is, hp, Option.bind_some, if_pos rfl, if_pos (by omega)]
    · rw [List.filter_cons_of_neg hp]
      have ih := over_law l hl a1 a2 hf n (i + 1) acc (by omega) (by omega)
      refine ev_step ih (fun k => ?_)
      rw [icehouseref09_Over.j1, if_pos rfl, if_pos (by omega), if_pos (by omega), rd44 hi, w1 hi hl]
      have hp' : overB a1 a2 (cv l[i]) = false := by simpa using hp
      rw [rover_is, hp', Option.bind_some, if_neg (by decide)]
theorem over_is (l : List S44) (hl : l.length ≤ 1048576) (a1 a2 : Int) : Ev (fun k => icehouseref09_Over.f k l a1 a2) (idsB (l.map cv) (overB a1 a2)) := by
  by_cases hf : fineB (l.map cv) = true
  · unfold idsB
    rw [if_pos hf]
    have h := over_law l hl a1 a2 hf l.length 0 [] (by omega) (Nat.le_refl _)
    rw [List.nil_append, List.drop_zero] at h
    exact h
  · unfold idsB
    rw [if_neg hf]
    have hff : fineB (l.map cv) = false := by simpa using hf
    have hj : ∀ i : Int, Ev (fun k => icehouseref09_Over.j1 k l a1 a2 [] i false) [] := fun i => ev_step (ev_some _) (fun k => by rw [icehouseref09_Over.j1, if_neg (by decide)])
    show Ev (fun k => icehouseref09_Over.l0 k l a1 a2 [] 0) []
    by_cases h0 : (0 : Int) < l.length
    · have hfi := fine_is l hl
      rw [hff] at hfi
      exact ev_step (ev_bind (g2 := fun k t => icehouseref09_Over.j1 k l a1 a2 [] 0 t) hfi (hj 0)) (fun k => by rw [icehouseref09_Over.l0, if_pos h0])
    · exact ev_step (hj 0) (fun k => by rw [icehouseref09_Over.l0, if_neg h0])
end Go.Proofs.Ytdohacnjngkkiaa.Rl
