/- A cache as a loop's round knows it, and each call on it. -/
import Derived.Test.YteiejkkgckdihaaPb
import Derived.Test.YteiejkkgckdihaaKn
namespace Go.Proofs.Yteiejkkgckdihaa.Cx
set_option linter.unusedVariables false
open Go.RowKit Go.Proofs.YteiejkkgckdihaaW.PrintWords Go.Proofs.YteiejkkgckdihaaW.PrintLast Go.Proofs.YteiejkkgckdihaaW.PrintMore Go.Proofs.Yteiejkkgckdihaa.Fr Go.Proofs.Yteiejkkgckdihaa.Rg Go.Proofs.Yteiejkkgckdihaa.Rk Go.Proofs.Yteiejkkgckdihaa.Mp Go.Proofs.Yteiejkkgckdihaa.Ca Go.Proofs.Yteiejkkgckdihaa.Dr Go.Proofs.Yteiejkkgckdihaa.Cl Go.Proofs.Yteiejkkgckdihaa.Pe Go.Proofs.Yteiejkkgckdihaa.Pk Go.Proofs.Yteiejkkgckdihaa.Pu Go.Proofs.Yteiejkkgckdihaa.Ge Go.Proofs.Yteiejkkgckdihaa.Dw Go.Proofs.Yteiejkkgckdihaa.Pb Go.Proofs.Yteiejkkgckdihaa.Kn
/-- a cache of the elements L, behind at most k calls, all its blocks from B on -/
def CX (w : World) (c m r B : Nat) (lim : Int) (k : Nat) (hi mi : Int) (L : List Ent) : Prop :=
  ∃ nn, CL w c m r nn lim hi mi L ∧ nn ≤ k ∧ L.length ≤ k ∧ (0 ≤ hi ∧ hi ≤ k) ∧ (0 ≤ mi ∧ mi ≤ k) ∧ ∀ j, Own c m r L j → B ≤ j
theorem CX.below {w w' : World} {c m r B k : Nat} {lim hi mi : Int} {L : List Ent} (h : CX w c m r B lim k hi mi L) (hb : Below w.heap.size w w') : CX w' c m r B lim k hi mi L := by
  obtain ⟨nn, h, r⟩ := h
  exact ⟨nn, h.below hb, r⟩
theorem CX.mono {w : World} {c m r B k k' : Nat} {lim hi mi : Int} {L : List Ent} (h : CX w c m r B lim k hi mi L) (hk : k ≤ k') : CX w c m r B lim k' hi mi L := by
  obtain ⟨nn, h, h1, h2, h3, h4, h5⟩ := h
  exact ⟨nn, h, by omega, by omega, ⟨h3.1, by omega⟩, ⟨h4.1, by omega⟩, h5⟩
/-- the keys -/
theorem CX.keys {w : World} {c m r B k : Nat} {lim hi mi : Int} {L : List Ent} (h : CX w c m r B lim k hi mi L) (hk : k ≤ 1000000) :
    Calls Try.prog 14 #[PT c] w fun e w' => ∃ v, e = .returned v ∧ Kd.R Kd.string 9 w' w.heap.size (fun _ => True) v (keysOf L) ∧ Below w.heap.size w w' := by
  obtain ⟨nn, h, h1, h2, _⟩ := h
  exact keys_is c m r nn lim hi mi L w h (by omega)
theorem CX.used {w : World} {c m r B k : Nat} {lim hi mi : Int} {L : List Ent} (h : CX w c m r B lim k hi mi L) : Calls Try.prog 15 #[PT c] w fun e w' => e = .returned (.int .i64 (Ca.used L)) ∧ w' = w := by
  obtain ⟨nn, h, _⟩ := h
  exact used_is c m r nn lim hi mi L w h
theorem CX.low {w : World} {c m r B k : Nat} {lim hi mi : Int} {L : List Ent} (h : CX w c m r B lim k hi mi L) : (Ca.used L : Int) ≤ lim := by
  obtain ⟨nn, h, _⟩ := h
  exact h.low.2.2
theorem CX.apart {w : World} {c m r B k : Nat} {lim hi mi : Int} {L : List Ent} (h : CX w c m r B lim k hi mi L) : (L.map (·.key)).Nodup := by
  obtain ⟨nn, h, _⟩ := h
  exact h.keys
theorem CX.own_lt {w : World} {c m r B k : Nat} {lim hi mi : Int} {L : List Ent} (h : CX w c m r B lim k hi mi L) {j : Nat} (hj : Own c m r L j) : j < w.heap.size := by
  obtain ⟨nn, h, _⟩ := h
  exact h.own_lt hj
theorem evict_sub {lim : Int} {sz : Nat} : ∀ {L : List Ent}, ∀ x ∈ evict lim sz L, x ∈ L
  | [], x, h => by simp [evict] at h
  | y :: L, x, h => by
    unfold evict at h
    split at h
    · exact List.mem_cons_of_mem _ (evict_sub x h)
    · exact h
theorem evict_len (lim : Int) (sz : Nat) : ∀ L : List Ent, (evict lim sz L).length ≤ L.length
  | [] => by simp [evict]
  | y :: L => by
    unfold evict
    split
    · have := evict_len lim sz L
      simp only [List.length_cons]
      omega
    · simp
theorem but_len (s : ByteArray) (L : List Ent) : (but s L).length ≤ L.length := List.length_filter_le _ _
theorem CX.put {w : World} {c m r B k : Nat} {lim hi mi : Int} {L : List Ent} (h : CX w c m r B lim k hi mi L) (hk : k ≤ 1000000) (hB : B ≤ w.heap.size) (s : ByteArray) (A : Option Addr) (cc : Nat) (xs : List Int) (hs : s.size + xs.length ≤ 9223372036854775807)
    (hC : (Kd.int .u8).C w A xs.length xs) (hc : xs.length ≤ cc) (hl : xs.length ≤ 140737488351232) :
    Calls Try.prog 10 #[PT c, .string s, .slice A xs.length cc] w fun e w' =>
      (e = .returned (.int .i64 6) ∧ lim < (s.size : Int) + xs.length ∧ CX w' c m r B lim k hi mi L ∧ Below w.heap.size w w') ∨
      (e = .returned (.int .i64 0) ∧ ¬ lim < (s.size : Int) + xs.length ∧ ∃ x : Ent, x.key = s ∧ x.val = xs ∧ w.heap.size ≤ x.b ∧ CX w' c m r B lim (k + 1) hi mi (evict lim (s.size + xs.length) (but s L) ++ [x]) ∧ Fr (Own c m r L) w w') := by
  obtain ⟨nn, h, h1, h2, h3, h4, h5⟩ := h
  by_cases hbig : lim < (s.size : Int) + xs.length
  · refine (put_big c m r nn lim hi mi L s A cc xs w h hs hbig hC hc hl).mono ?_
    rintro e w' ⟨rfl, hb⟩
    exact .inl ⟨rfl, hbig, ⟨nn, h.below hb, h1, h2, h3, h4, h5⟩, hb⟩
  · refine (put_walk c m r nn lim hi mi L s A cc xs w h (by simp only [maxLen]; omega) hs hbig hC hc hl).mono ?_
    rintro e w' ⟨rfl, x, k1, v1, g1, hh, hf⟩
    refine .inr ⟨rfl, hbig, x, k1, v1, g1, ⟨nn + 1, hh, by omega, ?_, ⟨h3.1, by omega⟩, ⟨h4.1, by omega⟩, ?_⟩, hf⟩
    · have e1 := evict_len lim (s.size + xs.length) (but s L)
      have e2 := but_len s L
      simp only [List.length_append, List.length_cons, List.length_nil]
      omega
    · intro j hj
      rcases hj with hj | hj | hj | ⟨y, hy, hj⟩
      · exact h5 j (.inl hj)
      · exact h5 j (.inr (.inl hj))
      · exact h5 j (.inr (.inr (.inl hj)))
      · rcases List.mem_append.1 hy with hy | hy
        · exact h5 j (.inr (.inr (.inr ⟨y, (List.mem_filter.1 (evict_sub y hy)).1, hj⟩)))
        · simp at hy
          subst hy
          omega
theorem CX.drop {w : World} {c m r B k : Nat} {lim hi mi : Int} {L : List Ent} (h : CX w c m r B lim k hi mi L) (s : ByteArray) (hs : s.size ≤ maxLen) :
    Calls Try.prog 13 #[PT c, .string s] w fun e w' => e = .returned (.bool (lookE L s).isSome) ∧ CX w' c m r B lim k hi mi (but s L) ∧ Fr (Own c m r L) w w' := by
  obtain ⟨nn, h, h1, h2, h3, h4, h5⟩ := h
  refine (drop_any c m r nn lim hi mi L s w h hs).mono ?_
  rintro e w' ⟨rfl, hh, hf⟩
  exact ⟨rfl, ⟨nn, hh, h1, Nat.le_trans (but_len s L) h2, h3, h4, fun j hj => h5 j (own_but hj)⟩, hf⟩
/-- a look: what it finds is the element's value -/
theorem CX.peek {w : World} {c m r B k : Nat} {lim hi mi : Int} {L : List Ent} (h : CX w c m r B lim k hi mi L) (s : ByteArray) (hs : s.size ≤ maxLen) :
    Calls Try.prog 11 #[PT c, .string s] w fun e w' => ∃ v xs, e = .returned (.tuple #[v, .bool (lookE L s).isSome]) ∧ (Kd.int .u8).R 5 w' w.heap.size (fun _ => True) v xs ∧ Below w.heap.size w w' ∧ ((lookE L s = none ∧ xs = []) ∨ ∃ x ∈ L, x.key = s ∧ xs = x.val) := by
  obtain ⟨nn, h, _⟩ := h
  cases hl : lookE L s with
  | none =>
    refine (peek_miss c m r nn lim hi mi L s w h hs hl).mono ?_
    rintro e w' ⟨rfl, rfl⟩
    exact ⟨_, [], rfl, Kd.R_nil _ _ _ _ _, Below.refl _ _, .inl ⟨rfl, rfl⟩⟩
  | some b =>
    obtain ⟨X, n, Y, rfl, rfl, rfl, hX⟩ := look_split hl
    refine (peek_hit c m r nn lim hi mi X Y n w h).mono ?_
    rintro e w' ⟨v, rfl, hR, hb⟩
    exact ⟨v, n.val, rfl, hR, hb, .inr ⟨n, by simp, rfl, rfl⟩⟩
/-- an element goes to the end -/
def last (s : ByteArray) (L : List Ent) : List Ent := but s L ++ L.filter (fun x => decide (x.key = s))
theorem CX.get {w : World} {c m r B k : Nat} {lim hi mi : Int} {L : List Ent} (h : CX w c m r B lim k hi mi L) (hk : k ≤ 1000000) (s : ByteArray) (hs : s.size ≤ maxLen) :
    Calls Try.prog 12 #[PT c, .string s] w fun e w' =>
      (lookE L s = none ∧ e = .returned (.tuple #[.slice none 0 0, .bool false]) ∧ CX w' c m r B lim (k + 1) hi (mi + 1) L ∧ Fr (Own c m r L) w w') ∨
      (∃ X n Y v, L = X ++ n :: Y ∧ n.key = s ∧ e = .returned (.tuple #[v, .bool true]) ∧ (Kd.int .u8).R 5 w' w.heap.size (fun _ => True) v n.val ∧ CX w' c m r B lim (k + 1) (hi + 1) mi (X ++ Y ++ [n]) ∧ Fr (Own c m r L) w w') := by
  obtain ⟨nn, h, h1, h2, h3, h4, h5⟩ := h
  cases hl : lookE L s with
  | none =>
    refine (get_miss c m r nn lim hi mi L s w h hs hl (by omega)).mono ?_
    rintro e w' ⟨rfl, hh, hf⟩
    exact .inl ⟨rfl, rfl, ⟨nn, hh, by omega, by omega, ⟨h3.1, by omega⟩, ⟨by omega, by omega⟩, h5⟩, hf.mono (fun j hj => .inl hj)⟩
  | some b =>
    obtain ⟨X, n, Y, rfl, rfl, rfl, hX⟩ := look_split hl
    refine (get_hit c m r nn lim hi mi X Y n w h (by omega)).mono ?_
    rintro e w' ⟨v, rfl, hR, hh, hf⟩
    refine .inr ⟨X, n, Y, v, rfl, rfl, rfl, hR, ⟨nn, hh, by omega, ?_, ⟨by omega, by omega⟩, ⟨h4.1, by omega⟩, fun j hj => h5 j (Tu.own_turn hj)⟩, hf⟩
    simp at h2 ⊢
    omega
end Go.Proofs.Yteiejkkgckdihaa.Cx
