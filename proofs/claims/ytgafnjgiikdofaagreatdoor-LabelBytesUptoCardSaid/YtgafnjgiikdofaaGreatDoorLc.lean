/- LabelCompares, LabelOrder: the plain law of Compare. -/
import Derived.Test.YtgafnjgiikdofaaGreatDoorR7
import Derived.Test.YtgafnjgiikdofaaGreatDoorMg
namespace Go.Proofs.YtgafnjgiikdofaaGreatDoor.Lc
set_option linter.unusedVariables false
set_option linter.unusedSimpArgs false
open Go.RowKit Go.Proofs.YtgafnjgiikdofaaGreatDoor.A Go.Proofs.YtgafnjgiikdofaaGreatDoor.R Go.Proofs.YtgafnjgiikdofaaGreatDoor.Sx Go.Proofs.YtgafnjgiikdofaaGreatDoor.Sc
open Go.Proofs.YtgafnjgiikdofaaGreatDoorW.PrintWords Go.Proofs.YtgafnjgiikdofaaGreatDoorW.PrintLast Go.Proofs.YtgafnjgiikdofaaGreatDoorW.PrintMore
theorem cb : ∀ a b : List UInt8, (Op.bytesLess a b = true ∧ Op.bytesLess b a = false ∧ Lib.compareBytes a b = -1) ∨ (Op.bytesLess b a = true ∧ Op.bytesLess a b = false ∧ Lib.compareBytes a b = 1) ∨ (a = b ∧ Op.bytesLess a b = false ∧ Op.bytesLess b a = false ∧ Lib.compareBytes a b = 0)
  | [], [] => by simp [Lib.compareBytes, Op.bytesLess]
  | [], _ :: _ => by simp [Lib.compareBytes, Op.bytesLess]
  | _ :: _, [] => by simp [Lib.compareBytes, Op.bytesLess]
  | a :: xs, b :: ys => by
    have ih := cb xs ys
    unfold Lib.compareBytes Op.bytesLess
    by_cases h1 : a < b
    · have h2 : ¬ b < a := UInt8.lt_asymm h1
      have h3 : ¬ a = b := fun e => by subst e; exact h2 h1
      have h4 : ¬ b = a := fun e => h3 e.symm
      simp [h1, h2, h3, h4]
    · by_cases h2 : b < a
      · have h3 : ¬ a = b := fun e => by subst e; exact h1 h2
        have h4 : ¬ b = a := fun e => h3 e.symm
        simp [h1, h2, h3, h4]
      · have hab : a = b := by
          rw [UInt8.lt_iff_toNat_lt] at h1 h2
          exact UInt8.toNat_inj.1 (by omega)
        subst hab
        simpa [h1] using ih
/-- an order in three values -/
structure Good {α : Type} (c : α → α → Int) : Prop where
  val : ∀ x y, c x y = -1 ∨ c x y = 1 ∨ c x y = 0
  anti : ∀ x y, c y x = -(c x y)
  zero : ∀ x y, c x y = 0 → x = y
  refl : ∀ x, c x x = 0
  tr : ∀ x y z, c x y = -1 → c y z = -1 → c x z = -1
theorem good_bytes : Good Lib.compareBytes := by
  have hr : ∀ x : List UInt8, Lib.compareBytes x x = 0 := fun x => by
    rcases cb x x with h | h | h
    · rw [h.1] at h; simp at h
    · rw [h.1] at h; simp at h
    · exact h.2.2.2
  refine ⟨fun x y => ?_, fun x y => ?_, fun x y h => ?_, hr, fun x y z h1 h2 => ?_⟩
  · rcases cb x y with h | h | h
    · exact .inl h.2.2
    · exact .inr (.inl h.2.2)
    · exact .inr (.inr h.2.2.2)
  · rcases cb x y with h | h | h
    · rcases cb y x with g | g | g
      · rw [h.2.1] at g; simp at g
      · rw [h.2.2, g.2.2]; rfl
      · rw [h.1] at g; simp at g
    · rcases cb y x with g | g | g
      · rw [h.2.2, g.2.2]
      · rw [h.2.1] at g; simp at g
      · rw [h.1] at g; simp at g
    · rw [h.1, hr]; rfl
  · rcases cb x y with g | g | g
    · rw [h] at g; simp at g
    · rw [h] at g; simp at g
    · exact g.1
  · rcases cb x y with g | g | g
    · rcases cb y z with j | j | j
      · have := Sy.bl_trans x y z g.1 j.1
        rcases cb x z with m | m | m
        · exact m.2.2
        · rw [this] at m; simp at m
        · rw [this] at m; simp at m
      · rw [h2] at j; simp at j
      · rw [h2] at j; simp at j
    · rw [h1] at g; simp at g
    · rw [h1] at g; simp at g
theorem ext47 (x y : S47) (h0 : x.f0 = y.f0) (h1 : x.f1 = y.f1) : x = y := by cases x; cases y; simp_all
theorem bs_inj {a b : ByteArray} (h : a.data.toList = b.data.toList) : a = b := by
  cases a; cases b; simp at h; simp [h]
theorem good_cf : Good cfL := by
  have G := good_bytes
  refine ⟨fun x y => ?_, fun x y => ?_, fun x y h => ?_, fun x => ?_, fun x y z h1 h2 => ?_⟩
  · unfold cfL orI; split
    · exact G.val _ _
    · exact G.val _ _
  · unfold cfL orI
    rw [G.anti x.f0.data.toList y.f0.data.toList, G.anti x.f1.data.toList y.f1.data.toList]
    split
    · rw [if_pos (by omega)]
    · rw [if_neg (by omega)]
  · unfold cfL orI at h
    split at h
    · rename_i h0
      exact ext47 x y (bs_inj (G.zero _ _ h0)) (bs_inj (G.zero _ _ h))
    · rename_i h0; exact absurd h h0
  · unfold cfL orI
    rw [if_pos (G.refl _)]; exact G.refl _
  · unfold cfL orI at h1 h2 ⊢
    split at h1
    · rename_i h0
      have e0 := G.zero _ _ h0
      rw [e0]
      split at h2
      · rename_i g0
        rw [if_pos g0]
        exact G.tr _ _ _ h1 h2
      · rename_i g0
        rw [if_neg g0]
        exact h2
    · rename_i h0
      split at h2
      · rename_i g0
        have e0 := G.zero _ _ g0
        rw [← e0, if_neg h0]
        exact h1
      · have := G.tr _ _ _ h1 h2
        rw [if_neg (by omega)]
        exact this
theorem good_ll : Good cmpLL := by
  have G := good_cf
  refine ⟨?_, ?_, ?_, ?_, ?_⟩
  · intro x
    induction x with
    | nil => intro y; cases y <;> simp [cmpLL]
    | cons a x ih =>
      intro y
      cases y with
      | nil => simp [cmpLL]
      | cons b y =>
        unfold cmpLL
        split
        · exact ih y
        · exact G.val _ _
  · intro x
    induction x with
    | nil => intro y; cases y <;> simp [cmpLL]
    | cons a x ih =>
      intro y
      cases y with
      | nil => simp [cmpLL]
      | cons b y =>
        have ha := G.anti a b
        unfold cmpLL
        by_cases h : cfL a b = 0
        · rw [if_pos h, if_pos (by omega)]
          exact ih y
        · rw [if_neg h, if_neg (by omega)]
          exact ha
  · intro x
    induction x with
    | nil => intro y; cases y <;> simp [cmpLL]
    | cons a x ih =>
      intro y h
      cases y with
      | nil => simp [cmpLL] at h
      | cons b y =>
        unfold cmpLL at h
        split at h
        · rename_i h0
          rw [G.zero _ _ h0, ih y h]
        · rename_i h0; exact absurd h h0
  · intro x
    induction x with
    | nil => rfl
    | cons a x ih => unfold cmpLL; rw [if_pos (G.refl a)]; exact ih
  · intro x
    induction x with
    | nil =>
      intro y z h1 h2
      cases z with
      | nil => cases y <;> simp [cmpLL] at h1 h2
      | cons c z => rfl
    | cons a x ih =>
      intro y z h1 h2
      cases y with
      | nil => simp [cmpLL] at h1
      | cons b y =>
        cases z with
        | nil => simp [cmpLL] at h2
        | cons c z =>
          unfold cmpLL at h1 h2 ⊢
          split at h1
          · rename_i h0
            rw [G.zero _ _ h0]
            split at h2
            · rename_i g0
              rw [if_pos g0]
              exact ih y z h1 h2
            · rename_i g0
              rw [if_neg g0]
              exact h2
          · rename_i h0
            split at h2
            · rename_i g0
              rw [← G.zero _ _ g0, if_neg h0]
              exact h1
            · have := G.tr _ _ _ h1 h2
              rw [if_neg (by omega)]
              exact this
theorem cmp_cons (x y : S47) (xs ys : List S47) : cmpLL (x :: xs) (y :: ys) = if cfL x y = 0 then cmpLL xs ys else cfL x y := rfl
/-- Same -/
theorem same_l (a b : List S47) (ha : a.length < 4398046511104) (hb : a.length = b.length) : ∀ m k i, a.length - i ≤ m → m + 1 ≤ k → i ≤ a.length → icehouselaw02_Same.l0 k a b (i : Int) = some (decide (cmpLL (a.drop i) (b.drop i) = 0)) := by
  intro m
  induction m with
  | zero =>
    intro k i h1 h2 h3
    obtain ⟨k, rfl⟩ : ∃ j, k = j + 1 := ⟨k - 1, by omega⟩
    unfold icehouselaw02_Same.l0
    rw [if_neg (by omega), List.drop_eq_nil_of_le (by omega), List.drop_eq_nil_of_le (by omega)]
    rfl
  | succ m ih =>
    intro k i h1 h2 h3
    obtain ⟨k, rfl⟩ : ∃ j, k = j + 1 := ⟨k - 1, by omega⟩
    unfold icehouselaw02_Same.l0
    by_cases hi : i < a.length
    · have hj : i < b.length := by omega
      have hw : wrap64 ((i : Int) + 1) = ((i + 1 : Nat) : Int) := w64' i (by omega)
      rw [if_pos (by omega), if_pos (by omega), if_pos (by omega), rd_of a i hi, rd_of b i hj, List.drop_eq_getElem_cons hi, List.drop_eq_getElem_cons hj, hw, ih k (i + 1) (by omega) (by omega) (by omega)]
      rw [cmp_cons]
      by_cases h0 : cfL a[i] b[i] = 0
      · have e := good_cf.zero _ _ h0
        rw [if_pos (by rw [e]), if_pos (by rw [e]), if_pos h0]
      · rw [if_neg h0]
        have hf : decide (cfL a[i] b[i] = 0) = false := decide_eq_false h0
        rw [hf]
        by_cases e0 : a[i].f0.toList = b[i].f0.toList
        · by_cases e1 : a[i].f1.toList = b[i].f1.toList
          · exfalso
            rw [Lib.toList_data, Lib.toList_data] at e0 e1
            apply h0
            rw [ext47 _ _ (bs_inj e0) (bs_inj e1)]
            exact good_cf.refl _
          · rw [if_pos e0, if_neg e1]
        · rw [if_neg e0]
    · rw [if_neg (by omega), List.drop_eq_nil_of_le (by omega), List.drop_eq_nil_of_le (by omega)]
      rfl
theorem same_eq (a b : List S47) (k : Nat) (ha : a.length < 4398046511104) (hb : b.length < 4398046511104) (hk : a.length + 1 ≤ k) : icehouselaw02_Same.f k a b = some (decide (cmpLL a b = 0)) := by
  unfold icehouselaw02_Same.f
  by_cases h : a.length = b.length
  · rw [if_pos (by omega)]
    have := same_l a b ha h a.length k 0 (by omega) hk (by omega)
    simpa using this
  · rw [if_neg (by omega)]
    have hne : ¬ cmpLL a b = 0 := fun e => h (by rw [good_ll.zero _ _ e])
    rw [decide_eq_false hne]
theorem own_eq (l : List S47) (h : l.length < 4398046511104) : icehouselaw02_Own.f l = some l := by
  unfold icehouselaw02_Own.f
  simp only [Option.bind_some]
  rw [if_pos (by simpa using h)]
  simp
end Go.Proofs.YtgafnjgiikdofaaGreatDoor.Lc
