/- Names, values and Right: the document's and the program's are one law. -/
import Derived.Test.YtgafnjgiikdofaaGreatDoorWo
import Derived.Test.YtgafnjgiikdofaaGreatDoorLe
import Derived.Test.YtgafnjgiikdofaaGreatDoorA5
import Derived.Test.YtgafnjgiikdofaaGreatDoorMd
import Derived.Test.YtgafnjgiikdofaaGreatDoorSc
import Derived.Test.YtgafnjgiikdofaaGreatDoorMe
namespace Go.Proofs.YtgafnjgiikdofaaGreatDoor.Lr
set_option linter.unusedVariables false
set_option linter.unusedSimpArgs false
open Go.RowKit Go.Proofs.YtgafnjgiikdofaaGreatDoorW.PrintWords Go.Proofs.YtgafnjgiikdofaaGreatDoorW.PrintLast Go.Proofs.YtgafnjgiikdofaaGreatDoorW.PrintMore
open Go.Proofs.YtgafnjgiikdofaaGreatDoor.A Go.Proofs.YtgafnjgiikdofaaGreatDoor.R Go.Proofs.YtgafnjgiikdofaaGreatDoor.Sn Go.Proofs.YtgafnjgiikdofaaGreatDoor.Sv Go.Proofs.YtgafnjgiikdofaaGreatDoor.Sc
theorem bt_i (s : ByteArray) (i : Nat) (h : i < s.size) : bt s (i : Int) = ((s[i]'h).toNat : Int) := by
  unfold bt; rw [dif_pos (by simpa using h)]; rfl
theorem far (c : Int) (h : 128 ≤ c) : letB c = false ∧ digB c = false := by
  constructor
  · unfold letB
    rw [decide_eq_false (show ¬ c ≤ 122 by omega), decide_eq_false (show ¬ c ≤ 90 by omega)]
    simp; omega
  · unfold digB
    rw [decide_eq_false (show ¬ c ≤ 57 by omega)]
    simp
theorem name_l (s : ByteArray) (hs : s.size ≤ 17592186044416) : ∀ m k fuel i, s.size - i ≤ m → m + 1 ≤ k → m ≤ fuel → icehouseref02_Name.l0 k s (i : Int) = some (nameFrom s fuel i && (decide (1 ≤ s.size) && decide (s.size ≤ 64))) := by
  intro m
  induction m with
  | zero =>
    intro k fuel i h1 h2 h3
    obtain ⟨k, rfl⟩ : ∃ j, k = j + 1 := ⟨k - 1, by omega⟩
    rw [nameFrom_end s fuel i (by omega)]
    unfold icehouseref02_Name.l0
    rw [if_neg (by omega)]
    by_cases h : 1 ≤ s.size
    · rw [if_pos (by omega), decide_eq_true h]
      simp; omega
    · rw [if_neg (by omega), decide_eq_false h]
      simp
  | succ m ih =>
    intro k fuel i h1 h2 h3
    obtain ⟨k, rfl⟩ : ∃ j, k = j + 1 := ⟨k - 1, by omega⟩
    obtain ⟨fuel, rfl⟩ : ∃ j, fuel = j + 1 := ⟨fuel - 1, by omega⟩
    by_cases hi : i < s.size
    · have hw : wrap64 ((i : Int) + 1) = ((i + 1 : Nat) : Int) := w64' i (by omega)
      unfold icehouseref02_Name.l0 nameFrom
      rw [if_pos (by omega), if_pos (by omega), if_pos hi, let_is, hw, dig_is, bt_i s i hi]
      simp only [Option.bind_some]
      by_cases ha : (s[i]'hi).toNat < 128
      · rw [decode_ascii s i hi ha, ih k fuel (i + 1) (by omega) (by omega) (by omega)]
        cases hl : letB ((s[i]'hi).toNat : Int) with
        | true => simp
        | false =>
          by_cases h0 : i = 0
          · subst h0
            simp
          · rw [if_neg (by simp), if_neg (by omega)]
            cases hd : digB ((s[i]'hi).toNat : Int) with
            | true => simp [h0]
            | false => simp [h0]
      · have hf := far ((s[i]'hi).toNat : Int) (by omega)
        have hg := far ((Utf8.decode s i).1) (by have := (decode_high s i hi (by omega)).1; omega)
        rw [hf.1, hf.2, hg.1, hg.2]
        by_cases h0 : i = 0
        · subst h0; simp
        · simp
    · rw [nameFrom_end s (fuel + 1) i hi]
      unfold icehouseref02_Name.l0
      rw [if_neg (by omega)]
      by_cases h : 1 ≤ s.size
      · rw [if_pos (by omega), decide_eq_true h]
        simp; omega
      · rw [if_neg (by omega), decide_eq_false h]
        simp
theorem name_eq (s : ByteArray) (k : Nat) (hs : s.size ≤ 17592186044416) (hk : s.size + 1 ≤ k) : icehouseref02_Name.f k s = some (nameB s) :=
  name_l s hs s.size k s.size 0 (by omega) hk (Nat.le_refl _)
theorem value_eq (s : ByteArray) (k : Nat) (hk : s.size + 9 ≤ k) : icehouseref02_Value.f k s = some (valB s) := by
  unfold icehouseref02_Value.f valB
  by_cases h1 : 1 ≤ s.size
  · by_cases h2 : s.size ≤ 128
    · rw [if_pos (by omega), if_pos (by omega), Ut.good_f k s hk, decide_eq_true h1, decide_eq_true h2]
      simp
    · rw [if_pos (by omega), if_neg (by omega), decide_eq_false h2]
      simp
  · rw [if_neg (by omega), decide_eq_false h1]
    simp
theorem rright_l (l : List S47) (B : Nat) (hB : B ≤ 17592186044416) (hl : l.length < 4398046511104) (hf : ∀ x ∈ l, x.f0.size ≤ B ∧ x.f1.size ≤ B) : ∀ m k i, i + m = l.length → m + B + 10 ≤ k → icehouseref02_Right.l0 k l (i : Int) = some (rightFrom l m i) := by
  intro m
  induction m with
  | zero =>
    intro k i h1 h2
    obtain ⟨k, rfl⟩ : ∃ j, k = j + 1 := ⟨k - 1, by omega⟩
    unfold icehouseref02_Right.l0
    rw [if_neg (by omega)]
    exact endR l
  | succ m ih =>
    intro k i h1 h2
    obtain ⟨k, rfl⟩ : ∃ j, k = j + 1 := ⟨k - 1, by omega⟩
    have hw : wrap64 ((i : Int) + 1) = ((i + 1 : Nat) : Int) := w64' i (by omega)
    have hm := hf _ (rd_mem l i (by omega))
    have hn := name_eq (rd_T47 l (i : Int)).f0 k (by omega) (by omega)
    have hv1 := value_eq (rd_T47 l (i : Int)).f1 k (by omega)
    unfold icehouseref02_Right.l0 rightFrom
    rw [if_pos (by omega), if_pos (by omega), hn, hv1, hw, ih k (i + 1) (by omega) (by omega)]
    simp only [Option.bind_some]
    cases nameB (rd_T47 l (i : Int)).f0 with
    | false => simp
    | true =>
      cases valB (rd_T47 l (i : Int)).f1 with
      | false => simp
      | true =>
        by_cases h0 : i = 0
        · subst h0; simp
        · have hv : wrap64 ((i : Int) - 1) = ((i - 1 : Nat) : Int) := by unfold wrap64; omega
          rw [if_pos rfl, if_pos rfl, if_pos (by omega), hv, if_pos (by omega), if_pos (by omega), decide_eq_false h0]
          cases Op.bytesLess (rd_T47 l ((i - 1 : Nat) : Int)).f0.toList (rd_T47 l (i : Int)).f0.toList <;> simp
theorem rright_eq (l : List S47) (k B : Nat) (hB : B ≤ 17592186044416) (hl : l.length < 4398046511104) (hf : ∀ x ∈ l, x.f0.size ≤ B ∧ x.f1.size ≤ B) (hk : l.length + B + 10 ≤ k) : icehouseref02_Right.f k l = some (rightB l) :=
  rright_l l B hB hl hf l.length k 0 (by omega) hk
end Go.Proofs.YtgafnjgiikdofaaGreatDoor.Lr
