/- Right, as the program has it: a plain law. -/
import Derived.Test.YtgafnjgiikdofaaGreatDoorMd
import Derived.Test.YtgafnjgiikdofaaGreatDoorSc
namespace Go.Proofs.YtgafnjgiikdofaaGreatDoor.Lr
set_option linter.unusedVariables false
set_option linter.unusedSimpArgs false
open Go.RowKit Go.Proofs.YtgafnjgiikdofaaGreatDoorW.PrintWords Go.Proofs.YtgafnjgiikdofaaGreatDoorW.PrintLast Go.Proofs.YtgafnjgiikdofaaGreatDoorW.PrintMore
open Go.Proofs.YtgafnjgiikdofaaGreatDoor.A Go.Proofs.YtgafnjgiikdofaaGreatDoor.R Go.Proofs.YtgafnjgiikdofaaGreatDoor.Sn Go.Proofs.YtgafnjgiikdofaaGreatDoor.Sv Go.Proofs.YtgafnjgiikdofaaGreatDoor.Sc
/-- may labels from a place on be? -/
def rightFrom (l : List S47) : Nat → Nat → Bool
  | 0, _ => decide (1 ≤ l.length) && decide (l.length ≤ 16)
  | m + 1, i => nameB (rd_T47 l i).f0 && (valB (rd_T47 l i).f1 && ((decide (i = 0) || Op.bytesLess (rd_T47 l ((i - 1 : Nat) : Int)).f0.toList (rd_T47 l i).f0.toList) && rightFrom l m (i + 1)))
def rightB (l : List S47) : Bool := rightFrom l l.length 0
theorem endR (l : List S47) : (if (l.length : Int) ≥ 1 then some (decide ((l.length : Int) ≤ 16)) else some false) = some (decide (1 ≤ l.length) && decide (l.length ≤ 16)) := by
  by_cases h : 1 ≤ l.length
  · rw [if_pos (by omega), decide_eq_true h]
    simp; omega
  · rw [if_neg (by omega), decide_eq_false h]
    simp
theorem rd_mem (l : List S47) (i : Nat) (h : i < l.length) : rd_T47 l (i : Int) ∈ l := by rw [rd_of l i h]; exact List.getElem_mem h
theorem lright_l (l : List S47) (hl : l.length < 4398046511104) (hf : ∀ x ∈ l, x.f0.size ≤ 17592186044416) : ∀ m k i, i + m = l.length → m + 1 ≤ k → label_Right.l0 k l l (l.length : Int) (i : Int) = some (rightFrom l m i) := by
  intro m
  induction m with
  | zero =>
    intro k i h1 h2
    obtain ⟨k, rfl⟩ : ∃ j, k = j + 1 := ⟨k - 1, by omega⟩
    unfold label_Right.l0
    rw [if_neg (by omega)]
    exact endR l
  | succ m ih =>
    intro k i h1 h2
    obtain ⟨k, rfl⟩ : ∃ j, k = j + 1 := ⟨k - 1, by omega⟩
    have hw : wrap64 ((i : Int) + 1) = ((i + 1 : Nat) : Int) := w64' i (by omega)
    have hn : label_Name.f (rd_T47 l (i : Int)).f0 = some (nameB (rd_T47 l (i : Int)).f0) := if_pos (hf _ (rd_mem l i (by omega)))
    unfold label_Right.l0 rightFrom label_Value.f
    rw [if_pos (by omega), if_pos (by omega), if_pos (by omega), hn, hw, ih k (i + 1) (by omega) (by omega)]
    simp only [Option.bind_some]
    cases nameB (rd_T47 l (i : Int)).f0 with
    | false => simp
    | true =>
      cases valB (rd_T47 l (i : Int)).f1 with
      | false => simp
      | true =>
        by_cases h0 : i = 0
        · subst h0; simp
        · have hv : wrap64 ((i : Int) - 1) = ((i - 1 : Nat) : Int) := by unfold wrap64; omega
          rw [if_pos rfl, if_pos rfl, if_pos (by omega), hv, if_pos (by omega), if_pos (by omega), decide_eq_false h0]
          cases Op.bytesLess (rd_T47 l ((i - 1 : Nat) : Int)).f0.toList (rd_T47 l (i : Int)).f0.toList <;> simp
theorem lright_eq (l : List S47) (k : Nat) (hl : l.length < 4398046511104) (hf : ∀ x ∈ l, x.f0.size ≤ 17592186044416) (hk : l.length + 1 ≤ k) : label_Right.f k l = some (rightB l) :=
  lright_l l hl hf l.length k 0 (by omega) hk
theorem right_ends (l : List S47) : ∀ m i, rightFrom l m i = true → 1 ≤ l.length ∧ l.length ≤ 16 := by
  intro m
  induction m with
  | zero => intro i h; unfold rightFrom at h; simpa using h
  | succ m ih => intro i h; unfold rightFrom at h; simp only [Bool.and_eq_true] at h; exact ih _ h.2.2.2
theorem right_long (l : List S47) (h : 16 < l.length) : rightB l = false := by
  cases hr : rightB l with
  | false => rfl
  | true => have := right_ends l _ _ hr; omega
end Go.Proofs.YtgafnjgiikdofaaGreatDoor.Lr
