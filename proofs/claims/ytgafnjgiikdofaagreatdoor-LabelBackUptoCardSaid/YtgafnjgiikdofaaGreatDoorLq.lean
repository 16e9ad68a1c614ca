/- Parse: the document's and the program's are one law. -/
import Derived.Test.YtgafnjgiikdofaaGreatDoorLp
import Derived.Test.YtgafnjgiikdofaaGreatDoorPa
import Derived.Test.YtgafnjgiikdofaaGreatDoorMh
namespace Go.Proofs.YtgafnjgiikdofaaGreatDoor.Lq
set_option linter.unusedVariables false
set_option linter.unusedSimpArgs false
open Go.RowKit Go.Proofs.YtgafnjgiikdofaaGreatDoorW.PrintWords Go.Proofs.YtgafnjgiikdofaaGreatDoorW.PrintLast Go.Proofs.YtgafnjgiikdofaaGreatDoorW.PrintMore
open Go.Proofs.YtgafnjgiikdofaaGreatDoor.A Go.Proofs.YtgafnjgiikdofaaGreatDoor.R Go.Proofs.YtgafnjgiikdofaaGreatDoor.Sn Go.Proofs.YtgafnjgiikdofaaGreatDoor.So Go.Proofs.YtgafnjgiikdofaaGreatDoor.Sw Go.Proofs.YtgafnjgiikdofaaGreatDoor.Sx Go.Proofs.YtgafnjgiikdofaaGreatDoor.Sy Go.Proofs.YtgafnjgiikdofaaGreatDoor.Sc Go.Proofs.YtgafnjgiikdofaaGreatDoor.Lr Go.Proofs.YtgafnjgiikdofaaGreatDoor.Ut Go.Proofs.YtgafnjgiikdofaaGreatDoor.Uv
def tl (l : List UInt8) : List UInt8 := Lib.trimLeftB l 32
def wch (c : UInt8) : Bool := letB (c.toNat : Int) || digB (c.toNat : Int)
def nm (l : List UInt8) : List UInt8 := l.takeWhile wch
theorem tl_le (l : List UInt8) : (tl l).length ≤ l.length := (List.dropWhile_sublist _).length_le
theorem tl_cons (b : UInt8) (t : List UInt8) : tl (b :: t) = if b = 32 then tl t else b :: t := by
  unfold tl Lib.trimLeftB
  rw [List.dropWhile_cons]
  by_cases h : b = 32 <;> simp [h]
theorem pre_cons (c b : UInt8) (t : List UInt8) : Lib.hasPrefix (b :: t) [c] = (c == b) := by
  unfold Lib.hasPrefix
  simp [List.isPrefixOf]
theorem len_s (s : ByteArray) (i : Nat) : (s.data.toList.drop i).length = s.size - i := by rw [List.length_drop, ← Lib.size_eq]
theorem bt_d (s : ByteArray) (i : Nat) (b : UInt8) (t : List UInt8) (h : s.data.toList.drop i = b :: t) : i < s.size ∧ bt s (i : Int) = (b.toNat : Int) ∧ s.data.toList.drop (i + 1) = t := by
  have h1 : i < s.size := by
    have := congrArg List.length h
    rw [len_s, List.length_cons] at this
    omega
  have h2 := drop_cons s i h1
  rw [h] at h2
  injection h2 with h3 h4
  rw [bt_eq, get!_eq, ← h3]
  exact ⟨h1, rfl, h4.symm⟩
theorem nil_d (s : ByteArray) (i : Nat) (h : s.data.toList.drop i = []) : s.size ≤ i := by
  have := congrArg List.length h
  rw [len_s] at this
  simp at this
  omega
theorem wEnd_l (s : ByteArray) : ∀ m i, s.size - i ≤ m → i ≤ s.size → wEnd s i = i + (nm (s.data.toList.drop i)).length := by
  intro m
  induction m with
  | zero =>
    intro i h1 h2
    rw [wEnd_out s i (by omega), List.drop_eq_nil_of_le (by rw [← Lib.size_eq]; omega)]
    rfl
  | succ m ih =>
    intro i h1 h2
    cases hd : s.data.toList.drop i with
    | nil =>
      have := nil_d s i hd
      rw [wEnd_out s i (by omega)]
      rfl
    | cons b t =>
      obtain ⟨g1, g2, g3⟩ := bt_d s i b t hd
      have hw : wB s i = wch b := by unfold wB wch; rw [g2]
      unfold nm
      rw [List.takeWhile_cons]
      cases h : wch b with
      | true =>
        rw [wEnd_in s i g1 (by rw [hw, h]), ih (i + 1) (by omega) (by omega), g3]
        simp [nm]; omega
      | false =>
        rw [wEnd_out s i (by rw [hw, h]; simp)]
        simp
theorem nm_take (l : List UInt8) : l.take (nm l).length = nm l := by
  have h := List.takeWhile_append_dropWhile (p := wch) (l := l)
  unfold nm
  conv => lhs; arg 2; rw [← h]
  rw [List.take_left' rfl]
/-- a label at the beginning, and what stands behind it -/
def oneL (l : List UInt8) : ByteArray × ByteArray × List UInt8 × Bool :=
  if Lib.hasPrefix (tl (l.drop (nm l).length)) [61] then
    (⟨(nm l).toArray⟩, ⟨(unqT (tl (Lib.trimPrefix (tl (l.drop (nm l).length)) [61]))).1.toArray⟩, tl ((tl (Lib.trimPrefix (tl (l.drop (nm l).length)) [61])).drop (unqT (tl (Lib.trimPrefix (tl (l.drop (nm l).length)) [61]))).2.1), (unqT (tl (Lib.trimPrefix (tl (l.drop (nm l).length)) [61]))).2.2)
  else (⟨(nm l).toArray⟩, ⟨#[]⟩, [], false)
theorem bs_list (l : List UInt8) : (⟨l.toArray⟩ : ByteArray).data.toList = l := rfl
theorem bs_size (l : List UInt8) : (⟨l.toArray⟩ : ByteArray).size = l.length := by rw [Lib.size_eq]
theorem run_nm (s : ByteArray) : ∀ fuel pos, s.size - pos ≤ fuel → runK s fuel pos pos = pos + (nm (s.data.toList.drop pos)).length := by
  intro fuel
  induction fuel with
  | zero =>
    intro pos h
    rw [List.drop_eq_nil_of_le (by rw [← Lib.size_eq]; omega)]
    rfl
  | succ f ih =>
    intro pos h
    cases hd : s.data.toList.drop pos with
    | nil =>
      have := nil_d s pos hd
      rw [runK_end s _ pos _ (by omega)]
      rfl
    | cons b t =>
      obtain ⟨g1, g2, g3⟩ := bt_d s pos b t hd
      have e := bt_i s pos g1
      rw [g2] at e
      have hb : b = s[pos] := UInt8.toNat_inj.1 (Int.ofNat.inj e)
      unfold runK nm
      rw [if_pos g1, List.takeWhile_cons]
      by_cases ha : (s[pos]'g1).toNat < 128
      · rw [decode_ascii s pos g1 ha]
        have hw : wch b = (letB ((s[pos]'g1).toNat : Int) || digB ((s[pos]'g1).toNat : Int)) := by unfold wch; rw [hb]
        simp only
        rw [← hw]
        cases wch b with
        | true =>
          rw [if_pos rfl, if_pos rfl, ih (pos + 1) (by omega), g3]
          simp [nm]; omega
        | false => simp
      · have hf := far ((s[pos]'g1).toNat : Int) (by omega)
        have hg := far ((Utf8.decode s pos).1) (by have := (decode_high s pos g1 (by omega)).1; omega)
        have hw : wch b = false := by unfold wch; rw [hb, hf.1, hf.2]; rfl
        rw [hg.1, hg.2, hw]
        simp
theorem one_eq (l : List UInt8) : oneT ⟨l.toArray⟩ = ((oneL l).1, (oneL l).2.1, ⟨(oneL l).2.2.1.toArray⟩, (oneL l).2.2.2) := by
  have hn : nameLen ⟨l.toArray⟩ = (nm l).length := by
    unfold nameLen
    rw [run_nm _ _ 0 (by omega), bs_list, List.drop_zero]
    omega
  have h1 : (ByteArray.extract ⟨l.toArray⟩ 0 (nm l).length) = (⟨(nm l).toArray⟩ : ByteArray) := by
    refine Lp.bs_inj' ?_
    rw [Lib.extract_data, bs_list, List.drop_zero, Nat.sub_zero, nm_take]
  have h2 : blanksB (ByteArray.extract ⟨l.toArray⟩ (nm l).length (ByteArray.size ⟨l.toArray⟩)) = (⟨(tl (l.drop (nm l).length)).toArray⟩ : ByteArray) := by
    unfold blanksB
    rw [extract_list]
    rfl
  unfold oneT oneL
  rw [hn, h1, h2]
  simp only [bs_list]
  cases hp : Lib.hasPrefix (tl (l.drop (nm l).length)) [61] with
  | false => simp
  | true =>
    simp only [if_true]
    have h3 : blanksB (⟨(Lib.trimPrefix (tl (l.drop (nm l).length)) [61]).toArray⟩ : ByteArray) = (⟨(tl (Lib.trimPrefix (tl (l.drop (nm l).length)) [61])).toArray⟩ : ByteArray) := rfl
    rw [h3]
    simp only [bs_list]
    unfold blanksB
    rw [extract_list]
    rfl
theorem trim_le (l : List UInt8) (c : List UInt8) : (Lib.trimPrefix l c).length ≤ l.length := by
  unfold Lib.trimPrefix
  split
  · rw [List.length_drop]; omega
  · exact Nat.le_refl _
theorem one_rest (l : List UInt8) : (oneL l).2.2.1.length ≤ l.length := by
  unfold oneL
  split
  · simp only
    refine Nat.le_trans (tl_le _) ?_
    rw [List.length_drop]
    refine Nat.le_trans (Nat.sub_le _ _) ?_
    refine Nat.le_trans (tl_le _) (Nat.le_trans (trim_le _ _) (Nat.le_trans (tl_le _) ?_))
    rw [List.length_drop]; omega
  · simp
/-- what is read of the labels: what is left, and the labels; none: they may not be -/
def loopL : Nat → List UInt8 → List S47 → Option (List UInt8 × List S47)
  | 0, _, _ => none
  | m + 1, R, l => if (oneL (tl R)).2.2.2 = true then (if 16 ≤ l.length then none else if Lib.hasPrefix (oneL (tl R)).2.2.1 [44] = true then loopL m (Lib.trimPrefix (oneL (tl R)).2.2.1 [44]) (l ++ [⟨(oneL (tl R)).1, (oneL (tl R)).2.1⟩]) else some (Lib.trimPrefix (oneL (tl R)).2.2.1 [44], l ++ [⟨(oneL (tl R)).1, (oneL (tl R)).2.1⟩])) else none
def finL : Option (List UInt8 × List S47) → Option (List S47 × Int)
  | none => some ([], 30)
  | some (R, l) => if Lib.trimRightB R 32 = [125] then label_Sort.f l else some ([], 30)
theorem lab_end (k : Nat) (R : List UInt8) (l : List S47) (hR : R.length ≤ 17592186044416) : label_Parse.l0 (k + 2) l ⟨R.toArray⟩ true false = finL (some (R, l)) := by
  have ht : strings_TrimRight.f ⟨R.toArray⟩ (⟨#[32]⟩ : ByteArray) = some ⟨(Lib.trimRightB R 32).toArray⟩ := if_pos ⟨rfl, by unfold Fit; rw [bs_size]; exact hR⟩
  rw [label_Parse.l0, if_pos rfl, label_Parse.j1, if_neg (by simp), if_pos rfl, ht]
  simp only [Option.bind_some, finL]
  have e : (⟨(Lib.trimRightB R 32).toArray⟩ : ByteArray).toList = Lib.trimRightB R 32 := by rw [Lib.toList_data]
  rw [e]
  split
  · cases label_Sort.f l <;> rfl
  · rfl
theorem lab_l : ∀ m k R l, R.length ≤ 17592186044416 → l.length ≤ 16 → 17 - l.length ≤ m → 2 * m + 4 ≤ k → label_Parse.l0 k l ⟨R.toArray⟩ true true = finL (loopL m R l) := by
  intro m
  induction m with
  | zero => intro k R l h1 h2 h3; omega
  | succ m ih =>
    intro k R l h1 h2 h3 h4
    obtain ⟨k, rfl⟩ : ∃ j, k = j + 2 := ⟨k - 2, by omega⟩
    have ho : label_one.f ⟨(tl R).toArray⟩ = some (oneT ⟨(tl R).toArray⟩) := if_pos (by unfold Fit; rw [bs_size]; exact Nat.le_trans (tl_le _) h1)
    have hb : label_blanks.f ⟨R.toArray⟩ = some ⟨(tl R).toArray⟩ := rfl
    have g1 : (Lib.trimPrefix (oneL (tl R)).2.2.1 [44]).length ≤ 17592186044416 := Nat.le_trans (trim_le _ _) (Nat.le_trans (one_rest _) (Nat.le_trans (tl_le _) h1))
    rw [label_Parse.l0, if_pos rfl, label_Parse.j1, if_pos rfl, hb]
    simp only [Option.bind_some]
    rw [ho, one_eq]
    simp only [Option.bind_some]
    have hc : strings_CutPrefix.f ⟨(oneL (tl R)).2.2.1.toArray⟩ (⟨#[44]⟩ : ByteArray) = some (⟨(Lib.trimPrefix (oneL (tl R)).2.2.1 [44]).toArray⟩, Lib.hasPrefix (oneL (tl R)).2.2.1 [44]) := rfl
    rw [hc, loopL]
    simp only [Option.bind_some]
    cases (oneL (tl R)).2.2.2 with
    | false => rfl
    | true =>
      rw [if_pos rfl, if_pos rfl]
      by_cases h16 : 16 ≤ l.length
      · rw [if_pos (by omega), if_pos h16]; rfl
      · rw [if_neg (by omega), if_neg h16, if_pos (by omega)]
        cases hp : Lib.hasPrefix (oneL (tl R)).2.2.1 [44] with
        | true =>
          rw [if_pos rfl]
          exact ih k _ _ g1 (by rw [List.length_append, List.length_singleton]; omega) (by rw [List.length_append, List.length_singleton]; omega) (by omega)
        | false =>
          rw [if_neg (by simp)]
          obtain ⟨k, rfl⟩ : ∃ j, k = j + 2 := ⟨k - 2, by omega⟩
          exact lab_end k _ _ g1
end Go.Proofs.YtgafnjgiikdofaaGreatDoor.Lq
