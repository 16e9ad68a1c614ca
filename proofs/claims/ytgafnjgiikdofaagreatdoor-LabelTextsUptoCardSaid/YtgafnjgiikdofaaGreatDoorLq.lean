/- Parse: the document's and the program's are one law. -/
import Derived.Test.YtgafnjgiikdofaaGreatDoorLp
import Derived.Test.YtgafnjgiikdofaaGreatDoorPa
import Derived.Test.YtgafnjgiikdofaaGreatDoorMh
namespace Go.Proofs.YtgafnjgiikdofaaGreatDoor.Lq
set_option linter.unusedVariables false
set_option linter.unusedSimpArgs false
open Go.RowKit Go.Proofs.YtgafnjgiikdofaaGreatDoorW.PrintWords Go.Proofs.YtgafnjgiikdofaaGreatDoorW.PrintLast Go.Proofs.YtgafnjgiikdofaaGreatDoorW.PrintMore
open Go.Proofs.YtgafnjgiikdofaaGreatDoor.A Go.Proofs.YtgafnjgiikdofaaGreatDoor.R Go.Proofs.YtgafnjgiikdofaaGreatDoor.Sn Go.Proofs.YtgafnjgiikdofaaGreatDoor.So Go.Proofs.YtgafnjgiikdofaaGreatDoor.Sw Go.Proofs.YtgafnjgiikdofaaGreatDoor.Sx Go.Proofs.YtgafnjgiikdofaaGreatDoor.Sy Go.Proofs.YtgafnjgiikdofaaGreatDoor.Sc Go.Proofs.YtgafnjgiikdofaaGreatDoor.Lr Go.Proofs.YtgafnjgiikdofaaGreatDoor.Ut Go.Proofs.YtgafnjgiikdofaaGreatDoor.Uv
def tl (l : List UInt8) : List UInt8 := Lib.trimLeftB l 32
def wch (c : UInt8) : Bool := letB (c.toNat : Int) || digB (c.toNat : Int)
def nm (l : List UInt8) : List UInt8 := l.takeWhile wch
theorem tl_le (l : List UInt8) : (tl l).length ≤ l.length := (List.dropWhile_sublist _).length_le
theorem tl_cons (b : UInt8) (t : List UInt8) : tl (b :: t) = if b = 32 then tl t else b :: t := by
  unfold tl Lib.trimLeftB
  rw [List.dropWhile_cons]
  by_cases h : b = 32 <;> simp [h]
theorem pre_cons (c b : UInt8) (t : List UInt8) : Lib.hasPrefix (b :: t) [c] = (c == b) := by
  unfold Lib.hasPrefix
  simp [List.isPrefixOf]
theorem pre_nil (c : UInt8) : Lib.hasPrefix [] [c] = false := rfl
theorem len_s (s : ByteArray) (i : Nat) : (s.data.toList.drop i).length = s.size - i := by rw [List.length_drop, ← Lib.size_eq]
theorem bt_d (s : ByteArray) (i : Nat) (b : UInt8) (t : List UInt8) (h : s.data.toList.drop i = b :: t) : i < s.size ∧ bt s (i : Int) = (b.toNat : Int) ∧ s.data.toList.drop (i + 1) = t := by
  have h1 : i < s.size := by
    have := congrArg List.length h
    rw [len_s, List.length_cons] at this
    omega
  have h2 := drop_cons s i h1
  rw [h] at h2
  injection h2 with h3 h4
  rw [bt_eq, get!_eq, ← h3]
  exact ⟨h1, rfl, h4.symm⟩
theorem nil_d (s : ByteArray) (i : Nat) (h : s.data.toList.drop i = []) : s.size ≤ i := by
  have := congrArg List.length h
  rw [len_s] at this
  simp at this
  omega
theorem blanks_l (s : ByteArray) (hs : s.size ≤ 17592186044416) : ∀ m k i, s.size - i ≤ m → m + 1 ≤ k → i ≤ s.size → ∃ j, j ≤ s.size ∧ s.data.toList.drop j = tl (s.data.toList.drop i) ∧ icehouseref02_Scan_Blanks.f k s (i : Int) = some (s, (j : Int)) := by
  intro m
  induction m with
  | zero =>
    intro k i h1 h2 h3
    obtain ⟨k, rfl⟩ : ∃ j, k = j + 1 := ⟨k - 1, by omega⟩
    refine ⟨i, h3, ?_, ?_⟩
    · rw [List.drop_eq_nil_of_le (by rw [← Lib.size_eq]; omega)]; rfl
    · unfold icehouseref02_Scan_Blanks.f icehouseref02_Scan_Blanks.l0
      rw [if_neg (by omega)]
  | succ m ih =>
    intro k i h1 h2 h3
    obtain ⟨k, rfl⟩ : ∃ j, k = j + 1 := ⟨k - 1, by omega⟩
    cases hd : s.data.toList.drop i with
    | nil =>
      have := nil_d s i hd
      refine ⟨i, h3, by rw [hd]; rfl, ?_⟩
      unfold icehouseref02_Scan_Blanks.f icehouseref02_Scan_Blanks.l0
      rw [if_neg (by omega)]
    | cons b t =>
      obtain ⟨g1, g2, g3⟩ := bt_d s i b t hd
      unfold icehouseref02_Scan_Blanks.f icehouseref02_Scan_Blanks.l0
      rw [if_pos (by omega), if_pos (by omega), g2]
      by_cases hb : b = 32
      · subst hb
        rw [if_pos (by rfl), w64' i (by omega)]
        obtain ⟨j, e1, e2, e3⟩ := ih k (i + 1) (by omega) (by omega) (by omega)
        exact ⟨j, e1, by rw [e2, g3, tl_cons, if_pos rfl], e3⟩
      · rw [if_neg (fun h => hb (UInt8.toNat_inj.1 (by simpa using Int.ofNat.inj h)))]
        exact ⟨i, h3, by rw [hd, tl_cons, if_neg hb], rfl⟩
theorem blanks_eq (s : ByteArray) (k : Nat) (hs : s.size ≤ 17592186044416) (hk : s.size + 1 ≤ k) (i : Nat) (h3 : i ≤ s.size) : ∃ j, j ≤ s.size ∧ s.data.toList.drop j = tl (s.data.toList.drop i) ∧ icehouseref02_Scan_Blanks.f k s (i : Int) = some (s, (j : Int)) :=
  blanks_l s hs s.size k i (by omega) hk h3
theorem is_eq (s : ByteArray) (hs : s.size ≤ 17592186044416) (i : Nat) (h3 : i ≤ s.size) (c : UInt8) : ∃ j, j ≤ s.size ∧ s.data.toList.drop j = Lib.trimPrefix (s.data.toList.drop i) [c] ∧ icehouseref02_Scan_Is.f s (i : Int) (c.toNat : Int) = some (Lib.hasPrefix (s.data.toList.drop i) [c], s, (j : Int)) := by
  cases hd : s.data.toList.drop i with
  | nil =>
    have := nil_d s i hd
    refine ⟨i, h3, by rw [hd]; rfl, ?_⟩
    unfold icehouseref02_Scan_Is.f
    rw [if_neg (by omega)]
    rfl
  | cons b t =>
    obtain ⟨g1, g2, g3⟩ := bt_d s i b t hd
    unfold icehouseref02_Scan_Is.f
    rw [if_pos (by omega), if_pos (by omega), g2, pre_cons]
    by_cases hb : b = c
    · subst hb
      rw [if_pos rfl, w64' i (by omega)]
      refine ⟨i + 1, by omega, ?_, by simp⟩
      unfold Lib.trimPrefix
      rw [pre_cons, if_pos (by simp), g3]; simp
    · rw [if_neg (fun h => hb (UInt8.toNat_inj.1 (by simpa using Int.ofNat.inj h)))]
      refine ⟨i, h3, ?_, ?_⟩
      · unfold Lib.trimPrefix
        rw [pre_cons, if_neg (by simpa using Ne.symm hb), hd]
      · rw [show (c == b) = false from by simpa using Ne.symm hb]
theorem wEnd_l (s : ByteArray) : ∀ m i, s.size - i ≤ m → i ≤ s.size → wEnd s i = i + (nm (s.data.toList.drop i)).length := by
  intro m
  induction m with
  | zero =>
    intro i h1 h2
    rw [wEnd_out s i (by omega), List.drop_eq_nil_of_le (by rw [← Lib.size_eq]; omega)]
    rfl
  | succ m ih =>
    intro i h1 h2
    cases hd : s.data.toList.drop i with
    | nil =>
      have := nil_d s i hd
      rw [wEnd_out s i (by omega)]
      rfl
    | cons b t =>
      obtain ⟨g1, g2, g3⟩ := bt_d s i b t hd
      have hw : wB s i = wch b := by unfold wB wch; rw [g2]
      unfold nm
      rw [List.takeWhile_cons]
      cases h : wch b with
      | true =>
        rw [wEnd_in s i g1 (by rw [hw, h]), ih (i + 1) (by omega) (by omega), g3]
        simp [nm]; omega
      | false =>
        rw [wEnd_out s i (by rw [hw, h]; simp)]
        simp
theorem nm_le (l : List UInt8) : (nm l).length ≤ l.length := (List.takeWhile_sublist _).length_le
theorem nm_take (l : List UInt8) : l.take (nm l).length = nm l := by
  have h := List.takeWhile_append_dropWhile (p := wch) (l := l)
  unfold nm
  conv => lhs; arg 2; rw [← h]
  rw [List.take_left' rfl]
theorem word_eq (s : ByteArray) (hs : s.size ≤ 17592186044416) (i : Nat) (h3 : i ≤ s.size) : ∃ j, j ≤ s.size ∧ s.data.toList.drop j = (s.data.toList.drop i).drop (nm (s.data.toList.drop i)).length ∧ icehouseref02_Scan_Word.f s (i : Int) = some (⟨(nm (s.data.toList.drop i)).toArray⟩, s, (j : Int)) := by
  have h := wEnd_l s s.size i (by omega) h3
  have hl := nm_le (s.data.toList.drop i)
  rw [len_s] at hl
  refine ⟨wEnd s i, by omega, by rw [h, List.drop_drop], ?_⟩
  unfold icehouseref02_Scan_Word.f
  rw [if_pos ⟨by omega, by omega, hs⟩, Int.toNat_natCast]
  have e : s.extract i (wEnd s i) = (⟨(nm (s.data.toList.drop i)).toArray⟩ : ByteArray) := by
    refine Lp.bs_inj' ?_
    rw [h]
    have := Lib.extract_data s i (i + (nm (s.data.toList.drop i)).length)
    rw [this]
    show _ = nm (s.data.toList.drop i)
    rw [Nat.add_sub_cancel_left, nm_take]
  rw [e]
theorem quoted_eq (s : ByteArray) (hs : s.size ≤ 17592186044416) (k : Nat) (hk : 3 * s.size + 500 ≤ k) (i : Nat) (h3 : i ≤ s.size) : ∃ j, j ≤ s.size ∧ s.data.toList.drop j = (s.data.toList.drop i).drop (unqT (s.data.toList.drop i)).2.1 ∧ icehouseref02_Scan_Quoted.f k s (i : Int) = some (⟨(unqT (s.data.toList.drop i)).1.toArray⟩, (unqT (s.data.toList.drop i)).2.2, s, (j : Int)) := by
  have hz : (s.extract i s.size).size = s.size - i := by rw [Lib.size_eq, extract_list, len_s]
  have h := unquote_eq (s.extract i s.size) (by omega) k (by omega)
  rw [extract_list] at h
  have hl := unqT_le (s.data.toList.drop i)
  rw [len_s] at hl
  refine ⟨i + (unqT (s.data.toList.drop i)).2.1, by omega, by rw [List.drop_drop], ?_⟩
  unfold icehouseref02_Scan_Quoted.f
  rw [if_pos ⟨by omega, by omega, hs⟩, Int.toNat_natCast, h]
  simp only [Option.bind_some]
  rw [wrap_nat2 _ _ (by omega)]
/-- a label at the beginning, and what stands behind it -/
def oneL (l : List UInt8) : ByteArray × ByteArray × List UInt8 × Bool :=
  if Lib.hasPrefix (tl (l.drop (nm l).length)) [61] then
    (⟨(nm l).toArray⟩, ⟨(unqT (tl (Lib.trimPrefix (tl (l.drop (nm l).length)) [61]))).1.toArray⟩, tl ((tl (Lib.trimPrefix (tl (l.drop (nm l).length)) [61])).drop (unqT (tl (Lib.trimPrefix (tl (l.drop (nm l).length)) [61]))).2.1), (unqT (tl (Lib.trimPrefix (tl (l.drop (nm l).length)) [61]))).2.2)
  else (⟨(nm l).toArray⟩, ⟨#[]⟩, [], false)
theorem round_eq (s : ByteArray) (hs : s.size ≤ 17592186044416) (k : Nat) (hk : 3 * s.size + 500 ≤ k) (i : Nat) (h3 : i ≤ s.size) (l : List S47) : ∃ ok more j l', j ≤ s.size ∧ pRound k s (i : Int) l = some (ok, more, s, (j : Int), l') ∧ ok = ((oneL (tl (s.data.toList.drop i))).2.2.2 && decide (l.length < 16)) ∧ ((oneL (tl (s.data.toList.drop i))).2.2.2 = true → more = Lib.hasPrefix (oneL (tl (s.data.toList.drop i))).2.2.1 [44] ∧ s.data.toList.drop j = Lib.trimPrefix (oneL (tl (s.data.toList.drop i))).2.2.1 [44] ∧ l' = l ++ [⟨(oneL (tl (s.data.toList.drop i))).1, (oneL (tl (s.data.toList.drop i))).2.1⟩]) := by
  obtain ⟨j1, a1, b1, c1⟩ := blanks_eq s k hs (by omega) i h3
  obtain ⟨j2, a2, b2, c2⟩ := word_eq s hs j1 a1
  obtain ⟨j3, a3, b3, c3⟩ := blanks_eq s k hs (by omega) j2 a2
  obtain ⟨j4, a4, b4, c4⟩ := is_eq s hs j3 a3 61
  obtain ⟨j5, a5, b5, c5⟩ := blanks_eq s k hs (by omega) j4 a4
  obtain ⟨j6, a6, b6, c6⟩ := quoted_eq s hs k hk j5 a5
  obtain ⟨j7, a7, b7, c7⟩ := blanks_eq s k hs (by omega) j6 a6
  obtain ⟨j8, a8, b8, c8⟩ := is_eq s hs j7 a7 44
  have c4' : icehouseref02_Scan_Is.f s (j3 : Int) 61 = _ := c4
  have c8' : icehouseref02_Scan_Is.f s (j7 : Int) 44 = _ := c8
  have HP : pRound k s (i : Int) l = some (Lib.hasPrefix (s.data.toList.drop j3) [61] && ((unqT (s.data.toList.drop j5)).2.2 && decide (l.length < 16)), Lib.hasPrefix (s.data.toList.drop j7) [44], s, (j8 : Int), l ++ [⟨⟨(nm (s.data.toList.drop j1)).toArray⟩, ⟨(unqT (s.data.toList.drop j5)).1.toArray⟩⟩]) := by
    unfold pRound
    rw [c1]
    simp only [Option.bind_some]
    rw [c2]
    simp only [Option.bind_some]
    rw [c3]
    simp only [Option.bind_some]
    rw [c4']
    simp only [Option.bind_some]
    rw [c5]
    simp only [Option.bind_some]
    rw [c6]
    simp only [Option.bind_some]
    rw [c7]
    simp only [Option.bind_some]
    rw [c8']
    rfl
  refine ⟨_, _, j8, _, a8, HP, ?_, ?_⟩
  · rw [b5, b4, b3, b2, b1]
    unfold oneL
    cases Lib.hasPrefix (tl ((tl (s.data.toList.drop i)).drop (nm (tl (s.data.toList.drop i))).length)) [61] <;> simp
  · rw [b8, b7, b6, b5, b4, b3, b2, b1]
    unfold oneL
    cases Lib.hasPrefix (tl ((tl (s.data.toList.drop i)).drop (nm (tl (s.data.toList.drop i))).length)) [61] <;> simp
theorem bs_list (l : List UInt8) : (⟨l.toArray⟩ : ByteArray).data.toList = l := rfl
theorem bs_size (l : List UInt8) : (⟨l.toArray⟩ : ByteArray).size = l.length := by rw [Lib.size_eq]
theorem run_nm (s : ByteArray) : ∀ fuel pos, s.size - pos ≤ fuel → runK s fuel pos pos = pos + (nm (s.data.toList.drop pos)).length := by
  intro fuel
  induction fuel with
  | zero =>
    intro pos h
    rw [List.drop_eq_nil_of_le (by rw [← Lib.size_eq]; omega)]
    rfl
  | succ f ih =>
    intro pos h
    cases hd : s.data.toList.drop pos with
    | nil =>
      have := nil_d s pos hd
      rw [runK_end s _ pos _ (by omega)]
      rfl
    | cons b t =>
      obtain ⟨g1, g2, g3⟩ := bt_d s pos b t hd
      have e := bt_i s pos g1
      rw [g2] at e
      have hb : b = s[pos] := UInt8.toNat_inj.1 (Int.ofNat.inj e)
      unfold runK nm
      rw [if_pos g1, List.takeWhile_cons]
      by_cases ha : (s[pos]'g1).toNat < 128
      · rw [decode_ascii s pos g1 ha]
        have hw : wch b = (letB ((s[pos]'g1).toNat : Int) || digB ((s[pos]'g1).toNat : Int)) := by unfold wch; rw [hb]
        simp only
        rw [← hw]
        cases wch b with
        | true =>
          rw [if_pos rfl, if_pos rfl, ih (pos + 1) (by omega), g3]
          simp [nm]; omega
        | false => simp
      · have hf := far ((s[pos]'g1).toNat : Int) (by omega)
        have hg := far ((Utf8.decode s pos).1) (by have := (decode_high s pos g1 (by omega)).1; omega)
        have hw : wch b = false := by unfold wch; rw [hb, hf.1, hf.2]; rfl
        rw [hg.1, hg.2, hw]
        simp
theorem one_eq (l : List UInt8) : oneT ⟨l.toArray⟩ = ((oneL l).1, (oneL l).2.1, ⟨(oneL l).2.2.1.toArray⟩, (oneL l).2.2.2) := by
  have hn : nameLen ⟨l.toArray⟩ = (nm l).length := by
    unfold nameLen
    rw [run_nm _ _ 0 (by omega), bs_list, List.drop_zero]
    omega
  have h1 : (ByteArray.extract ⟨l.toArray⟩ 0 (nm l).length) = (⟨(nm l).toArray⟩ : ByteArray) := by
    refine Lp.bs_inj' ?_
    rw [Lib.extract_data, bs_list, List.drop_zero, Nat.sub_zero, nm_take]
  have h2 : blanksB (ByteArray.extract ⟨l.toArray⟩ (nm l).length (ByteArray.size ⟨l.toArray⟩)) = (⟨(tl (l.drop (nm l).length)).toArray⟩ : ByteArray) := by
    unfold blanksB
    rw [extract_list]
    rfl
  unfold oneT oneL
  rw [hn, h1, h2]
  simp only [bs_list]
  cases hp : Lib.hasPrefix (tl (l.drop (nm l).length)) [61] with
  | false => simp
  | true =>
    simp only [if_true]
    have h3 : blanksB (⟨(Lib.trimPrefix (tl (l.drop (nm l).length)) [61]).toArray⟩ : ByteArray) = (⟨(tl (Lib.trimPrefix (tl (l.drop (nm l).length)) [61])).toArray⟩ : ByteArray) := rfl
    rw [h3]
    simp only [bs_list]
    unfold blanksB
    rw [extract_list]
    rfl
theorem trim_le (l : List UInt8) (c : List UInt8) : (Lib.trimPrefix l c).length ≤ l.length := by
  unfold Lib.trimPrefix
  split
  · rw [List.length_drop]; omega
  · exact Nat.le_refl _
theorem one_rest (l : List UInt8) : (oneL l).2.2.1.length ≤ l.length := by
  unfold oneL
  split
  · simp only
    refine Nat.le_trans (tl_le _) ?_
    rw [List.length_drop]
    refine Nat.le_trans (Nat.sub_le _ _) ?_
    refine Nat.le_trans (tl_le _) (Nat.le_trans (trim_le _ _) (Nat.le_trans (tl_le _) ?_))
    rw [List.length_drop]; omega
  · simp
theorem unqL_len : ∀ (f : Nat) (l acc : List UInt8) (t m : List UInt8), unqL f l acc = some (t, m) → t.length ≤ acc.length + 4 * f
  | 0, l, acc, t, m, h => by simp [unqL] at h
  | f + 1, l, acc, t, m, h => by
    unfold unqL at h
    split at h
    · cases h
    · split at h
      · simp only [Option.some.injEq, Prod.mk.injEq] at h
        obtain ⟨rfl, _⟩ := h
        omega
      · split at h
        · cases h
        · rename_i c k _
          split at h
          · have := unqL_len f _ _ _ _ h
            have he : (Lib.encodeRune (c : Int)).length ≤ 4 := by
              rw [← Lib.runeCells_length]
              have := Lib.encodeRuneZ_length (c : Int)
              rw [Lib.runeCells_length, Lib.encodeRune, List.length_map]
              exact this.2
            rw [List.length_append] at this
            omega
          · cases h
theorem unqT_len (l : List UInt8) : (unqT l).1.length ≤ 4 * l.length := by
  unfold unqT
  split
  · simp
  · rename_i q r
    split
    · split
      · rename_i t m h
        have := unqL_len _ _ _ _ _ h
        simp only [List.length_cons, List.length_nil] at *
        omega
      · simp
    · simp
theorem one_fit (l : List UInt8) (N : Nat) (h : l.length ≤ N) : (oneL l).1.size ≤ 4 * N ∧ (oneL l).2.1.size ≤ 4 * N := by
  have h0 := nm_le l
  have h1 : (tl (Lib.trimPrefix (tl (l.drop (nm l).length)) [61])).length ≤ N := by
    refine Nat.le_trans (tl_le _) (Nat.le_trans (trim_le _ _) (Nat.le_trans (tl_le _) ?_))
    rw [List.length_drop]; omega
  have h2 := unqT_len (tl (Lib.trimPrefix (tl (l.drop (nm l).length)) [61]))
  unfold oneL
  split
  · simp only [bs_size]; omega
  · simp only [bs_size]
    refine ⟨by omega, ?_⟩
    show 0 ≤ _
    omega
/-- what is read of the labels: what is left, and the labels; none: they may not be -/
def loopL : Nat → List UInt8 → List S47 → Option (List UInt8 × List S47)
  | 0, _, _ => none
  | m + 1, R, l => if (oneL (tl R)).2.2.2 = true then (if 16 ≤ l.length then none else if Lib.hasPrefix (oneL (tl R)).2.2.1 [44] = true then loopL m (Lib.trimPrefix (oneL (tl R)).2.2.1 [44]) (l ++ [⟨(oneL (tl R)).1, (oneL (tl R)).2.1⟩]) else some (Lib.trimPrefix (oneL (tl R)).2.2.1 [44], l ++ [⟨(oneL (tl R)).1, (oneL (tl R)).2.1⟩])) else none
def finL : Option (List UInt8 × List S47) → Option (List S47 × Int)
  | none => some ([], 30)
  | some (R, l) => if Lib.trimRightB R 32 = [125] then label_Sort.f l else some ([], 30)
theorem loop_fit (N : Nat) : ∀ m R l R' l', R.length ≤ N → l.length ≤ 16 → (∀ x ∈ l, x.f0.size ≤ 4 * N ∧ x.f1.size ≤ 4 * N) → loopL m R l = some (R', l') → R'.length ≤ N ∧ l'.length ≤ 16 ∧ (∀ x ∈ l', x.f0.size ≤ 4 * N ∧ x.f1.size ≤ 4 * N) := by
  intro m
  induction m with
  | zero => intro R l R' l' h1 h2 h3 h; simp [loopL] at h
  | succ m ih =>
    intro R l R' l' h1 h2 h3 h
    have g1 : (Lib.trimPrefix (oneL (tl R)).2.2.1 [44]).length ≤ N := Nat.le_trans (trim_le _ _) (Nat.le_trans (one_rest _) (Nat.le_trans (tl_le _) h1))
    have g3 : ∀ x ∈ l ++ [(⟨(oneL (tl R)).1, (oneL (tl R)).2.1⟩ : S47)], x.f0.size ≤ 4 * N ∧ x.f1.size ≤ 4 * N := by
      intro x hx
      rw [List.mem_append, List.mem_singleton] at hx
      rcases hx with hx | rfl
      · exact h3 x hx
      · exact one_fit (tl R) N (Nat.le_trans (tl_le _) h1)
    unfold loopL at h
    split at h
    · split at h
      · cases h
      · split at h
        · exact ih _ _ _ _ g1 (by rw [List.length_append, List.length_singleton]; omega) g3 h
        · simp only [Option.some.injEq, Prod.mk.injEq] at h
          obtain ⟨rfl, rfl⟩ := h
          exact ⟨g1, by rw [List.length_append, List.length_singleton]; omega, g3⟩
    · cases h
theorem lab_end (k : Nat) (R : List UInt8) (l : List S47) (hR : R.length ≤ 17592186044416) : label_Parse.l0 (k + 2) l ⟨R.toArray⟩ true false = finL (some (R, l)) := by
  have ht : strings_TrimRight.f ⟨R.toArray⟩ (⟨#[32]⟩ : ByteArray) = some ⟨(Lib.trimRightB R 32).toArray⟩ := if_pos ⟨rfl, by unfold Fit; rw [bs_size]; exact hR⟩
  rw [label_Parse.l0, if_pos rfl, label_Parse.j1, if_neg (by simp), if_pos rfl, ht]
  simp only [Option.bind_some, finL]
  have e : (⟨(Lib.trimRightB R 32).toArray⟩ : ByteArray).toList = Lib.trimRightB R 32 := by rw [Lib.toList_data]
  rw [e]
  split
  · cases label_Sort.f l <;> rfl
  · rfl
theorem lab_l : ∀ m k R l, R.length ≤ 17592186044416 → l.length ≤ 16 → 17 - l.length ≤ m → 2 * m + 4 ≤ k → label_Parse.l0 k l ⟨R.toArray⟩ true true = finL (loopL m R l) := by
  intro m
  induction m with
  | zero => intro k R l h1 h2 h3; omega
  | succ m ih =>
    intro k R l h1 h2 h3 h4
    obtain ⟨k, rfl⟩ : ∃ j, k = j + 2 := ⟨k - 2, by omega⟩
    have ho : label_one.f ⟨(tl R).toArray⟩ = some (oneT ⟨(tl R).toArray⟩) := if_pos (by unfold Fit; rw [bs_size]; exact Nat.le_trans (tl_le _) h1)
    have hb : label_blanks.f ⟨R.toArray⟩ = some ⟨(tl R).toArray⟩ := rfl
    have g1 : (Lib.trimPrefix (oneL (tl R)).2.2.1 [44]).length ≤ 17592186044416 := Nat.le_trans (trim_le _ _) (Nat.le_trans (one_rest _) (Nat.le_trans (tl_le _) h1))
    rw [label_Parse.l0, if_pos rfl, label_Parse.j1, if_pos rfl, hb]
    simp only [Option.bind_some]
    rw [ho, one_eq]
    simp only [Option.bind_some]
    have hc : strings_CutPrefix.f ⟨(oneL (tl R)).2.2.1.toArray⟩ (⟨#[44]⟩ : ByteArray) = some (⟨(Lib.trimPrefix (oneL (tl R)).2.2.1 [44]).toArray⟩, Lib.hasPrefix (oneL (tl R)).2.2.1 [44]) := rfl
    rw [hc, loopL]
    simp only [Option.bind_some]
    cases (oneL (tl R)).2.2.2 with
    | false => rfl
    | true =>
      rw [if_pos rfl, if_pos rfl]
      by_cases h16 : 16 ≤ l.length
      · rw [if_pos (by omega), if_pos h16]; rfl
      · rw [if_neg (by omega), if_neg h16, if_pos (by omega)]
        cases hp : Lib.hasPrefix (oneL (tl R)).2.2.1 [44] with
        | true =>
          rw [if_pos rfl]
          exact ih k _ _ g1 (by rw [List.length_append, List.length_singleton]; omega) (by rw [List.length_append, List.length_singleton]; omega) (by omega)
        | false =>
          rw [if_neg (by simp)]
          obtain ⟨k, rfl⟩ : ∃ j, k = j + 2 := ⟨k - 2, by omega⟩
          exact lab_end k _ _ g1
def docL (s : ByteArray) (o : Option (List UInt8 × List S47)) (ok : Bool) (j : Nat) (l' : List S47) : Prop :=
  match o with
  | none => ok = false
  | some (R, l2) => ok = true ∧ s.data.toList.drop j = R ∧ l' = l2
theorem doc_l (s : ByteArray) (hs : s.size ≤ 17592186044416) (k : Nat) (hk : 3 * s.size + 500 ≤ k) : ∀ m n i l, i ≤ s.size → l.length ≤ 16 → 17 - l.length ≤ m → m + 2 ≤ n → ∃ ok j l', j ≤ s.size ∧ pLoop k n true true s (i : Int) l = some (ok, s, (j : Int), l') ∧ docL s (loopL m (s.data.toList.drop i) l) ok j l' := by
  intro m
  induction m with
  | zero => intro n i l h1 h2 h3; omega
  | succ m ih =>
    intro n i l h1 h2 h3 h4
    obtain ⟨n, rfl⟩ : ∃ j, n = j + 2 := ⟨n - 2, by omega⟩
    obtain ⟨ok, more, j, l', a1, a2, a3, a4⟩ := round_eq s hs k hk i h1 l
    rw [pLoop, if_pos (by rfl), a2]
    simp only [Option.bind_some]
    rw [loopL]
    by_cases ho : (oneL (tl (s.data.toList.drop i))).2.2.2 = true
    · obtain ⟨b1, b2, b3⟩ := a4 ho
      rw [if_pos ho]
      rw [ho, Bool.true_and] at a3
      by_cases h16 : 16 ≤ l.length
      · rw [if_pos h16]
        have : ok = false := by rw [a3]; simpa using h16
        subst this
        exact ⟨false, j, l', a1, by rw [pLoop, if_neg (by simp)], rfl⟩
      · have : ok = true := by rw [a3]; simpa using h16
        rw [if_neg h16]
        clear a3
        subst this
        cases hp : Lib.hasPrefix (oneL (tl (s.data.toList.drop i))).2.2.1 [44] with
        | true =>
          rw [if_pos rfl, ← b2, ← b3]
          rw [hp] at b1
          subst b1
          exact ih (n + 1) j l' a1 (by rw [b3, List.length_append, List.length_singleton]; omega) (by rw [b3, List.length_append, List.length_singleton]; omega) (by omega)
        | false =>
          rw [if_neg (by simp)]
          rw [hp] at b1
          subst b1
          exact ⟨true, j, l', a1, by rw [pLoop, if_neg (by simp)], rfl, b2, b3⟩
    · rw [if_neg ho]
      have : ok = false := by rw [a3]; simp [ho]
      subst this
      exact ⟨false, j, l', a1, by rw [pLoop, if_neg (by simp)], rfl⟩
theorem sort_alike (l : List S47) (h : l.length ≤ 16) (hf : ∀ x ∈ l, x.f0.size ≤ 17592186044416 ∧ x.f1.size ≤ 17592186044416) : ∃ r, label_Sort.f l = some r ∧ icehouseref02_Sort.f l = some r := by
  have hp := (sortL_spec l).1
  have hr : label_Right.f (l.length + 2) (sortL l) = some (rightB (sortL l)) := lright_eq (sortL l) _ (by rw [hp.length_eq]; omega) (fun x hx => (hf x (hp.mem_iff.1 hx)).1) (by rw [hp.length_eq]; omega)
  unfold label_Sort.f icehouseref02_Sort.f
  rw [if_pos (by omega), if_pos h, if_pos ((fitL_iff l).2 hf), hr]
  cases rightB (sortL l) with
  | true => exact ⟨_, rfl, rfl⟩
  | false => exact ⟨_, rfl, rfl⟩
theorem tw_all : ∀ l : List UInt8, ∀ x ∈ l.takeWhile (· == 32), x = 32
  | [], x, h => by simp at h
  | b :: t, x, h => by
    rw [List.takeWhile_cons] at h
    by_cases hb : b = 32
    · rw [if_pos (by simpa using hb)] at h
      rcases List.mem_cons.1 h with rfl | h
      · exact hb
      · exact tw_all t x h
    · rw [if_neg (by simpa using hb)] at h; simp at h
theorem dw_nil : ∀ l : List UInt8, (∀ x ∈ l, x = 32) → l.dropWhile (· == 32) = []
  | [], _ => rfl
  | b :: t, h => by
    rw [List.dropWhile_cons, if_pos (by simpa using h b (by simp))]
    exact dw_nil t fun x hx => h x (by simp [hx])
theorem dw_all : ∀ l : List UInt8, l.dropWhile (· == 32) = [] → ∀ x ∈ l, x = 32
  | [], _, x, h => by simp at h
  | b :: t, h, x, hx => by
    rw [List.dropWhile_cons] at h
    by_cases hb : b = 32
    · rw [if_pos (by simpa using hb)] at h
      rcases List.mem_cons.1 hx with rfl | hx
      · exact hb
      · exact dw_all t h x hx
    · rw [if_neg (by simpa using hb)] at h; cases h
theorem trail (R : List UInt8) : Lib.trimRightB R 32 = [125] ↔ Lib.hasPrefix R [125] = true ∧ tl (Lib.trimPrefix R [125]) = [] := by
  unfold Lib.trimRightB
  constructor
  · intro h
    have h2 : R.reverse.dropWhile (· == 32) = [125] := by
      have := congrArg List.reverse h
      simpa using this
    have h3 := List.takeWhile_append_dropWhile (p := fun x : UInt8 => x == 32) (l := R.reverse)
    rw [h2] at h3
    have h4 : R = 125 :: (R.reverse.takeWhile (· == 32)).reverse := by
      have := congrArg List.reverse h3
      rw [List.reverse_append, List.reverse_reverse] at this
      exact this.symm
    have h5 : ∀ x ∈ (R.reverse.takeWhile (· == 32)).reverse, x = 32 := by
      intro x hx
      rw [List.mem_reverse] at hx
      exact tw_all _ x hx
    rw [h4, pre_cons]
    unfold Lib.trimPrefix
    rw [pre_cons, if_pos (by decide)]
    refine ⟨by decide, ?_⟩
    simp only [List.length_cons, List.length_nil, List.drop_succ_cons, List.drop_zero]
    unfold tl Lib.trimLeftB
    exact dw_nil _ h5
  · rintro ⟨h1, h2⟩
    cases R with
    | nil => simp [pre_nil] at h1
    | cons b t =>
      rw [pre_cons] at h1
      have hb : 125 = b := by simpa using h1
      subst hb
      unfold Lib.trimPrefix at h2
      rw [pre_cons, if_pos (by decide)] at h2
      simp only [List.length_cons, List.length_nil, List.drop_succ_cons, List.drop_zero] at h2
      unfold tl Lib.trimLeftB at h2
      have h2 := dw_all _ h2
      rw [List.reverse_cons, List.dropWhile_append]
      have : t.reverse.dropWhile (· == 32) = [] := dw_nil _ fun x hx => h2 x (List.mem_reverse.1 hx)
      rw [this]
      rfl
theorem parse_alike (s : ByteArray) (hs : s.size ≤ 1048576) (k : Nat) (hk : 100 ≤ k) : ∃ r, label_Parse.f k s = some r ∧ icehouseref02_Parse.f s = some r ∧ r.1.length ≤ 16 := by
  obtain ⟨j1, a1, b1, c1⟩ := blanks_eq s (4 * s.size + 700) (by omega) (by omega) 0 (by omega)
  obtain ⟨j2, a2, b2, c2⟩ := is_eq s (by omega) j1 a1 123
  have c1' : icehouseref02_Scan_Blanks.f (4 * s.size + 700) s 0 = _ := c1
  have c2' : icehouseref02_Scan_Is.f s (j1 : Int) 123 = _ := c2
  rw [b1, List.drop_zero] at b2 c2'
  have hb : label_blanks.f s = some ⟨(tl s.data.toList).toArray⟩ := rfl
  have hc : strings_CutPrefix.f ⟨(tl s.data.toList).toArray⟩ (⟨#[123]⟩ : ByteArray) = some (⟨(Lib.trimPrefix (tl s.data.toList) [123]).toArray⟩, Lib.hasPrefix (tl s.data.toList) [123]) := rfl
  have hl : s.data.toList.length = s.size := by rw [← Lib.size_eq]
  have hz : (Lib.trimPrefix (tl s.data.toList) [123]).length ≤ 1048576 := Nat.le_trans (trim_le _ _) (Nat.le_trans (tl_le _) (by omega))
  unfold label_Parse.f icehouseref02_Parse.f pF
  rw [hb]
  simp only [Option.bind_some]
  rw [hc, c1']
  simp only [Option.bind_some]
  rw [c2']
  simp only [Option.bind_some]
  cases hp : Lib.hasPrefix (tl s.data.toList) [123] with
  | false =>
    refine ⟨([], 30), ?_, ?_, by simp⟩
    · obtain ⟨k, rfl⟩ : ∃ j, k = j + 2 := ⟨k - 2, by omega⟩
      rw [label_Parse.l0, if_neg (by simp), label_Parse.j1, if_neg (by simp), if_neg (by simp)]
    · obtain ⟨n, hn⟩ : ∃ n, 4 * s.size + 700 = n + 1 := ⟨4 * s.size + 699, by omega⟩
      obtain ⟨j5, a5, b5, c5⟩ := blanks_eq s (4 * s.size + 700) (by omega) (by omega) j2 a2
      have hq : pLoop (4 * s.size + 700) (4 * s.size + 700) false true s (j2 : Int) [] = some (false, s, (j2 : Int), []) := by
        conv => lhs; arg 2; rw [hn]
        rw [pLoop, if_neg (by simp)]
      rw [hq]
      simp only [Option.bind_some]
      rw [if_neg (by simp)]
      simp only [Option.bind_some]
      rw [c5]
      simp
  | true =>
    obtain ⟨ok, j3, l3, a3, q3, d3⟩ := doc_l s (by omega) (4 * s.size + 700) (by omega) 17 (4 * s.size + 700) j2 [] a2 (by simp) (by simp) (by omega)
    rw [lab_l 17 k _ [] (by omega) (by simp) (by simp) (by omega), q3]
    simp only [Option.bind_some]
    rw [b2] at d3
    cases hL : loopL 17 (Lib.trimPrefix (tl s.data.toList) [123]) [] with
    | none =>
      rw [hL] at d3
      have d3' : ok = false := d3
      subst d3'
      obtain ⟨j5, a5, b5, c5⟩ := blanks_eq s (4 * s.size + 700) (by omega) (by omega) j3 a3
      refine ⟨([], 30), rfl, ?_, by simp⟩
      rw [if_neg (by simp)]
      simp only [Option.bind_some]
      rw [c5]
      simp
    | some p =>
      obtain ⟨R, l2⟩ := p
      rw [hL] at d3
      obtain ⟨e1, e2, e3⟩ := d3
      subst e1 e3
      obtain ⟨f1, f2, f3⟩ := loop_fit 1048576 17 _ [] R l3 hz (by simp) (by simp) hL
      obtain ⟨j4, a4, b4, c4⟩ := is_eq s (by omega) j3 a3 125
      have c4' : icehouseref02_Scan_Is.f s (j3 : Int) 125 = _ := c4
      rw [if_pos rfl, c4']
      simp only [Option.bind_some]
      obtain ⟨j5, a5, b5, c5⟩ := blanks_eq s (4 * s.size + 700) (by omega) (by omega) j4 a4
      rw [c5]
      simp only [Option.bind_some, finL]
      rw [e2] at b4
      rw [b4] at b5
      rw [e2]
      have hj : tl (Lib.trimPrefix R [125]) = [] ↔ (j5 : Int) = (s.size : Int) := by
        rw [← b5]
        constructor
        · intro h
          have := nil_d s j5 h
          omega
        · intro h
          exact List.drop_eq_nil_of_le (by rw [← Lib.size_eq]; omega)
      by_cases ht : Lib.trimRightB R 32 = [125]
      · rw [if_pos ht, if_pos (by have := (trail R).1 ht; exact ⟨this.1, hj.1 this.2⟩)]
        obtain ⟨r, g1, g2⟩ := sort_alike l3 f2 (fun x hx => by have := f3 x hx; omega)
        refine ⟨r, g1, g2, ?_⟩
        unfold icehouseref02_Sort.f at g2
        rw [if_pos f2] at g2
        split at g2
        · injection g2 with g2
          subst g2
          split
          · simp only; rw [sortL_len]; exact f2
          · simp
        · cases g2
      · rw [if_neg ht, if_neg (fun h => ht ((trail R).2 ⟨h.1, hj.2 h.2⟩))]
        exact ⟨_, rfl, rfl, by simp⟩
end Go.Proofs.YtgafnjgiikdofaaGreatDoor.Lq
