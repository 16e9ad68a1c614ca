/- Print: how long a quoted value is. -/
import Derived.Test.YtgafnjgiikdofaaGreatDoorLr
import Derived.Test.YtgafnjgiikdofaaGreatDoorMe
import Derived.Test.YtgafnjgiikdofaaGreatDoorMg
import Derived.Test.YtgafnjgiikdofaaGreatDoorR6
namespace Go.Proofs.YtgafnjgiikdofaaGreatDoor.Lp
set_option linter.unusedVariables false
open Go.Proofs.YtgafnjgiikdofaaGreatDoorW.PrintWords Go.Proofs.YtgafnjgiikdofaaGreatDoorW.PrintMore Go.Proofs.YtgafnjgiikdofaaGreatDoor.R Go.Proofs.YtgafnjgiikdofaaGreatDoor.Sc Go.RowKit Go.Proofs.YtgafnjgiikdofaaGreatDoor.A Go.Proofs.YtgafnjgiikdofaaGreatDoor.Rq Go.Proofs.YtgafnjgiikdofaaGreatDoor.Sq Go.Proofs.YtgafnjgiikdofaaGreatDoor.Sv Go.Proofs.YtgafnjgiikdofaaGreatDoor.Lr
theorem rqB_fin : ∀ n : Fin 256, (rqB (UInt8.ofNat n.val)).length ≤ 6 := by decide +kernel
theorem rqB_len (c : UInt8) : (rqB c).length ≤ 6 := by
  have h := rqB_fin ⟨c.toNat, c.toNat_lt⟩
  simpa using h
theorem flat_len : ∀ l : List UInt8, (l.flatMap rqB).length ≤ 6 * l.length
  | [] => by simp
  | c :: l => by
    have h1 := rqB_len c
    have h2 := flat_len l
    simp only [List.flatMap_cons, List.length_append, List.length_cons]
    omega
theorem quote_len (s : ByteArray) : (quoteL s).length ≤ 6 * s.size + 2 := by
  rw [Uq.quote_eq]
  have h := flat_len s.data.toList
  have e : s.data.toList.length = s.size := by rw [Array.length_toList]; rfl
  split
  · simp only [List.length_cons, List.length_append, List.length_nil]
    omega
  · simp
/-- a label as it is printed -/
def E (x : S47) : ByteArray := (x.f0 ++ (⟨#[61]⟩ : ByteArray)) ++ (⟨(quoteL x.f1).toArray⟩ : ByteArray)
theorem E_size (x : S47) : (x.f0 ++ (⟨#[61]⟩ : ByteArray)).size = x.f0.size + 1 := by rw [ByteArray.size_append]; rfl
theorem q_size (s : ByteArray) : (⟨(quoteL s).toArray⟩ : ByteArray).size ≤ 6 * s.size + 2 := by
  show (quoteL s).toArray.size ≤ _
  rw [List.size_toArray]
  exact quote_len s
theorem lprint_l (l : List S47) (hl : l.length < 8796093022208) (hf : ∀ x ∈ l, x.f0.size ≤ 17592186044416 ∧ x.f1.size ≤ 17592186044416) : ∀ m k acc i, i + m = l.length → m + 1 ≤ k → acc.length = i → label_Print.l0 k acc l (l.length : Int) (i : Int) = label_Print.l0 1 (acc ++ (l.drop i).map E) l (l.length : Int) (l.length : Int) := by
  intro m
  induction m with
  | zero =>
    intro k acc i h1 h2 h3
    obtain ⟨k, rfl⟩ : ∃ j, k = j + 1 := ⟨k - 1, by omega⟩
    rw [List.drop_eq_nil_of_le (by omega), List.map_nil, List.append_nil]
    unfold label_Print.l0
    rw [if_neg (by omega), if_neg (by omega)]
  | succ m ih =>
    intro k acc i h1 h2 h3
    obtain ⟨k, rfl⟩ : ∃ j, k = j + 1 := ⟨k - 1, by omega⟩
    have hw : wrap64 ((i : Int) + 1) = ((i + 1 : Nat) : Int) := w64' i (by omega)
    have hm := hf _ (rd_mem l i (by omega))
    have hq := q_size (rd_T47 l (i : Int)).f1
    have hqf : label_Quote.f (rd_T47 l (i : Int)).f1 = some (⟨(quoteL (rd_T47 l (i : Int)).f1).toArray⟩ : ByteArray) := if_pos hm.2
    have hs := E_size (rd_T47 l (i : Int))
    have hd : (l.drop i).map E = E (rd_T47 l (i : Int)) :: (l.drop (i + 1)).map E := by rw [rd_of l i (by omega), List.drop_eq_getElem_cons (by omega), List.map_cons]
    rw [label_Print.l0, if_pos (by omega), if_pos (by omega), if_pos (by omega), if_pos (by omega), hqf]
    simp only [Option.bind_some]
    rw [if_pos (by rw [hs]; omega), if_pos (by omega), hw, ih k _ (i + 1) (by omega) (by omega) (by simp [h3]), hd]
    simp [E]
/-- the document's print, from a place on -/
def Rr (l : List S47) : Nat → ByteArray → Nat → ByteArray
  | 0, acc, _ => acc ++ (⟨#[125]⟩ : ByteArray)
  | m + 1, acc, i => Rr l m ((((if 0 < i then acc ++ (⟨#[44, 32]⟩ : ByteArray) else acc) ++ (rd_T47 l (i : Int)).f0) ++ (⟨#[61]⟩ : ByteArray)) ++ (⟨(quoteL (rd_T47 l (i : Int)).f1).toArray⟩ : ByteArray)) (i + 1)
theorem rq_f (s : ByteArray) (h : s.size ≤ 17592186044416) : icehouseref02_Quote.f s = some (⟨(quoteL s).toArray⟩ : ByteArray) := by
  unfold icehouseref02_Quote.f
  rw [if_pos (show Fit s from h), Uq.quote_eq]
  split <;> rfl
theorem one_size : (⟨#[61]⟩ : ByteArray).size = 1 := rfl
theorem two_size : (⟨#[44, 32]⟩ : ByteArray).size = 2 := rfl
theorem rprint_l (l : List S47) (B : Nat) (hB : B ≤ 17592186044416) (hl : l.length < 4398046511104) (hf : ∀ x ∈ l, x.f0.size ≤ B ∧ x.f1.size ≤ B) : ∀ m k acc i, i + m = l.length → m + 1 ≤ k → acc.size + m * (7 * B + 10) ≤ 1152921504606846976 → icehouseref02_Print.l0 k l acc (i : Int) = some (Rr l m acc i) := by
  intro m
  induction m with
  | zero =>
    intro k acc i h1 h2 h3
    obtain ⟨k, rfl⟩ : ∃ j, k = j + 1 := ⟨k - 1, by omega⟩
    rw [icehouseref02_Print.l0, if_neg (by omega), if_pos (by omega)]
    rfl
  | succ m ih =>
    intro k acc i h1 h2 h3
    obtain ⟨k, rfl⟩ : ∃ j, k = j + 1 := ⟨k - 1, by omega⟩
    have hw : wrap64 ((i : Int) + 1) = ((i + 1 : Nat) : Int) := w64' i (by omega)
    have hm := hf _ (rd_mem l i (by omega))
    have hq := q_size (rd_T47 l (i : Int)).f1
    have hqf := rq_f (rd_T47 l (i : Int)).f1 (by omega)
    rw [Nat.succ_mul] at h3
    obtain ⟨P, hP⟩ : ∃ P, P = m * (7 * B + 10) := ⟨_, rfl⟩
    rw [← hP] at h3
    by_cases h0 : 0 < i
    · rw [icehouseref02_Print.l0, if_pos (by omega), if_pos (by omega), if_pos (by omega), if_pos (by omega), if_pos (by simp only [ByteArray.size_append, two_size]; omega), if_pos (by simp only [ByteArray.size_append, two_size]; omega), hqf]
      simp only [Option.bind_some]
      rw [if_pos (by simp only [ByteArray.size_append, two_size, one_size]; omega), hw, ih k _ (i + 1) (by omega) (by omega) (by rw [← hP]; simp only [ByteArray.size_append, two_size, one_size]; omega), Rr, if_pos h0]
    · rw [icehouseref02_Print.l0, if_pos (by omega), if_neg (by omega), if_pos (by omega), if_pos (by omega), if_pos (by simp only [ByteArray.size_append]; omega), hqf]
      simp only [Option.bind_some]
      rw [if_pos (by simp only [ByteArray.size_append, one_size]; omega), hw, ih k _ (i + 1) (by omega) (by omega) (by rw [← hP]; simp only [ByteArray.size_append, one_size]; omega), Rr, if_neg h0]
theorem app_list (a b : ByteArray) : (a ++ b).data.toList = a.data.toList ++ b.data.toList := by rw [ByteArray.data_append, Array.toList_append]
theorem Rr_list (l : List S47) : ∀ m acc i, i + m = l.length → 0 < i → (Rr l m acc i).data.toList = acc.data.toList ++ (((l.drop i).map fun x => [44, 32] ++ (E x).data.toList).flatten ++ [125]) := by
  intro m
  induction m with
  | zero =>
    intro acc i h1 h2
    rw [List.drop_eq_nil_of_le (by omega), Rr, app_list]
    rfl
  | succ m ih =>
    intro acc i h1 h2
    rw [Rr, if_pos h2, ih _ (i + 1) (by omega) (by omega), List.drop_eq_getElem_cons (show i < l.length by omega), rd_of l i (by omega)]
    simp only [app_list, E, List.map_cons, List.flatten_cons, List.append_assoc]
theorem rprint_list (l : List S47) (h : 0 < l.length) : (Rr l l.length (⟨#[123]⟩ : ByteArray) 0).data.toList = [123] ++ (Lib.join ((l.map E).map (·.data.toList)) [44, 32] ++ [125]) := by
  obtain ⟨x, r, rfl⟩ : ∃ x r, l = x :: r := by cases l with | nil => simp at h | cons x r => exact ⟨x, r, rfl⟩
  rw [List.length_cons, Rr, if_neg (by omega), Rr_list (x :: r) r.length _ 1 (by simp; omega) (by omega), rd_of (x :: r) 0 (by simp)]
  have hj : Lib.join (((x :: r).map E).map (·.data.toList)) [44, 32] = (E x).data.toList ++ (r.map fun x => [44, 32] ++ (E x).data.toList).flatten := by
    rw [List.map_cons, List.map_cons, Lib.join_cons, Lib.joinTail, List.map_map, List.map_map]
    rfl
  rw [hj]
  simp only [app_list, E, List.append_assoc]
  rfl
theorem Rr_size (l : List S47) (B : Nat) (hf : ∀ x ∈ l, x.f0.size ≤ B ∧ x.f1.size ≤ B) : ∀ m acc i, i + m = l.length → (Rr l m acc i).size ≤ acc.size + m * (7 * B + 10) + 1 := by
  intro m
  induction m with
  | zero =>
    intro acc i h1
    rw [Rr, ByteArray.size_append]
    have : (⟨#[125]⟩ : ByteArray).size = 1 := rfl
    omega
  | succ m ih =>
    intro acc i h1
    have hm := hf _ (rd_mem l i (by omega))
    have hq := q_size (rd_T47 l (i : Int)).f1
    rw [Rr]
    refine Nat.le_trans (ih _ (i + 1) (by omega)) ?_
    rw [Nat.add_mul m 1, Nat.one_mul]
    obtain ⟨P, hP⟩ : ∃ P, P = m * (7 * B + 10) := ⟨_, rfl⟩
    rw [← hP]
    split
    · simp only [ByteArray.size_append, two_size, one_size]; omega
    · simp only [ByteArray.size_append, one_size]; omega
theorem right_each (l : List S47) : ∀ m i, i + m = l.length → rightFrom l m i = true → ∀ j, i ≤ j → j < l.length → valB (rd_T47 l (j : Int)).f1 = true ∧ Sn.nameB (rd_T47 l (j : Int)).f0 = true := by
  intro m
  induction m with
  | zero => intro i h1 h2 j h3 h4; omega
  | succ m ih =>
    intro i h1 h2 j h3 h4
    unfold rightFrom at h2
    simp only [Bool.and_eq_true] at h2
    rcases Nat.eq_or_lt_of_le h3 with e | e
    · subst e; exact ⟨h2.2.1, h2.1⟩
    · exact ih (i + 1) (by omega) h2.2.2.2 j (by omega) h4
theorem right_small (l : List S47) (h : rightB l = true) : ∀ x ∈ l, x.f0.size ≤ 128 ∧ x.f1.size ≤ 128 := by
  intro x hx
  obtain ⟨j, hj, rfl⟩ := List.getElem_of_mem hx
  obtain ⟨h1, h2⟩ := right_each l l.length 0 (by omega) h j (by omega) hj
  rw [rd_of l j hj] at h1 h2
  unfold valB at h1
  unfold Sn.nameB at h2
  simp only [Bool.and_eq_true, decide_eq_true_eq] at h1 h2
  omega
theorem bs_inj' {a b : ByteArray} (h : a.data.toList = b.data.toList) : a = b := by
  cases a; cases b; simp at h; simp [h]
theorem print_alike (l : List S47) (k : Nat) (hl : l.length < 4398046511104) (B : Nat) (hB : B ≤ 17592186044416) (hf : ∀ x ∈ l, x.f0.size ≤ B ∧ x.f1.size ≤ B) (hk : l.length + B + 10 ≤ k) : ∃ r, label_Print.f k l = some r ∧ icehouseref02_Print.f k l = some r := by
  unfold label_Print.f icehouseref02_Print.f
  rw [lright_eq l k hl (fun x hx => Nat.le_trans (hf x hx).1 hB) (by omega), rright_eq l k B hB hl hf hk]
  simp only [Option.bind_some]
  cases h : rightB l with
  | false => exact ⟨_, rfl, rfl⟩
  | true =>
    have hs := right_small l h
    obtain ⟨e1, e16⟩ := right_ends l l.length 0 h
    rw [if_pos rfl, if_pos rfl]
    refine ⟨Rr l l.length (⟨#[123]⟩ : ByteArray) 0, ?_, rprint_l l 128 (by omega) hl hs l.length k _ 0 (by omega) (by omega) (by have : (⟨#[123]⟩ : ByteArray).size = 1 := rfl; omega)⟩
    have hp := lprint_l l (by omega) (fun x hx => by have := hs x hx; omega) l.length k [] 0 (by omega) (by omega) rfl
    rw [List.drop_zero, List.nil_append] at hp
    refine hp.trans ?_
    have hz := Rr_size l 128 hs l.length (⟨#[123]⟩ : ByteArray) 0 (by omega)
    have hj := rprint_list l (by omega)
    have ht : totLen (l.map E) (⟨#[44, 32]⟩ : ByteArray) + 2 = (Rr l l.length (⟨#[123]⟩ : ByteArray) 0).size := by
      have := congrArg List.length hj
      rw [List.length_append, List.length_append, Array.length_toList] at this
      unfold totLen
      simp only [List.length_cons, List.length_nil] at this
      show _ = (Rr l l.length (⟨#[123]⟩ : ByteArray) 0).data.size
      rw [this]
      show (Lib.join _ [44, 32]).length + 2 = _
      omega
    have h1 : (⟨#[123]⟩ : ByteArray).size = 1 := rfl
    have hb : l.length * (7 * 128 + 10) ≤ 20000 := by omega
    have hjf : strings_Join.f (l.map E) (⟨#[44, 32]⟩ : ByteArray) = some ⟨(Lib.join ((l.map E).map (·.data.toList)) [44, 32]).toArray⟩ := if_pos ⟨by rw [List.length_map]; omega, by omega⟩
    have hts : (⟨(Lib.join ((l.map E).map (·.data.toList)) [44, 32]).toArray⟩ : ByteArray).size = totLen (l.map E) (⟨#[44, 32]⟩ : ByteArray) := by
      show (Lib.join _ [44, 32]).toArray.size = _
      rw [List.size_toArray]; rfl
    rw [label_Print.l0, if_neg (by omega), hjf]
    simp only [Option.bind_some]
    rw [if_pos (by rw [hts]; omega), if_pos (by rw [ByteArray.size_append, hts, h1]; omega)]
    refine congrArg some (bs_inj' ?_)
    rw [hj, app_list, app_list]
    simp
end Go.Proofs.YtgafnjgiikdofaaGreatDoor.Lp
