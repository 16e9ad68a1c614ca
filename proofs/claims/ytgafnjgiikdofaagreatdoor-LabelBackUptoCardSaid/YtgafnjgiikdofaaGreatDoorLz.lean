/- LabelBack, plain: a quoted text is read as it was, whatever stands behind it; labels that were printed, or written as bytes, are read as they were. -/
import Derived.Test.YtgafnjgiikdofaaGreatDoorLq
import Derived.Test.YtgafnjgiikdofaaGreatDoorRw
import Derived.Test.YtgafnjgiikdofaaGreatDoorBw
namespace Go.Proofs.YtgafnjgiikdofaaGreatDoor.Lz
set_option linter.unusedVariables false
set_option linter.unusedSimpArgs false
open Go.RowKit Go.Proofs.YtgafnjgiikdofaaGreatDoorW.PrintWords Go.Proofs.YtgafnjgiikdofaaGreatDoorW.PrintLast Go.Proofs.YtgafnjgiikdofaaGreatDoorW.PrintMore
open Go.Proofs.YtgafnjgiikdofaaGreatDoor.Sq Go.Proofs.YtgafnjgiikdofaaGreatDoor.Sf Go.Proofs.YtgafnjgiikdofaaGreatDoor.A Go.Proofs.YtgafnjgiikdofaaGreatDoor.R Go.Proofs.YtgafnjgiikdofaaGreatDoor.Sn Go.Proofs.YtgafnjgiikdofaaGreatDoor.So Go.Proofs.YtgafnjgiikdofaaGreatDoor.Sw Go.Proofs.YtgafnjgiikdofaaGreatDoor.Sx Go.Proofs.YtgafnjgiikdofaaGreatDoor.Sy Go.Proofs.YtgafnjgiikdofaaGreatDoor.Sc Go.Proofs.YtgafnjgiikdofaaGreatDoor.Sv Go.Proofs.YtgafnjgiikdofaaGreatDoor.Lr Go.Proofs.YtgafnjgiikdofaaGreatDoor.Ut Go.Proofs.YtgafnjgiikdofaaGreatDoor.Uu Go.Proofs.YtgafnjgiikdofaaGreatDoor.Uv Go.Proofs.YtgafnjgiikdofaaGreatDoor.Lq Go.Proofs.YtgafnjgiikdofaaGreatDoor.Rq Go.Proofs.YtgafnjgiikdofaaGreatDoor.Xc Go.Proofs.YtgafnjgiikdofaaGreatDoor.Xd Go.Proofs.YtgafnjgiikdofaaGreatDoor.Xr Go.Proofs.YtgafnjgiikdofaaGreatDoor.Dt Go.Proofs.YtgafnjgiikdofaaGreatDoor.Rw Go.Proofs.YtgafnjgiikdofaaGreatDoor.Bw
theorem of_nat (c : UInt8) : UInt8.ofNat c.toNat = c := by simp
theorem raw_rq (c : UInt8) (rest : List UInt8) : rawO ((rqB c ++ rest).length + 1) (rqB c ++ rest) = (rawO (rest.length + 1) rest).map fun p => (c :: p.1, p.2) := by
  unfold rqB
  by_cases h1 : c.toNat = 34 ∨ c.toNat = 92
  · rw [if_pos h1]
    have he : escR (c :: rest) = (c.toNat, 1) := by
      unfold escR
      rw [if_neg (by simp), if_pos (by simpa using h1)]
      simp
    show rawO (([92, c] ++ rest).length + 1) (92 :: (c :: rest)) = _
    rw [raw_92 _ _ _ (by rfl), he, if_neg (by simp), of_nat]
    simp only [List.drop_succ_cons, List.drop_zero]
    rw [raw_fuel _ (rest.length + 1) rest (by simp only [List.length_append, List.length_cons, List.length_nil]; omega) (by omega)]
  · rw [if_neg h1]
    by_cases h2 : c.toNat = 10
    · rw [if_pos h2]
      have hc : c = 10 := UInt8.toNat_inj.1 h2
      subst hc
      have he : escR (110 :: rest) = (10, 1) := by
        unfold escR
        rw [if_neg (by simp), if_neg (by simp), if_pos (by simp)]
      show rawO (([92, 110] ++ rest).length + 1) (92 :: (110 :: rest)) = _
      rw [raw_92 _ _ _ (by rfl), he, if_neg (by simp)]
      simp only [List.drop_succ_cons, List.drop_zero]
      rw [raw_fuel _ (rest.length + 1) rest (by simp only [List.length_append, List.length_cons, List.length_nil]; omega) (by omega)]
      rfl
    · rw [if_neg h2]
      by_cases h3 : c.toNat < 32 ∨ c.toNat = 127
      · rw [if_pos h3]
        have hct : ctrl c.toNat = true := by
          unfold ctrl
          rcases h3 with h | h
          · rw [decide_eq_true h]; simp [h2]
          · rw [h]; rfl
        have hw : [92, 117, 123] ++ (strOfNums (hexL c.toNat)).data.toList ++ [125] ++ rest = 92 :: (want c.toNat ++ rest) := by
          unfold want hexB
          simp
        have hf := find_is (want c.toNat ++ rest) c.toNat (by omega) hct (by rw [pre_take]; exact ⟨by simp, by simp⟩)
        have he : escR (want c.toNat ++ rest) = (c.toNat, (want c.toNat).length) := by
          unfold escR
          have hne : want c.toNat ++ rest ≠ [] := by unfold want; simp
          have h0 : (want c.toNat ++ rest).getD 0 0 = 117 := by unfold want; simp
          rw [if_neg hne, h0, if_neg (by decide), if_neg (by decide), hf]
        have hl : (want c.toNat).length ≠ 0 := by unfold want; simp
        rw [hw, raw_92 _ _ _ (by rfl), he, if_neg hl, of_nat]
        have hd : (want c.toNat ++ rest).drop (want c.toNat).length = rest := by simp
        simp only
        rw [hd, raw_fuel _ (rest.length + 1) rest (by simp only [List.length_append, List.length_cons, List.length_nil]; omega) (by omega)]
      · rw [if_neg h3]
        show rawO (([c] ++ rest).length + 1) (c :: rest) = _
        rw [raw_plain _ _ _ (fun h => h1 (Or.inl h)) (fun h => h1 (Or.inr h)) h3, raw_fuel _ (rest.length + 1) rest (by simp only [List.length_append, List.length_cons, List.length_nil]; omega) (by omega)]
theorem raw_quote : ∀ (l more : List UInt8), rawO ((l.flatMap rqB ++ 34 :: more).length + 1) (l.flatMap rqB ++ 34 :: more) = some (l, 34 :: more)
  | [], more => by
    simp only [List.flatMap_nil, List.nil_append]
    exact raw_34 _ _ _ rfl
  | c :: l, more => by
    rw [List.flatMap_cons, List.append_assoc, raw_rq, raw_quote l more]
    rfl
/-- a quoted text, whatever stands behind it -/
theorem unq_quote (s : ByteArray) (more : List UInt8) (hv : Lib.validD s.data.toList = true) : unqT (quoteL s ++ more) = (s.data.toList, (quoteL s).length, true) := by
  rw [Uq.quote_eq, if_pos hv]
  have e : (34 :: (s.data.toList.flatMap rqB ++ [34])) ++ more = 34 :: (s.data.toList.flatMap rqB ++ 34 :: more) := by simp
  rw [e]
  unfold unqT
  simp only
  rw [if_pos trivial, unq_raw _ _ _ _ (Nat.le_refl _) (by omega), raw_quote]
  simp only [outV, hv, if_true, List.nil_append, List.length_cons, List.length_append, List.length_nil]
  congr 2
  omega
theorem quote_ne (s : ByteArray) (hv : Lib.validD s.data.toList = true) : ∃ r, quoteL s = 34 :: r := by
  rw [Uq.quote_eq, if_pos hv]; exact ⟨_, rfl⟩
theorem name_all (s : ByteArray) : ∀ fuel pos, s.size - pos ≤ fuel → nameFrom s fuel pos = true → nm (s.data.toList.drop pos) = s.data.toList.drop pos := by
  intro fuel
  induction fuel with
  | zero =>
    intro pos h _
    rw [List.drop_eq_nil_of_le (by rw [← Lib.size_eq]; omega)]
    rfl
  | succ f ih =>
    intro pos h hn
    cases hd : s.data.toList.drop pos with
    | nil => rfl
    | cons b t =>
      obtain ⟨g1, g2, g3⟩ := bt_d s pos b t hd
      have e := bt_i s pos g1
      rw [g2] at e
      have hb : b = s[pos] := UInt8.toNat_inj.1 (Int.ofNat.inj e)
      unfold nameFrom at hn
      rw [if_pos g1] at hn
      by_cases ha : (s[pos]'g1).toNat < 128
      · rw [decode_ascii s pos g1 ha] at hn
        simp only at hn
        have hw : wch b = true := by
          unfold wch
          rw [hb]
          cases h1 : letB ((s[pos]'g1).toNat : Int) with
          | true => rfl
          | false =>
            rw [h1] at hn
            cases h2 : digB ((s[pos]'g1).toNat : Int) with
            | true => rfl
            | false => rw [h2] at hn; simp at hn
        have hr : nameFrom s f (pos + 1) = true := by
          revert hn
          cases letB ((s[pos]'g1).toNat : Int) <;> cases digB ((s[pos]'g1).toNat : Int) <;> by_cases h0 : pos = 0 <;> simp [h0]
        have := ih (pos + 1) (by omega) hr
        rw [g3] at this
        unfold nm at this ⊢
        rw [List.takeWhile_cons, if_pos hw, this]
      · have hg := far ((Utf8.decode s pos).1) (by have := (decode_high s pos g1 (by omega)).1; omega)
        rw [hg.1, hg.2] at hn
        simp at hn
theorem all_tw : ∀ (l : List UInt8) (b : UInt8), b ∈ nm l → wch b = true
  | [], b, h => by simp [nm] at h
  | x :: l, b, h => by
    unfold nm at h
    rw [List.takeWhile_cons] at h
    by_cases hx : wch x = true
    · rw [if_pos hx] at h
      rcases List.mem_cons.1 h with rfl | h
      · exact hx
      · exact all_tw l b h
    · rw [if_neg hx] at h; simp at h
/-- a name: letters and digits, at least one -/
theorem name_is (s : ByteArray) (h : nameB s = true) : (∀ b ∈ s.data.toList, wch b = true) ∧ s.data.toList ≠ [] := by
  unfold nameB at h
  simp only [Bool.and_eq_true, decide_eq_true_eq] at h
  have hn := name_all s s.size 0 (by omega) h.1
  rw [List.drop_zero] at hn
  refine ⟨fun b hb => ?_, fun he => ?_⟩
  · rw [← hn] at hb
    exact all_tw _ b hb
  · have hz : s.size = 0 := by rw [Lib.size_eq, he]; rfl
    omega
theorem nm_app : ∀ (n t : List UInt8), (∀ b ∈ n, wch b = true) → nm (n ++ 61 :: t) = n
  | [], t, _ => by unfold nm; rw [List.nil_append, List.takeWhile_cons, if_neg (by decide)]
  | b :: n, t, h => by
    have := nm_app n t (fun x hx => h x (by simp [hx]))
    unfold nm at this ⊢
    rw [List.cons_append, List.takeWhile_cons, if_pos (h b (by simp)), this]
theorem tl_ne (b : UInt8) (t : List UInt8) (h : b ≠ 32) : tl (b :: t) = b :: t := by rw [tl_cons, if_neg h]
/-- what stands behind a label that was printed -/
def T (r : List S47) : List UInt8 := (r.map fun x => [44, 32] ++ (Lp.E x).data.toList).flatten ++ [125]
theorem E_list (x : S47) : (Lp.E x).data.toList = x.f0.data.toList ++ (61 :: quoteL x.f1) := by
  unfold Lp.E
  rw [Lp.app_list, Lp.app_list]
  simp
theorem T_head (r : List S47) : ∃ b t, T r = b :: t ∧ b ≠ 32 := by
  cases r with
  | nil => exact ⟨125, [], rfl, by decide⟩
  | cons x r => exact ⟨44, _, rfl, by decide⟩
theorem E_head (x : S47) (hn : nameB x.f0 = true) (t : List UInt8) : tl ((Lp.E x).data.toList ++ t) = (Lp.E x).data.toList ++ t := by
  obtain ⟨h1, h2⟩ := name_is x.f0 hn
  rw [E_list]
  cases hs : x.f0.data.toList with
  | nil => exact absurd hs h2
  | cons b n =>
    refine tl_ne b _ (fun e => ?_)
    have := h1 b (by rw [hs]; simp)
    rw [e] at this
    exact absurd this (by decide)
theorem bs_of (s : ByteArray) : (⟨s.data.toList.toArray⟩ : ByteArray) = s := Lp.bs_inj' rfl
theorem one_printed (x : S47) (r : List S47) (hn : nameB x.f0 = true) (hv : Lib.validD x.f1.data.toList = true) : oneL ((Lp.E x).data.toList ++ T r) = (x.f0, x.f1, T r, true) := by
  obtain ⟨h1, h2⟩ := name_is x.f0 hn
  obtain ⟨q, hq⟩ := quote_ne x.f1 hv
  obtain ⟨b, t, hT, hb⟩ := T_head r
  have e : (Lp.E x).data.toList ++ T r = x.f0.data.toList ++ 61 :: (quoteL x.f1 ++ T r) := by rw [E_list]; simp
  rw [e]
  have hnm := nm_app x.f0.data.toList (quoteL x.f1 ++ T r) h1
  have hd : (x.f0.data.toList ++ 61 :: (quoteL x.f1 ++ T r)).drop x.f0.data.toList.length = 61 :: (quoteL x.f1 ++ T r) := by simp
  unfold oneL
  rw [hnm, hd, tl_ne 61 _ (by decide)]
  have hp : Lib.hasPrefix (61 :: (quoteL x.f1 ++ T r)) [61] = true := by rw [pre_cons]; decide
  have ht : Lib.trimPrefix (61 :: (quoteL x.f1 ++ T r)) [61] = quoteL x.f1 ++ T r := by
    unfold Lib.trimPrefix
    rw [if_pos hp]; rfl
  have hq2 : tl (quoteL x.f1 ++ T r) = quoteL x.f1 ++ T r := by rw [hq]; exact tl_ne 34 _ (by decide)
  rw [if_pos hp, ht, hq2, unq_quote x.f1 (T r) hv]
  have hdr : (quoteL x.f1 ++ T r).drop (quoteL x.f1).length = T r := by simp
  simp only [hdr]
  rw [hT, tl_ne b t hb, bs_of, bs_of]
theorem loop_printed : ∀ (m : Nat) (x : S47) (r acc : List S47), acc.length + r.length + 1 ≤ 16 → r.length < m → (∀ y ∈ x :: r, nameB y.f0 = true ∧ Lib.validD y.f1.data.toList = true) → loopL m ((Lp.E x).data.toList ++ T r) acc = some ([125], acc ++ x :: r)
  | 0, x, r, acc, h1, h2, h3 => by omega
  | m + 1, x, r, acc, h1, h2, h3 => by
    have hx := h3 x (by simp)
    rw [loopL, E_head x hx.1, one_printed x r hx.1 hx.2]
    simp only
    rw [if_pos trivial, if_neg (by omega)]
    cases r with
    | nil => rfl
    | cons y r =>
      have hT : T (y :: r) = 44 :: 32 :: ((Lp.E y).data.toList ++ T r) := by unfold T; simp
      have hp : Lib.hasPrefix (T (y :: r)) [44] = true := by rw [hT, pre_cons]; decide
      have ht : Lib.trimPrefix (T (y :: r)) [44] = 32 :: ((Lp.E y).data.toList ++ T r) := by
        unfold Lib.trimPrefix
        rw [if_pos hp, hT]; rfl
      rw [if_pos hp, ht]
      cases m with
      | zero => simp at h2
      | succ m =>
        have hb : loopL (m + 1) (32 :: ((Lp.E y).data.toList ++ T r)) (acc ++ [x]) = loopL (m + 1) ((Lp.E y).data.toList ++ T r) (acc ++ [x]) := by
          rw [loopL, loopL, tl_cons, if_pos rfl]
        have := loop_printed (m + 1) y r (acc ++ [x]) (by simp only [List.length_append, List.length_cons, List.length_nil] at *; omega) (by simp only [List.length_cons] at h2; omega) (fun z hz => h3 z (by rcases List.mem_cons.1 hz with rfl | hz <;> simp [*]))
        have hxe : (⟨x.f0, x.f1⟩ : S47) = x := rfl
        rw [hxe, hb, this]
        simp
theorem right_all (l : List S47) (h : rightB l = true) : ∀ y ∈ l, nameB y.f0 = true ∧ Lib.validD y.f1.data.toList = true := by
  intro y hy
  obtain ⟨j, hj, rfl⟩ := List.getElem_of_mem hy
  obtain ⟨h1, h2⟩ := Lp.right_each l l.length 0 (by omega) h j (by omega) hj
  rw [rd_of l j hj] at h1 h2
  refine ⟨h2, ?_⟩
  unfold valB at h1
  simp only [Bool.and_eq_true] at h1
  exact h1.2
theorem sort_same (l : List S47) (h : rightB l = true) : label_Sort.f l = some (l, 0) := by
  have h16 := right_ends l _ _ h
  have hs := Lp.right_small l h
  have hst : Ro.Srt l := (strict_of l h).imp fun hxy => Ro.ltL_asymm hxy
  have hu := uniq l (sortL l) (sortL_spec l).1.symm hst (sortL_srt l) h
  have hr : label_Right.f (l.length + 2) (sortL l) = some true := by
    rw [← hu, lright_eq l _ (by omega) (fun x hx => by have := hs x hx; omega) (by omega), h]
  unfold label_Sort.f
  rw [if_pos (by omega), hr, ← hu]
/-- labels that were printed are read as they were -/
theorem parse_print (l : List S47) (h : rightB l = true) (k : Nat) (hk : 5000 ≤ k) : ∃ p, label_Print.f k l = some p ∧ label_Parse.f k p = some (l, 0) := by
  have h16 := right_ends l _ _ h
  have hs := Lp.right_small l h
  obtain ⟨p, hp, hp2⟩ := Lp.print_alike l k (by omega) 128 (by omega) hs (by omega)
  refine ⟨p, hp, ?_⟩
  -- the printed text
  have hpl : p = Lp.Rr l l.length (⟨#[123]⟩ : ByteArray) 0 := by
    unfold icehouseref02_Print.f at hp2
    rw [rright_eq l k 128 (by omega) (by omega) hs (by omega), h] at hp2
    simp only [Option.bind_some] at hp2
    rw [if_pos trivial] at hp2
    have := Lp.rprint_l l 128 (by omega) (by omega) hs l.length k (⟨#[123]⟩ : ByteArray) 0 (by omega) (by omega) (by have : (⟨#[123]⟩ : ByteArray).size = 1 := rfl; omega)
    have hp3 : icehouseref02_Print.l0 k l (⟨#[123]⟩ : ByteArray) ((0 : Nat) : Int) = some p := hp2
    rw [this] at hp3
    exact (Option.some.inj hp3).symm
  cases l with
  | nil => simp at h16
  | cons x r =>
    have hl : p.data.toList = 123 :: ((Lp.E x).data.toList ++ T r) := by
      rw [hpl, Lp.rprint_list (x :: r) (by simp), List.map_cons, List.map_cons, Lib.join_cons, Lib.joinTail, List.map_map, List.map_map]
      unfold T
      simp [Function.comp_def]
    have hz := Lp.Rr_size (x :: r) 128 hs (x :: r).length (⟨#[123]⟩ : ByteArray) 0 (by omega)
    have h1 : (⟨#[123]⟩ : ByteArray).size = 1 := rfl
    have hlen : p.data.toList.length ≤ 20000 := by
      rw [← Lib.size_eq, hpl]
      have : (x :: r).length * (7 * 128 + 10) ≤ 16 * (7 * 128 + 10) := Nat.mul_le_mul_right _ h16.2
      omega
    have hb : label_blanks.f p = some ⟨(tl p.data.toList).toArray⟩ := rfl
    have ht : tl p.data.toList = 123 :: ((Lp.E x).data.toList ++ T r) := by rw [hl]; exact tl_ne 123 _ (by decide)
    have hc : strings_CutPrefix.f ⟨(123 :: ((Lp.E x).data.toList ++ T r)).toArray⟩ (⟨#[123]⟩ : ByteArray) = some (⟨((Lp.E x).data.toList ++ T r).toArray⟩, true) := by
      unfold strings_CutPrefix.f
      have e1 : (⟨(123 :: ((Lp.E x).data.toList ++ T r)).toArray⟩ : ByteArray).data.toList = 123 :: ((Lp.E x).data.toList ++ T r) := rfl
      have e2 : (⟨#[123]⟩ : ByteArray).data.toList = [123] := rfl
      rw [e1, e2]
      have hp : Lib.hasPrefix (123 :: ((Lp.E x).data.toList ++ T r)) [123] = true := by rw [pre_cons]; decide
      unfold Lib.trimPrefix
      rw [hp, if_pos rfl]; rfl
    rw [hl] at hlen
    simp only [List.length_cons] at hlen
    unfold label_Parse.f
    rw [hb, ht]
    simp only [Option.bind_some]
    rw [hc]
    simp only [Option.bind_some]
    have hlp := loop_printed 17 x r [] (by simp only [List.length_cons] at h16; simp; omega) (by simp only [List.length_cons] at h16; omega) (right_all (x :: r) h)
    rw [lab_l 17 k _ [] (by omega) (by simp) (by simp) (by omega), hlp]
    simp only [finL, List.nil_append]
    rw [if_pos (by decide)]
    exact sort_same (x :: r) h
theorem str_bytes (s : ByteArray) : strOfNums (bytesOf s) = s := by
  cases s with
  | mk d =>
    simp only [strOfNums, bytesOf, List.map_map]
    congr 1
    have : d.toList.map ((fun n => UInt8.ofNat n.toNat) ∘ fun b : UInt8 => (b.toNat : Int)) = d.toList := by
      rw [List.map_congr_left (g := id) (fun x _ => by simp), List.map_id]
    rw [this]
theorem step_enc (m : Int) (rest : List Int) (h0 : 0 ≤ m) (h1 : m < 72057594037927936) : stepD (enc 7 m ++ rest) 0 = (m, rest, 0) := by
  unfold stepD
  rw [if_pos rfl, read_enc m rest h0 h1]
  simp
theorem text_enc (s : ByteArray) (rest : List Int) (h : s.size ≤ 65536) : decT (eS s ++ rest) 0 = (s, rest, 0) := by
  have hl := bytesOf_len s
  unfold decT eS
  rw [List.append_assoc, step_enc _ _ (by omega) (by omega)]
  unfold textR
  rw [if_neg (by simp), if_neg (by omega), if_neg (by rw [List.length_append, hl]; omega), Int.toNat_natCast]
  have e1 : (bytesOf s ++ rest).take s.size = bytesOf s := by rw [← hl]; simp
  have e2 : (bytesOf s ++ rest).drop s.size = rest := by rw [← hl]; simp
  rw [e1, e2, str_bytes]
theorem readK_enc : ∀ (l acc : List S47), (∀ x ∈ l, x.f0.size ≤ 128 ∧ x.f1.size ≤ 128) → readK l.length (l.map eX).flatten 0 acc = (acc ++ l, [], 0)
  | [], acc, _ => by simp [readK]
  | x :: l, acc, h => by
    have hx := h x (by simp)
    have e : ((x :: l).map eX).flatten = eS x.f0 ++ (eS x.f1 ++ (l.map eX).flatten) := by simp [eX]
    rw [List.length_cons, readK, e, text_enc _ _ (by omega)]
    simp only
    rw [text_enc _ _ (by omega)]
    simp only
    rw [readK_enc l _ (fun y hy => h y (by simp [hy]))]
    simp
/-- labels that were written as bytes are read as they were -/
theorem read_enc_l (l : List S47) (h : rightB l = true) : readL (encL l) = (l, 0) := by
  have h16 := right_ends l _ _ h
  have hs := Lp.right_small l h
  have hst : stepD (encL l) 0 = ((l.length : Int), (l.map eX).flatten, 0) := step_enc _ _ (by omega) (by omega)
  have hN : readN (encL l) = l.length := by unfold readN; rw [hst]; simp only; omega
  have hR : readR (encL l) = (l, [], 0) := by
    unfold readR
    rw [hN, hst]
    simpa using readK_enc l [] hs
  unfold readL
  rw [hR]
  simp only
  rw [if_pos ⟨by rfl, h⟩]
theorem byts_app {a b : List Int} (ha : Byts a) (hb : Byts b) : Byts (a ++ b) := fun c hc => (List.mem_append.1 hc).elim (ha c) (hb c)
theorem bytesOf_byts (s : ByteArray) : Byts (bytesOf s) := by
  intro c hc
  unfold bytesOf at hc
  obtain ⟨b, _, rfl⟩ := List.mem_map.1 hc
  have := b.toNat_lt
  omega
theorem eS_byts (s : ByteArray) (h : s.size ≤ 65536) : Byts (eS s) := byts_app (enc_byts 7 _ (by omega) (by omega)) (bytesOf_byts s)
theorem encL_byts (l : List S47) (h : rightB l = true) : Byts (encL l) := by
  have h16 := right_ends l _ _ h
  have hs := Lp.right_small l h
  refine byts_app (enc_byts 7 _ (by omega) (by omega)) ?_
  intro c hc
  obtain ⟨q, hq, hcq⟩ := List.mem_flatten.1 hc
  obtain ⟨x, hx, rfl⟩ := List.mem_map.1 hq
  have := hs x hx
  exact byts_app (eS_byts _ (by omega)) (eS_byts _ (by omega)) c hcq
theorem encL_len (l : List S47) (h : rightB l = true) : (encL l).length ≤ 10000 := by
  have h16 := right_ends l _ _ h
  have hs := Lp.right_small l h
  have h1 := flat_le' l 128 hs l.length
  rw [List.take_length] at h1
  have h2 := enc_len 7 (l.length : Int)
  have : l.length * (16 + 2 * 128) ≤ 16 * (16 + 2 * 128) := Nat.mul_le_mul_right _ h16.2
  unfold encL
  rw [List.length_append]
  omega
end Go.Proofs.YtgafnjgiikdofaaGreatDoor.Lz
