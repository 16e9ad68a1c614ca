/- The document's Unquote and the program's: one and the same. -/
import Derived.Test.YtgafnjgiikdofaaGreatDoorMe
import Derived.Test.YtgafnjgiikdofaaGreatDoorMc
namespace Go.Proofs.YtgafnjgiikdofaaGreatDoor.Uu
set_option linter.unusedVariables false
set_option linter.unusedSimpArgs false
open Go.RowKit Go.Proofs.YtgafnjgiikdofaaGreatDoor.A Go.Proofs.YtgafnjgiikdofaaGreatDoor.Ut Go.Proofs.YtgafnjgiikdofaaGreatDoor.Sq Go.Proofs.YtgafnjgiikdofaaGreatDoor.Sm Go.Proofs.YtgafnjgiikdofaaGreatDoor.Rq Go.Proofs.YtgafnjgiikdofaaGreatDoor.Sf Go.Proofs.YtgafnjgiikdofaaGreatDoor.Se Go.Proofs.YtgafnjgiikdofaaGreatDoor.Su
open Go.Proofs.YtgafnjgiikdofaaGreatDoorW.PrintWords Go.Proofs.YtgafnjgiikdofaaGreatDoorW.PrintLast Go.Proofs.YtgafnjgiikdofaaGreatDoorW.PrintMore
/-- the runes that are written by their number -/
def ctrl (c : Nat) : Bool := (decide (c < 32) && !(c == 10)) || c == 127
/-- the digits of such a rune -/
def hexB (c : Nat) : List UInt8 := (strOfNums (hexL c)).data.toList
/-- what stands behind the backslash -/
def want (c : Nat) : List UInt8 := 117 :: 123 :: (hexB c ++ [125])
theorem hex_facts : ∀ c : Fin 128, hexU 0 (hexB c.val) = .ok c.val ∧ (125 : UInt8) ∉ hexB c.val ∧ 1 ≤ (hexB c.val).length ∧ (hexB c.val).length ≤ 2 := by decide +kernel
theorem want_free : ∀ c d : Fin 128, ctrl c.val = true → ctrl d.val = true → (want c.val).isPrefixOf (want d.val) = true → c = d := by decide +kernel
theorem mark_ctrl : ∀ c : Fin 128, ctrl c.val = true → markL c.val = 92 :: want c.val := by decide +kernel
theorem mark_other : ∀ c : Fin 256, ctrl c.val = false → ((markL c.val).getD 0 0 ≠ 92 ∧ 1 ≤ (markL c.val).length) ∨ ((markL c.val).getD 1 0 ≠ 117 ∧ 2 ≤ (markL c.val).length) := by decide +kernel
/-- the rune that is written by its number at the beginning -/
def findC (t : List UInt8) (c n : Nat) : Option Nat := (List.range' c n).find? fun d => ctrl d && (want d).isPrefixOf t
/-- what the document's escape answers of a text -/
def escR (t : List UInt8) : Nat × Nat :=
  if t = [] then (0, 0) else if (t.getD 0 0).toNat = 34 ∨ (t.getD 0 0).toNat = 92 then ((t.getD 0 0).toNat, 1)
  else if (t.getD 0 0).toNat = 110 then (10, 1) else match findC t 0 128 with
    | some c => (c, (want c).length)
    | none => (0, 0)
theorem pre_take (p l : List UInt8) : p.isPrefixOf l = true ↔ p.length ≤ l.length ∧ l.take p.length = p := by
  rw [List.isPrefixOf_iff_prefix]
  constructor
  · intro h
    exact ⟨h.length_le, (List.prefix_iff_eq_take.1 h).symm⟩
  · rintro ⟨_, h⟩
    exact List.prefix_iff_eq_take.2 h.symm
/-- the rune written by its number: the least, and the only one -/
theorem find_some (t : List UInt8) (c : Nat) (h : findC t 0 128 = some c) : c < 128 ∧ ctrl c = true ∧ (want c).isPrefixOf t = true := by
  unfold findC at h
  have h1 := List.find?_some h
  have h2 := List.mem_of_find?_eq_some h
  simp only [List.mem_range'_1] at h2
  simp only [Bool.and_eq_true] at h1
  exact ⟨by omega, h1.1, h1.2⟩
theorem find_is (t : List UInt8) (c : Nat) (hc : c < 128) (h1 : ctrl c = true) (h2 : (want c).isPrefixOf t = true) : findC t 0 128 = some c := by
  cases hf : findC t 0 128 with
  | none =>
    unfold findC at hf
    rw [List.find?_eq_none] at hf
    have := hf c (by simp only [List.mem_range'_1]; omega)
    simp [h1, h2] at this
  | some d =>
    obtain ⟨k1, k2, k3⟩ := find_some t d hf
    rw [List.isPrefixOf_iff_prefix] at h2 k3
    have : c = d := by
      rcases List.prefix_or_prefix_of_prefix h2 k3 with h | h
      · have := want_free ⟨c, hc⟩ ⟨d, k1⟩ h1 k2 (List.isPrefixOf_iff_prefix.2 h)
        exact congrArg Fin.val this
      · have := want_free ⟨d, k1⟩ ⟨c, hc⟩ k2 h1 (List.isPrefixOf_iff_prefix.2 h)
        exact (congrArg Fin.val this).symm
    rw [this]
theorem index_app : ∀ (p t : List UInt8) (c : UInt8), c ∉ p → Lib.indexByte (p ++ c :: t) c = (p.length : Int)
  | [], t, c, _ => by simp [Lib.indexByte]
  | a :: p, t, c, h => by
    have hac : (a == c) = false := by
      rw [beq_eq_false_iff_ne]; rintro rfl; exact h (by simp)
    have ih := index_app p t c (fun hm => h (by simp [hm]))
    rw [List.cons_append]
    unfold Lib.indexByte
    rw [hac, ih]
    simp
/-- what the program takes behind a backslash: the rune, and how many bytes with the backslash; none where the mark is another -/
def escP (l : List UInt8) : Option (Nat × Nat) := if (escL l).2 = 0 then none else if Lib.hasPrefix l (markL (escL l).1) then some (escL l) else none
theorem escP_one (x : UInt8) (t : List UInt8) (c : Nat) (he : escL (92 :: x :: t) = (c, 2)) (hr : escR (x :: t) = (c, 1)) (hm : markL c = [92, x]) : escP (92 :: x :: t) = some (c, 2) := by
  unfold escP
  rw [he]
  simp [Lib.hasPrefix, hm]
theorem hasP (p l : List UInt8) : Lib.hasPrefix l p = p.isPrefixOf l := rfl
/-- it is the document's -/
theorem escP_is (t : List UInt8) : escP (92 :: t) = if (escR t).2 = 0 then none else some ((escR t).1, (escR t).2 + 1) := by
  cases t with
  | nil => rfl
  | cons x t =>
    have hx := x.toNat_lt
    have hl2 : ¬ (92 :: x :: t).length < 2 := by simp
    have g1 : (92 :: x :: t).getD 1 0 = x := rfl
    have g0 : (x :: t).getD 0 0 = x := rfl
    have hne : ¬ (x :: t = []) := by simp
    by_cases h110 : x.toNat = 110
    · have hr : escR (x :: t) = (10, 1) := by unfold escR; rw [if_neg hne, g0, if_neg (by omega), if_pos h110]
      have hxe : x = 110 := UInt8.toNat_inj.1 h110
      rw [escP_one x t 10 (by unfold escL; rw [if_neg hl2, g1, if_pos h110]) hr (by rw [hxe]; decide +kernel), hr]
      rfl
    · by_cases h34 : x.toNat = 34 ∨ x.toNat = 92
      · have hr : escR (x :: t) = (x.toNat, 1) := by unfold escR; rw [if_neg hne, g0, if_pos h34]
        have hm : markL x.toNat = [92, x] := by
          rcases h34 with h | h
          · have hxe : x = 34 := UInt8.toNat_inj.1 h
            rw [hxe]; decide +kernel
          · have hxe : x = 92 := UInt8.toNat_inj.1 h
            rw [hxe]; decide +kernel
        rw [escP_one x t x.toNat (by unfold escL; rw [if_neg hl2, g1, if_neg h110, if_pos h34]) hr hm, hr]
        rfl
      · have hr : escR (x :: t) = match findC (x :: t) 0 128 with | some c => (c, (want c).length) | none => (0, 0) := by
          unfold escR; rw [if_neg hne, g0, if_neg h34, if_neg h110]
        have hl : escL (92 :: x :: t) = if Lib.indexByte (92 :: x :: t) 125 < 4 ∨ 6 < Lib.indexByte (92 :: x :: t) 125 ∨ Lib.hasPrefix (92 :: x :: t) [92, 117, 123] = false then (0, 0) else
            match hexU 0 (((92 :: x :: t).take (Lib.indexByte (92 :: x :: t) 125).toNat).drop 3) with
            | .ok v => (v, (Lib.indexByte (92 :: x :: t) 125).toNat + 1)
            | _ => (0, 0) := by
          unfold escL; rw [if_neg hl2, g1, if_neg h110, if_neg h34]; rfl
        cases hf : findC (x :: t) 0 128 with
        | some c =>
          obtain ⟨k1, k2, k3⟩ := find_some _ c hf
          obtain ⟨f1, f2, f3, f4⟩ := hex_facts ⟨c, k1⟩
          simp only at f1 f2 f3 f4
          rw [List.isPrefixOf_iff_prefix] at k3
          obtain ⟨t', ht'⟩ := k3
          have hL : 92 :: x :: t = (92 :: 117 :: 123 :: hexB c) ++ 125 :: t' := by
            rw [← ht']; unfold want; simp
          have hi : Lib.indexByte (92 :: x :: t) 125 = ((3 + (hexB c).length : Nat) : Int) := by
            rw [hL, index_app _ _ _ (by simp [f2])]
            simp; omega
          have hp : Lib.hasPrefix (92 :: x :: t) [92, 117, 123] = true := by
            rw [hL, hasP, List.isPrefixOf_iff_prefix]
            exact ⟨hexB c ++ 125 :: t', by simp⟩
          have htk : ((92 :: x :: t).take (3 + (hexB c).length)).drop 3 = hexB c := by
            rw [hL, List.take_append_of_le_length (by simp; omega), List.take_of_length_le (by simp; omega)]
            rfl
          rw [hi, hp, Int.toNat_natCast, htk, f1] at hl
          rw [if_neg (by simp; omega)] at hl
          simp only at hl
          have hw : (want c).length = 3 + (hexB c).length := by unfold want; simp; omega
          rw [hf] at hr
          simp only at hr
          rw [hr]
          unfold escP
          rw [hl]
          simp only
          have hpp : Lib.hasPrefix (92 :: x :: t) (markL c) = true := by
            rw [mark_ctrl ⟨c, k1⟩ k2, hasP, List.isPrefixOf_iff_prefix, ← ht']
            exact ⟨t', by simp⟩
          rw [if_neg (show ¬ 3 + (hexB c).length + 1 = 0 from by omega), if_pos hpp, if_neg (show ¬ (want c).length = 0 from by omega), hw]
        | none =>
          rw [hf] at hr
          simp only at hr
          rw [hr, if_pos rfl]
          unfold escP
          by_cases h0 : (escL (92 :: x :: t)).2 = 0
          · rw [if_pos h0]
          · rw [if_neg h0, if_neg]
            intro hpm
            rw [hl] at h0 hpm
            split at h0
            · exact h0 rfl
            · rename_i hcond
              rw [if_neg hcond] at hpm
              have hpre : Lib.hasPrefix (92 :: x :: t) [92, 117, 123] = true := by
                cases hq : Lib.hasPrefix (92 :: x :: t) [92, 117, 123] with
                | true => rfl
                | false => exact absurd (Or.inr (Or.inr hq)) hcond
              cases hu : hexU 0 (((92 :: x :: t).take (Lib.indexByte (92 :: x :: t) 125).toNat).drop 3) with
              | ok v =>
                rw [hu] at hpm
                simp only at hpm
                have hv := hexU_le _ 0 (by omega) v hu
                have hx117 : x = 117 := by
                  rw [hasP] at hpre
                  simp [List.isPrefixOf] at hpre
                  exact hpre.1.symm
                subst hx117
                cases hct : ctrl v with
                | true =>
                  have hv128 : v < 128 := by
                    unfold ctrl at hct
                    simp at hct
                    omega
                  rw [mark_ctrl ⟨v, hv128⟩ hct, hasP] at hpm
                  have hpm' : (want v).isPrefixOf (117 :: t) = true := by
                    simpa [List.isPrefixOf] using hpm
                  rw [find_is _ v hv128 hct hpm'] at hf
                  cases hf
                | false =>
                  have ho := mark_other ⟨v, by omega⟩ hct
                  simp only at ho
                  rw [hasP, List.isPrefixOf_iff_prefix] at hpm
                  obtain ⟨q, hq⟩ := hpm
                  rcases ho with ⟨h1, h2⟩ | ⟨h1, h2⟩
                  · apply h1
                    have := congrArg (fun l => l.getD 0 0) hq
                    simp only [List.getD_eq_getElem?_getD] at this ⊢
                    rw [List.getElem?_append_left (by omega)] at this
                    simpa using this
                  · apply h1
                    have := congrArg (fun l => l.getD 1 0) hq
                    simp only [List.getD_eq_getElem?_getD] at this ⊢
                    rw [List.getElem?_append_left (by omega)] at this
                    simpa using this
              | _ => rw [hu] at h0; exact h0 rfl
end Go.Proofs.YtgafnjgiikdofaaGreatDoor.Uu
namespace Go.Proofs.YtgafnjgiikdofaaGreatDoor.Uv
set_option linter.unusedVariables false
set_option linter.unusedSimpArgs false
open Go.RowKit Go.Proofs.YtgafnjgiikdofaaGreatDoor.A Go.Proofs.YtgafnjgiikdofaaGreatDoor.Ut Go.Proofs.YtgafnjgiikdofaaGreatDoor.Sq Go.Proofs.YtgafnjgiikdofaaGreatDoor.Rq Go.Proofs.YtgafnjgiikdofaaGreatDoor.Se Go.Proofs.YtgafnjgiikdofaaGreatDoor.Su Go.Proofs.YtgafnjgiikdofaaGreatDoor.Sx Go.Proofs.YtgafnjgiikdofaaGreatDoor.So Go.Proofs.YtgafnjgiikdofaaGreatDoor.Uq Go.Proofs.YtgafnjgiikdofaaGreatDoor.Uu
open Go.RowKit
open Go.Proofs.YtgafnjgiikdofaaGreatDoorW.PrintWords Go.Proofs.YtgafnjgiikdofaaGreatDoorW.PrintLast Go.Proofs.YtgafnjgiikdofaaGreatDoorW.PrintMore
/-- what is meant up to the last quote, byte by byte; and the last quote with what stands behind it -/
def rawO : Nat → List UInt8 → Option (List UInt8 × List UInt8)
  | 0, _ => none
  | _ + 1, [] => none
  | f + 1, b :: t =>
    if b.toNat = 34 then some ([], b :: t)
    else if b.toNat = 92 then (if (escR t).2 = 0 then none else (rawO f (t.drop (escR t).2)).map fun p => (UInt8.ofNat (escR t).1 :: p.1, p.2))
    else if b.toNat < 32 ∨ b.toNat = 127 then none else (rawO f t).map fun p => (b :: p.1, p.2)
theorem escR_lt (t : List UInt8) (h : (escR t).2 ≠ 0) : (escR t).1 < 128 ∧ (escR t).2 ≤ t.length := by
  unfold escR at *
  split at h
  · exact absurd rfl h
  · rename_i hne
    have hl := List.length_pos_iff.2 hne
    split at h
    · rename_i h1
      rw [if_neg hne, if_pos h1]
      exact ⟨by simp only; omega, by simp only; omega⟩
    · rename_i h1
      split at h
      · rename_i h2
        rw [if_neg hne, if_neg h1, if_pos h2]
        exact ⟨by simp only; omega, by simp only; omega⟩
      · rename_i h2
        rw [if_neg hne, if_neg h1, if_neg h2]
        cases hf : findC t 0 128 with
        | none => rw [hf] at h; exact absurd rfl h
        | some c =>
          obtain ⟨k1, k2, k3⟩ := find_some t c hf
          exact ⟨k1, ((pre_take _ _).1 k3).1⟩
theorem raw_fuel : ∀ (f g : Nat) (l : List UInt8), l.length < f → l.length < g → rawO f l = rawO g l
  | 0, _, l, h, _ => by omega
  | _, 0, l, _, h => by omega
  | f + 1, g + 1, [], _, _ => rfl
  | f + 1, g + 1, b :: t, hf, hg => by
    simp only [List.length_cons] at hf hg
    simp only [rawO]
    rw [raw_fuel f g (t.drop (escR t).2) (by rw [List.length_drop]; omega) (by rw [List.length_drop]; omega), raw_fuel f g t (by omega) (by omega)]
/-- of a byte from 128 on -/
theorem raw_high (f : Nat) (b : UInt8) (t : List UInt8) (h : 128 ≤ b.toNat) : rawO (f + 1) (b :: t) = (rawO f t).map fun p => (b :: p.1, p.2) := by
  simp only [rawO]
  rw [if_neg (by omega), if_neg (by omega), if_neg (by omega)]
theorem raw_take : ∀ (k f : Nat) (l : List UInt8), (∀ b ∈ l.take k, 128 ≤ b.toNat) → k ≤ l.length → rawO (f + k) l = (rawO f (l.drop k)).map fun p => (l.take k ++ p.1, p.2)
  | 0, f, l, _, _ => by
    simp
  | k + 1, f, [], _, h => by simp at h
  | k + 1, f, b :: t, hb, h => by
    simp only [List.length_cons] at h
    rw [show f + (k + 1) = (f + k) + 1 from rfl, raw_high _ _ _ (hb b (by simp)), raw_take k f t (fun x hx => hb x (by simp [hx])) (by omega)]
    simp only [List.drop_succ_cons, List.take_succ_cons, List.cons_append, Option.map_map]
    rfl
/-- what comes out begins as what stands there, as far as its bytes are from 128 on -/
theorem raw_next (f : Nat) (b : UInt8) (t o r : List UInt8) (h : rawO f (b :: t) = some (o, r)) :
    (128 ≤ b.toNat → ∃ o', o = b :: o' ∧ ∃ f', rawO f' t = some (o', r)) ∧ (b.toNat < 128 → o = [] ∨ ∃ c o', o = c :: o' ∧ c.toNat < 128) := by
  cases f with
  | zero => simp [rawO] at h
  | succ f =>
    refine ⟨fun hb => ?_, fun hb => ?_⟩
    · rw [raw_high _ _ _ hb] at h
      cases hr : rawO f t with
      | none => rw [hr] at h; cases h
      | some p =>
        rw [hr] at h
        simp only [Option.map_some, Option.some.injEq, Prod.mk.injEq] at h
        obtain ⟨rfl, rfl⟩ := h
        exact ⟨_, rfl, f, hr⟩
    · simp only [rawO] at h
      split at h
      · simp only [Option.some.injEq, Prod.mk.injEq] at h
        exact .inl h.1.symm
      · split at h
        · split at h
          · cases h
          · rename_i he
            have hc := (escR_lt t he).1
            cases hr : rawO f (t.drop (escR t).2) with
            | none => rw [hr] at h; cases h
            | some p =>
              rw [hr] at h
              simp only [Option.map_some, Option.some.injEq, Prod.mk.injEq] at h
              exact .inr ⟨_, _, h.1.symm, by simp; omega⟩
        · split at h
          · cases h
          · cases hr : rawO f t with
            | none => rw [hr] at h; cases h
            | some p =>
              rw [hr] at h
              simp only [Option.map_some, Option.some.injEq, Prod.mk.injEq] at h
              exact .inr ⟨_, _, h.1.symm, hb⟩
/-- a byte of the second to fourth place of a rune -/
def cont (l : List UInt8) (i : Nat) : Prop := i < l.length ∧ (l.getD i 0).toNat / 64 = 2
theorem cont_next (f : Nat) (t o r : List UInt8) (h : rawO f t = some (o, r)) : (cont o 0 ↔ cont t 0) ∧ (cont t 0 → o.getD 0 0 = t.getD 0 0 ∧ ∃ f', rawO f' (t.drop 1) = some (o.drop 1, r)) := by
  cases t with
  | nil => cases f <;> simp [rawO] at h
  | cons b t =>
    obtain ⟨h1, h2⟩ := raw_next f b t o r h
    by_cases hb : 128 ≤ b.toNat
    · obtain ⟨o', rfl, f', hf'⟩ := h1 hb
      exact ⟨by unfold cont; simp, fun _ => ⟨rfl, f', hf'⟩⟩
    · have hn : ¬ cont (b :: t) 0 := by unfold cont; simp; omega
      refine ⟨⟨fun hc => ?_, fun hc => absurd hc hn⟩, fun hc => absurd hc hn⟩
      rcases h2 (by omega) with rfl | ⟨c, o', rfl, hc'⟩
      · unfold cont at hc; simp at hc
      · unfold cont at hc; simp at hc; omega
theorem cont_drop (l : List UInt8) (i j : Nat) : cont (l.drop i) j ↔ cont l (i + j) := by
  unfold cont
  simp only [List.length_drop, List.getD_eq_getElem?_getD, List.getElem?_drop]
  constructor
  · rintro ⟨h1, h2⟩; exact ⟨by omega, h2⟩
  · rintro ⟨h1, h2⟩; exact ⟨by omega, h2⟩
theorem getD_drop (l : List UInt8) (i j : Nat) : (l.drop i).getD j 0 = l.getD (i + j) 0 := by
  simp only [List.getD_eq_getElem?_getD, List.getElem?_drop]
/-- two texts whose first runes stand on the same bytes -/
theorem dec_same (l o : List UInt8) (h0 : o.getD 0 0 = l.getD 0 0) (h1 : cont o 1 ↔ cont l 1) (g1 : cont l 1 → o.getD 1 0 = l.getD 1 0)
    (h2 : cont l 1 → (cont o 2 ↔ cont l 2)) (g2 : cont l 1 → cont l 2 → o.getD 2 0 = l.getD 2 0)
    (h3 : cont l 1 → cont l 2 → (cont o 3 ↔ cont l 3)) (g3 : cont l 1 → cont l 2 → cont l 3 → o.getD 3 0 = l.getD 3 0) : Lib.decodeL o = Lib.decodeL l := by
  rw [decodeL_eq, decodeL_eq, h0]
  unfold Lib.decodeN
  unfold cont at h1 g1 h2 g2 h3 g3
  by_cases c1 : 1 < l.length ∧ (l.getD 1 0).toNat / 64 = 2
  · have d1 := h1.2 c1
    have k1 := g1 c1
    by_cases c2 : 2 < l.length ∧ (l.getD 2 0).toNat / 64 = 2
    · have d2 := (h2 c1).2 c2
      have k2 := g2 c1 c2
      by_cases c3 : 3 < l.length ∧ (l.getD 3 0).toNat / 64 = 2
      · have d3 := (h3 c1 c2).2 c3
        have k3 := g3 c1 c2 c3
        rw [k1] at d1 ⊢
        rw [k2] at d2 ⊢
        rw [k3] at d3 ⊢
        simp only [c1, c2, c3, d1, d2, d3]
      · have d3 : (3 < o.length ∧ (o.getD 3 0).toNat / 64 = 2) = False := eq_false fun h => c3 ((h3 c1 c2).1 h)
        have q3 := eq_false c3
        rw [k1] at d1 ⊢
        rw [k2] at d2 ⊢
        simp only [c1, c2, q3, d1, d2, d3, and_false, if_false]
    · have d2 : (2 < o.length ∧ (o.getD 2 0).toNat / 64 = 2) = False := eq_false fun h => c2 ((h2 c1).1 h)
      have q2 := eq_false c2
      rw [k1] at d1 ⊢
      simp only [c1, q2, d1, d2, and_false, false_and, if_false]
  · have d1 : (1 < o.length ∧ (o.getD 1 0).toNat / 64 = 2) = False := eq_false fun h => c1 (h1.1 h)
    have q1 := eq_false c1
    simp only [q1, d1, and_false, false_and, if_false]
theorem dec_out (f : Nat) (b : UInt8) (t o r : List UInt8) (hb : 128 ≤ b.toNat) (h : rawO f (b :: t) = some (o, r)) : Lib.decodeL o = Lib.decodeL (b :: t) := by
  obtain ⟨o1, rfl, f1, k1⟩ := (raw_next f b t o r h).1 hb
  obtain ⟨a1, b1⟩ := cont_next f1 t o1 r k1
  refine dec_same _ _ rfl ?_ ?_ ?_ ?_ ?_ ?_
  · rw [← cont_drop (b :: o1) 1 0, ← cont_drop (b :: t) 1 0]; exact a1
  · intro c1
    rw [← cont_drop (b :: t) 1 0] at c1
    exact (b1 c1).1
  · intro c1
    rw [← cont_drop (b :: t) 1 0] at c1
    obtain ⟨_, f2, k2⟩ := b1 c1
    have := (cont_next f2 _ _ r k2).1
    rw [cont_drop, cont_drop] at this
    rw [← cont_drop (b :: o1) 1 1, ← cont_drop (b :: t) 1 1]
    exact this
  · intro c1 c2
    rw [← cont_drop (b :: t) 1 0] at c1
    rw [← cont_drop (b :: t) 1 1] at c2
    obtain ⟨_, f2, k2⟩ := b1 c1
    have h2 := (cont_next f2 _ _ r k2).2 ((cont_drop t 1 0).2 c2)
    have := h2.1
    rw [getD_drop, getD_drop] at this
    exact this
  · intro c1 c2
    rw [← cont_drop (b :: t) 1 0] at c1
    rw [← cont_drop (b :: t) 1 1] at c2
    obtain ⟨_, f2, k2⟩ := b1 c1
    obtain ⟨_, f3, k3⟩ := (cont_next f2 _ _ r k2).2 ((cont_drop t 1 0).2 c2)
    have := (cont_next f3 _ _ r k3).1
    rw [List.drop_drop, List.drop_drop, cont_drop, cont_drop] at this
    rw [← cont_drop (b :: o1) 1 2, ← cont_drop (b :: t) 1 2]
    exact this
  · intro c1 c2 c3
    rw [← cont_drop (b :: t) 1 0] at c1
    rw [← cont_drop (b :: t) 1 1] at c2
    rw [← cont_drop (b :: t) 1 2] at c3
    obtain ⟨_, f2, k2⟩ := b1 c1
    obtain ⟨_, f3, k3⟩ := (cont_next f2 _ _ r k2).2 ((cont_drop t 1 0).2 c2)
    have h2 := (cont_next f3 _ _ r k3).2 (by rw [List.drop_drop]; exact (cont_drop t 2 0).2 c3)
    have := h2.1
    rw [List.drop_drop, List.drop_drop, getD_drop, getD_drop] at this
    exact this
theorem encodeRune_ascii (c : Nat) (h : c < 128) : Lib.encodeRune (c : Int) = [UInt8.ofNat c] := by
  unfold Lib.encodeRune
  rw [Lib.encodeRuneZ_one (by omega) (by omega)]
  simp
theorem encodeRune_is (c : Nat) (h0 : 128 ≤ c) (h : c < 55296 ∨ (57344 ≤ c ∧ c ≤ 1114111)) : Lib.encodeRune (c : Int) = (Utf8.encode (c : Int)).data.toList := by
  rw [enc_is c h, if_neg (by omega)]
  unfold Lib.encodeRune
  by_cases h1 : c < 2048
  · rw [Lib.encodeRuneZ_two (by omega) (by omega), if_pos h1]
    simp only [List.map_cons, List.map_nil]
    have e1 : ((192 : Int) + (c : Int) / 64).toNat = 192 + c / 64 := by omega
    have e2 : ((128 : Int) + (c : Int) % 64).toNat = 128 + c % 64 := by omega
    rw [e1, e2]
  · rw [if_neg h1]
    by_cases h2 : c < 65536
    · rw [Lib.encodeRuneZ_three (by omega), if_pos h2]
      simp only [List.map_cons, List.map_nil]
      have e1 : ((224 : Int) + (c : Int) / 4096).toNat = 224 + c / 4096 := by omega
      have e2 : ((128 : Int) + (c : Int) / 64 % 64).toNat = 128 + c / 64 % 64 := by omega
      have e3 : ((128 : Int) + (c : Int) % 64).toNat = 128 + c % 64 := by omega
      rw [e1, e2, e3]
    · rw [Lib.encodeRuneZ_four (by omega) (by omega), if_neg h2]
      simp only [List.map_cons, List.map_nil]
      have e1 : ((240 : Int) + (c : Int) / 262144).toNat = 240 + c / 262144 := by omega
      have e2 : ((128 : Int) + (c : Int) / 4096 % 64).toNat = 128 + c / 4096 % 64 := by omega
      have e3 : ((128 : Int) + (c : Int) / 64 % 64).toNat = 128 + c / 64 % 64 := by omega
      have e4 : ((128 : Int) + (c : Int) % 64).toNat = 128 + c % 64 := by omega
      rw [e1, e2, e3, e4]
theorem decN_ok (n b0 b1 b2 b3 : Nat) (hb : b0 < 256) : ¬ ((Lib.decodeN n b0 b1 b2 b3).1 = 65533 ∧ (Lib.decodeN n b0 b1 b2 b3).2 = 1) → 128 ≤ (Lib.decodeN n b0 b1 b2 b3).1 →
    (Lib.decodeN n b0 b1 b2 b3).1 < 55296 ∨ (57344 ≤ (Lib.decodeN n b0 b1 b2 b3).1 ∧ (Lib.decodeN n b0 b1 b2 b3).1 ≤ 1114111) := by
  unfold Lib.decodeN
  repeat' split
  all_goals (intro h1 h2; simp only at *; omega)
theorem decode_ok (l : List UInt8) (hok : ¬ ((Lib.decodeL l).1 = 65533 ∧ (Lib.decodeL l).2 = 1)) (h : 128 ≤ (Lib.decodeL l).1) : (Lib.decodeL l).1 < 55296 ∨ (57344 ≤ (Lib.decodeL l).1 ∧ (Lib.decodeL l).1 ≤ 1114111) := by
  rw [decodeL_eq] at *
  exact decN_ok _ _ _ _ _ (l.getD 0 0).toNat_lt hok h
theorem dec_ascii (b : UInt8) (t : List UInt8) (h : b.toNat < 128) : Lib.decodeL (b :: t) = (b.toNat, 1) := by
  rw [decodeL_eq]
  unfold Lib.decodeN
  rw [if_pos (by simpa using h)]
  rfl
theorem valid_ascii (b : UInt8) (t : List UInt8) (h : b.toNat < 128) : Lib.validD (b :: t) = Lib.validD t := by
  rw [valid_step _ (by simp), dec_ascii b t h, if_neg (by simp only; omega)]
  rfl
/-- a rune beyond ASCII that is well: its bytes -/
theorem high_ok (b : UInt8) (t : List UInt8) (h : 128 ≤ b.toNat) (hok : ¬ ((Lib.decodeL (b :: t)).1 = 65533 ∧ (Lib.decodeL (b :: t)).2 = 1)) :
    markL (Lib.decodeL (b :: t)).1 = (b :: t).take (Lib.decodeL (b :: t)).2 ∧ Lib.encodeRune ((Lib.decodeL (b :: t)).1 : Int) = (b :: t).take (Lib.decodeL (b :: t)).2 ∧ ∀ x ∈ (b :: t).take (Lib.decodeL (b :: t)).2, 128 ≤ x.toNat := by
  obtain ⟨h1, h2, h3, h4⟩ := enc_dec (b :: t) (by simp) (Lib.decodeL (b :: t)).1 (Lib.decodeL (b :: t)).2 rfl hok
  have hc : 128 ≤ (Lib.decodeL (b :: t)).1 := by
    rcases Nat.lt_or_ge (Lib.decodeL (b :: t)).1 128 with hl | hl
    · rw [if_pos hl] at h4
      simp only [List.getD_cons_zero] at h4
      omega
    · exact hl
  exact ⟨by rw [mark_high _ hc, h1], by rw [encodeRune_is _ hc (decode_ok _ hok hc), h1], h3 hc⟩
def outV (acc : List UInt8) : Option (List UInt8 × List UInt8) → Option (List UInt8 × List UInt8)
  | some (o, r) => if Lib.validD o then some (acc ++ o, r) else none
  | none => none
theorem unq_esc (f : Nat) (t acc : List UInt8) : unqL (f + 1) (92 :: t) acc = match escP (92 :: t) with
    | some (c, k) => unqL f ((92 :: t).drop k) (acc ++ Lib.encodeRune (c : Int))
    | none => none := by
  conv => lhs; unfold unqL
  rw [if_neg (by simp), if_neg (by simp)]
  unfold stepL escP
  rw [if_neg (by simp)]
  by_cases h0 : (escL (92 :: t)).2 = 0
  · rw [if_pos h0, if_pos h0]
  · rw [if_neg h0, if_neg h0]
    simp only
    split <;> rfl
theorem unq_raw : ∀ (n f : Nat) (l acc : List UInt8), l.length ≤ n → l.length < f → unqL f l acc = outV acc (rawO (l.length + 1) l)
  | _, 0, l, _, _, h => by omega
  | n, f + 1, [], acc, _, _ => by
    simp [unqL, rawO, outV]
  | 0, f + 1, b :: t, acc, h, _ => by simp at h
  | n + 1, f + 1, b :: t, acc, hn, hf => by
    simp only [List.length_cons] at hn hf
    have hb := b.toNat_lt
    by_cases h34 : b.toNat = 34
    · conv => lhs; unfold unqL
      rw [if_neg (by simp), if_pos (by simpa using h34)]
      simp only [List.length_cons, rawO]
      rw [if_pos h34]
      simp [outV, valid_nil]
    · by_cases h92 : b.toNat = 92
      · have hbe : b = 92 := UInt8.toNat_inj.1 h92
        subst hbe
        rw [unq_esc, escP_is]
        simp only [List.length_cons, rawO]
        rw [if_neg (show ¬ (92 : UInt8).toNat = 34 from by decide), if_pos (show (92 : UInt8).toNat = 92 from rfl)]
        by_cases h0 : (escR t).2 = 0
        · rw [if_pos h0, if_pos h0]; rfl
        · rw [if_neg h0, if_neg h0]
          obtain ⟨e1, e2⟩ := escR_lt t h0
          simp only [List.drop_succ_cons]
          rw [unq_raw n f (t.drop (escR t).2) _ (by rw [List.length_drop]; omega) (by rw [List.length_drop]; omega)]
          rw [raw_fuel ((t.drop (escR t).2).length + 1) (t.length + 1) _ (by omega) (by rw [List.length_drop]; omega), encodeRune_ascii _ e1]
          cases rawO (t.length + 1) (t.drop (escR t).2) with
          | none => rfl
          | some p =>
            simp only [Option.map_some, outV]
            rw [valid_ascii _ _ (by simp; omega)]
            simp
      · have hun : unqL (f + 1) (b :: t) acc = match (if (Lib.decodeL (b :: t)).1 = 65533 ∧ (Lib.decodeL (b :: t)).2 < 2 then none else some (Lib.decodeL (b :: t))) with
            | none => none
            | some (c, k) => if Lib.hasPrefix (b :: t) (markL c) then unqL f ((b :: t).drop k) (acc ++ Lib.encodeRune (c : Int)) else none := by
          conv => lhs; unfold unqL
          rw [if_neg (by simp), if_neg (by simpa using h34)]
          unfold stepL
          rw [if_pos (by simpa using h92)]
          rfl
        rw [hun]
        by_cases hlow : b.toNat < 128
        · rw [dec_ascii b t hlow, if_neg (by simp only; omega)]
          simp only
          have hbo : UInt8.ofNat b.toNat = b := by simp
          rw [mark_low _ hlow, hbo]
          simp only [List.length_cons, rawO]
          rw [if_neg h34, if_neg h92]
          by_cases hc : b.toNat < 32 ∨ b.toNat = 127
          · rw [if_pos hc, if_neg]
            · rfl
            · rw [hasP, List.isPrefixOf_iff_prefix]
              rintro ⟨q, hq⟩
              have : (rqB b).getD 0 0 = 92 := by
                unfold rqB
                rw [if_neg (by omega)]
                split
                · rfl
                · first | (rw [if_pos hc]; rfl) | rfl
              have hln : 1 ≤ (rqB b).length := by
                unfold rqB
                rw [if_neg (by omega)]
                split
                · simp
                · first | (rw [if_pos hc]; simp; done) | simp
              have h2 := congrArg (fun l => l.getD 0 0) hq
              simp only [List.getD_eq_getElem?_getD] at h2 this
              rw [List.getElem?_append_left (by omega), this] at h2
              simp at h2
              exact h92 (by rw [← h2]; rfl)
          · have hq : rqB b = [b] := by
              unfold rqB
              rw [if_neg (by omega), if_neg (by omega), if_neg hc]
            rw [if_neg hc, hq, if_pos (by simp [hasP, List.isPrefixOf]), encodeRune_ascii _ hlow, hbo]
            simp only [List.drop_succ_cons, List.drop_zero]
            rw [unq_raw n f t _ (by omega) (by omega)]
            cases rawO (t.length + 1) t with
            | none => rfl
            | some p =>
              simp only [Option.map_some, outV]
              rw [valid_ascii _ _ hlow]
              simp
        · have hw := Lib.decodeL_width (b :: t)
          by_cases hbad : (Lib.decodeL (b :: t)).1 = 65533 ∧ (Lib.decodeL (b :: t)).2 = 1
          · rw [if_pos (by omega)]
            simp only
            cases hr : rawO ((b :: t).length + 1) (b :: t) with
            | none => rfl
            | some p =>
              obtain ⟨o, r⟩ := p
              have hd := dec_out _ b t o r (by omega) hr
              obtain ⟨o', rfl, _⟩ := (raw_next _ b t o r hr).1 (by omega)
              simp only [outV]
              rw [valid_step _ (by simp), hd, if_pos hbad]
              rfl
          · rw [if_neg (by omega)]
            obtain ⟨m1, m2, m3⟩ := high_ok b t (by omega) hbad
            have hle := decodeL_le (b :: t) (by simp)
            simp only
            rw [m1, m2, if_pos (by rw [hasP, List.isPrefixOf_iff_prefix]; exact List.take_prefix _ _)]
            rw [unq_raw n f _ _ (by rw [List.length_drop, List.length_cons]; omega) (by rw [List.length_drop, List.length_cons]; omega)]
            obtain ⟨k, hk⟩ : ∃ k, k = (Lib.decodeL (b :: t)).2 := ⟨_, rfl⟩
            have hraw : rawO ((b :: t).length + 1) (b :: t) = (rawO (((b :: t).drop k).length + 1) ((b :: t).drop k)).map fun p => ((b :: t).take k ++ p.1, p.2) := by
              rw [← raw_take k _ (b :: t) (by rw [hk]; exact m3) (by rw [hk]; exact hle)]
              exact raw_fuel _ _ _ (by omega) (by rw [List.length_drop]; omega)
            rw [← hk]
            cases hr : rawO (((b :: t).drop k).length + 1) ((b :: t).drop k) with
            | none => rw [hraw, hr]; rfl
            | some p =>
              obtain ⟨o, r⟩ := p
              rw [hr] at hraw
              simp only [Option.map_some] at hraw
              have hd := dec_out _ b t _ r (by omega) hraw
              rw [hraw]
              simp only [outV]
              have hv : Lib.validD ((b :: t).take k ++ o) = Lib.validD o := by
                rw [valid_step _ (by intro h; have := congrArg List.length h; simp at this; omega), hd, if_neg hbad, ← hk, List.drop_append_of_le_length (by rw [List.length_take]; omega), List.drop_eq_nil_of_le (by rw [List.length_take]; omega)]
                rfl
              rw [hv, List.append_assoc]
theorem drop_cons (s : ByteArray) (i : Nat) (h : i < s.size) : s.data.toList.drop i = s.data.toList.getD i 0 :: s.data.toList.drop (i + 1) := by
  have hl : i < s.data.toList.length := by rw [← Lib.size_eq]; exact h
  rw [List.drop_eq_getElem_cons hl, List.getD_eq_getElem?_getD, List.getElem?_eq_getElem hl]
  rfl
theorem raw_34 (f : Nat) (b : UInt8) (t : List UInt8) (h : b.toNat = 34) : rawO (f + 1) (b :: t) = some ([], b :: t) := by rw [rawO, if_pos h]
theorem raw_92 (f : Nat) (b : UInt8) (t : List UInt8) (h : b.toNat = 92) : rawO (f + 1) (b :: t) = if (escR t).2 = 0 then none else (rawO f (t.drop (escR t).2)).map fun p => (UInt8.ofNat (escR t).1 :: p.1, p.2) := by rw [rawO, if_neg (by omega), if_pos h]
theorem raw_plain (f : Nat) (b : UInt8) (t : List UInt8) (h1 : b.toNat ≠ 34) (h2 : b.toNat ≠ 92) (h : ¬ (b.toNat < 32 ∨ b.toNat = 127)) : rawO (f + 1) (b :: t) = (rawO f t).map fun p => (b :: p.1, p.2) := by rw [rawO, if_neg h1, if_neg h2, if_neg h]
end Go.Proofs.YtgafnjgiikdofaaGreatDoor.Uv
