/- The law CodecBack, walked: it answers true where its texts have room. -/
import Derived.Test.YtpgcbdopnkbmhaaCl
import Derived.Test.YtpgcbdopnkbmhaaEa
import Derived.Deep.RegionWith
import Derived.Test.YtpgcbdopnkbmhaaTk
import Derived.Outline
namespace Go.Proofs.Ytpgcbdopnkbmhaa.Back
set_option linter.unusedVariables false
set_option linter.unusedSimpArgs false
open Go.RowKit Go.Proofs.YtpgcbdopnkbmhaaW.PrintWords Go.Proofs.YtpgcbdopnkbmhaaW.PrintLast Go.Proofs.YtpgcbdopnkbmhaaW.PrintMore
open Go.Proofs.Ytpgcbdopnkbmhaa.A Go.Proofs.Ytpgcbdopnkbmhaa.Cn Go.Proofs.Ytpgcbdopnkbmhaa.Kn Go.Proofs.Ytpgcbdopnkbmhaa.Dn Go.Proofs.Ytpgcbdopnkbmhaa.Fr Go.Proofs.Ytpgcbdopnkbmhaa.De Go.Proofs.Ytpgcbdopnkbmhaa.Cl Go.Proofs.Ytpgcbdopnkbmhaa.Ea Go.Proofs.Ytpgcbdopnkbmhaa.Tk
theorem signed_yes (x : Int) (w : World) (h : okI x) : Calls Try.prog 8 #[.int .i64 x] w fun e w' => ∃ v, e = .returned (.tuple #[v, .int .i64 0]) ∧ Kd.R (Kd.int .u8) 5 w' w.heap.size (fun _ => True) v (eI x) ∧ Below w.heap.size w w' := by
  have hs := signed_is x
  rw [show sigB x = (eI x, 0) from if_pos h] at hs
  exact codec_Signed.calls 8 x _ _ w hs
theorem signed_no (x : Int) (w : World) (h : ¬ okI x) : Calls Try.prog 8 #[.int .i64 x] w fun e w' => ∃ v, e = .returned (.tuple #[v, .int .i64 11]) ∧ Kd.R (Kd.int .u8) 5 w' w.heap.size (fun _ => True) v [] ∧ Below w.heap.size w w' := by
  have hs := signed_is x
  rw [show sigB x = ([], 11) from if_neg h] at hs
  exact codec_Signed.calls 8 x _ _ w hs
theorem text_yes (s : ByteArray) (w : World) (h : okS s) : Calls Try.prog 18 #[.string s] w fun e w' => ∃ v, e = .returned (.tuple #[v, .int .i64 0]) ∧ Kd.R (Kd.int .u8) 5 w' w.heap.size (fun _ => True) v (eS s) ∧ Below w.heap.size w w' := by
  have hs : codec_Text.f 8 s = some (eS s, 0) := by
    unfold okS at h
    unfold codec_Text.f codec_seven_int.f eS
    have hl := enc_len 7 (s.size : Int)
    rw [if_neg (by omega), seven_int 7 8 _ [] (by omega) (by omega) (by omega) (by simp), Option.bind_some, List.nil_append, if_pos (by omega)]
  exact codec_Text.calls 8 s _ _ w hs
theorem text_no (s : ByteArray) (w : World) (h : ¬ okS s) : Calls Try.prog 18 #[.string s] w fun e w' => ∃ v, e = .returned (.tuple #[v, .int .i64 6]) ∧ Kd.R (Kd.int .u8) 5 w' w.heap.size (fun _ => True) v [] ∧ Below w.heap.size w w' := by
  have hs : codec_Text.f 8 s = some ([], 6) := by
    unfold okS at h
    unfold codec_Text.f
    rw [if_pos (by omega)]
  exact codec_Text.calls 8 s _ _ w hs
theorem get_int {k : IntKind} {w : World} {A : Option Addr} {l : List Int} (h : (Kd.int k).C w A l.length l) (i : Nat) (hi : i < l.length) : ∃ ad, A = some ad ∧ w.cell? (ad.add i) = some (.int k l[i]) := by
  obtain ⟨ad, e, hc⟩ := (Kd.reads_of_C (d := (0 : Int)) h).2.2 (by omega)
  exact ⟨ad, e, by rw [hc i hi]; simp [hi]⟩
theorem get_str {w : World} {A : Option Addr} {l : List ByteArray} (h : Kd.string.C w A l.length l) (i : Nat) (hi : i < l.length) : ∃ ad, A = some ad ∧ w.cell? (ad.add i) = some (.string l[i]) := by
  obtain ⟨ad, e, hc⟩ := (Kd.reads_of_C (d := ByteArray.empty) h).2.2 (by omega)
  exact ⟨ad, e, by rw [hc i hi]; simp [hi]⟩
theorem cell_str {w : World} {ad : Addr} {l : List ByteArray} (h : Kd.string.C w (some ad) l.length l) (i : Nat) (hi : i < l.length) {y : ByteArray} (hy : y = l[i]) : w.cell? (ad.add i) = some (.string y) := by
  obtain ⟨ad', e, hc⟩ := get_str h i hi
  injection e with e
  subst e
  rw [hc, hy]
theorem Dec_drew {w : World} {b : Nat} {xs : List Int} {er : Int} (h : Dec w b xs er) : Dec w.drew b xs er := by
  obtain ⟨A, c, h1, h2, h3, h4⟩ := h
  exact ⟨A, c, h1, h2, Kd.C_drew h3, h4⟩
/-- at the head of the first loop: what was written, and that it could be -/
def Rel (w : World) (l : List Int) (m : List ByteArray) (bv iv : Value) (w' : World) : Prop :=
  ∃ (k : Nat) (B : List Int), iv = .int .i64 k ∧ (k ≤ l.length ∨ k ≤ m.length) ∧ Below w.heap.size w w' ∧ Kd.R (Kd.int .u8) 5 w' w.heap.size (fun _ => True) bv B ∧ B ++ tail l m k = tail l m 0 ∧
    (∀ j (h : j < l.length), j < k → okI l[j]) ∧ (∀ j (h : j < m.length), j < k → okS m[j])
/-- at the head of the second loop: what is left to be read -/
def Rel2 (w : World) (l : List Int) (m : List ByteArray) (b : Nat) (iv : Value) (w' : World) : Prop :=
  ∃ k : Nat, iv = .int .i64 k ∧ (k ≤ l.length ∨ k ≤ m.length) ∧ Below w.heap.size w w' ∧ Dec w' b (tail l m k) 0
set_option maxHeartbeats 4000000 in
theorem walk (A0 : Option Addr) (c0 : Nat) (l : List Int) (A1 : Option Addr) (c1 : Nat) (m : List ByteArray) (w : World) (hl : (Kd.int .i64).C w A0 l.length l) (hc0 : l.length ≤ c0) (hm : Kd.string.C w A1 m.length m) (hc1 : m.length ≤ c1) (hroom : room l m ≤ 140737488351232) :
    Calls Try.prog 5 #[.slice A0 l.length c0, .slice A1 m.length c1] w fun e w' => e = .returned (.bool true) ∧ Below w.heap.size w w' := by
  have hlm := Kd.C_max hl
  have hmm := Kd.C_max hm
  have HL := Aside0.mk hl
  have HM := Aside0.mk hm
  clear hl hm
  go_enter Try.func5, Try.ntmps5
  go_wp2
  go_loopw [5, 6] (fun bv iv w' => Rel w l m bv iv w') (fun _ iv _ => l.length + m.length - (intOf iv).toNat)
  case atStart => exact ⟨0, [], rfl, .inl (Nat.zero_le _), Below.refl _ _, Kd.R_nil _ _ _ _ _, rfl, fun j h hj => by omega, fun j h hj => by omega⟩
  case round =>
    obtain ⟨k, B, rfl, hk, hb, hr, hB, hol, hom⟩ := hrel
    have HB := Aside0.mk hb
    have HR := Aside0.mk hr
    have HBT := Aside0.mk hB
    have HOL := Aside0.mk hol
    have HOM := Aside0.mk hom
    clear hb hr hB hol hom
    have hBl : B.length + (tail l m k).length ≤ 140737488351232 := by
      have h1 := tail_len l m 0
      rw [← HBT.out, List.length_append] at h1
      omega
    by_cases h1 : k < l.length
    · have g1 : decide (k < l.length) = true := decide_eq_true h1
      obtain ⟨ad0, rfl, hcell⟩ := get_int (Kd.C_below HL.out HB.out) k h1
      obtain ⟨x, hx⟩ : ∃ x, x = l[k] := ⟨_, rfl⟩
      rw [← hx] at hcell
      have HX := Aside0.mk hx
      clear hx
      by_cases hv : okI x
      · have HS := Aside0.mk (fun W => signed_yes x W hv)
        have hxl := eI_len x
        by_cases h2 : k < m.length
        · have HTB := Aside0.mk (tail_both l m k h1 h2)
          have g2 : decide (k < m.length) = true := decide_eq_true h2
          obtain ⟨ad1, rfl, _⟩ := get_str HM.out k h2
          obtain ⟨y, hy⟩ : ∃ y, y = m[k] := ⟨_, rfl⟩
          have HY := Aside0.mk hy
          clear hy
          have HLEN2 := Aside0.mk (show (B.length + (eI x).length) * 1 ≤ 140737488355328 by have := congrArg List.length HTB.out; rw [← HX.out] at this; simp only [List.length_append] at this; omega)
          go_wp2_with fail
          refine (HS.out _).mono ?_
          rintro e w1 ⟨v1, rfl, hr1, hb1⟩
          have HR1 := Aside0.mk hr1
          have HB1 := Aside0.mk hb1
          clear hr1 hb1
          go_wp2_with fail
          refine (num_any _ _).mono ?_
          rintro e w' ⟨rfl, rfl⟩
          obtain ⟨Ao, co, rfl, hco, hC1⟩ := Kd.R_reads HR1.out
          have HC1 := Aside0.mk hC1
          have HBB := Aside0.mk (below_step HB.out HB1.out)
          have HRB := Aside0.mk (Kd.R_below HR.out HB1.out)
          clear hC1
          go_wp2_with ((with_reducible refine gate_builtin (b := .append) (xs := #[.tmp 41, .tmp 42]) rfl ?_); at_builtin; refine Kd.R_append_row (Value.int .u8) (0 : Int) (h1 := fun _ => rfl) (w0 := w) w.heap.size rfl (.tmp 41) (.tmp 42) 22 5 (.int .u8 0) 1 rfl Try.underlying22 info5 rfl (by decide) u5 B (eI x) Ao (eI x).length co (fun _ => True) rfl rfl (fun _ _ => trivial) HRB.out HC1.out HBB.out HBB.out.size ?aL ?_; (case aL => exact HLEN2.out); intro v2 w2 ho hb hg hat; have HR2 := Aside0.mk ho; have HB2 := Aside0.mk hb; clear ho hb hg hat; have hcells := cell_str (Kd.C_below HM.out HB2.out) k h2 HY.out)
          have HLEN4 := Aside0.mk (show ((B ++ eI x).length + (eS y).length) * 1 ≤ 140737488355328 by have := congrArg List.length HTB.out; rw [← HX.out, ← HY.out] at this; simp only [List.length_append] at this ⊢; omega)
          by_cases hv2 : okS y
          · have HT := Aside0.mk (fun W => text_yes y W hv2)
            go_wp2_with fail
            refine (HT.out _).mono ?_
            rintro e w3 ⟨v3, rfl, hr3, hb3⟩
            have HR3 := Aside0.mk hr3
            have HB3 := Aside0.mk hb3
            clear hr3 hb3
            go_wp2_with fail
            refine (num_any _ _).mono ?_
            rintro e w' ⟨rfl, rfl⟩
            obtain ⟨At, ct, rfl, hct, hC3⟩ := Kd.R_reads HR3.out
            have HC3 := Aside0.mk hC3
            have HBB3 := Aside0.mk (below_step HB2.out HB3.out)
            have HRB3 := Aside0.mk (Kd.R_below HR2.out HB3.out)
            clear hC3
            go_wp2_with ((with_reducible refine gate_builtin (b := .append) (xs := #[.tmp 60, .tmp 61]) rfl ?_); at_builtin; refine Kd.R_append_row (Value.int .u8) (0 : Int) (h1 := fun _ => rfl) (w0 := w) w.heap.size rfl (.tmp 60) (.tmp 61) 22 5 (.int .u8 0) 1 rfl Try.underlying22 info5 rfl (by decide) v2 (B ++ eI x) (eS y) At (eS y).length ct (fun _ => True) rfl rfl (fun _ _ => trivial) HRB3.out HC3.out HBB3.out HBB3.out.size ?aL ?_; (case aL => exact HLEN4.out); intro v4 w4 ho hb hg hat; have HR4 := Aside0.mk ho; have HB4 := Aside0.mk hb; clear ho hb hg hat)
            go_roundw
            case rel =>
              refine ⟨k + 1, _, by go_num, by omega, HB4.out, HR4.out, ?_, ?_, ?_⟩
              · rw [← HBT.out, HTB.out, ← HX.out, ← HY.out]; simp only [List.append_assoc]
              · intro j hj hj2
                rcases Nat.lt_or_ge j k with h | h
                · exact HOL.out j hj h
                · obtain rfl : j = k := by omega
                  rw [← HX.out]; exact hv
              · intro j hj hj2
                rcases Nat.lt_or_ge j k with h | h
                · exact HOM.out j hj h
                · obtain rfl : j = k := by omega
                  rw [← HY.out]; exact hv2
            case measure => simp [intOf]; omega
          · have HT := Aside0.mk (fun W => text_no y W hv2)
            go_wp2_with fail
            refine (HT.out _).mono ?_
            rintro e w3 ⟨v3, rfl, hr3, hb3⟩
            have HB3 := Aside0.mk hb3
            clear hr3 hb3
            go_wp2_with fail
            refine (num_any _ _).mono ?_
            rintro e w' ⟨rfl, rfl⟩
            go_wp2_with fail
            refine (knows_true _).mono ?_
            rintro e w5 ⟨rfl, b5⟩
            have B5 := Aside0.mk b5
            clear b5
            go_wp2
            go_ret
            exact ⟨rfl, below_step (below_step HB2.out HB3.out) B5.out⟩
        · have g2 : decide (k < m.length) = false := decide_eq_false h2
          have HTB := Aside0.mk (tail_int l m k h1 h2)
          have HLEN2 := Aside0.mk (show (B.length + (eI x).length) * 1 ≤ 140737488355328 by have := congrArg List.length HTB.out; rw [← HX.out] at this; simp only [List.length_append] at this; omega)
          go_wp2_with fail
          refine (HS.out _).mono ?_
          rintro e w1 ⟨v1, rfl, hr1, hb1⟩
          have HR1 := Aside0.mk hr1
          have HB1 := Aside0.mk hb1
          clear hr1 hb1
          go_wp2_with fail
          refine (num_any _ _).mono ?_
          rintro e w' ⟨rfl, rfl⟩
          obtain ⟨Ao, co, rfl, hco, hC1⟩ := Kd.R_reads HR1.out
          have HC1 := Aside0.mk hC1
          have HBB := Aside0.mk (below_step HB.out HB1.out)
          have HRB := Aside0.mk (Kd.R_below HR.out HB1.out)
          clear hC1
          go_wp2_with ((with_reducible refine gate_builtin (b := .append) (xs := #[.tmp 41, .tmp 42]) rfl ?_); at_builtin; refine Kd.R_append_row (Value.int .u8) (0 : Int) (h1 := fun _ => rfl) (w0 := w) w.heap.size rfl (.tmp 41) (.tmp 42) 22 5 (.int .u8 0) 1 rfl Try.underlying22 info5 rfl (by decide) u5 B (eI x) Ao (eI x).length co (fun _ => True) rfl rfl (fun _ _ => trivial) HRB.out HC1.out HBB.out HBB.out.size ?aL ?_; (case aL => exact HLEN2.out); intro v2 w2 ho hb hg hat; have HR2 := Aside0.mk ho; have HB2 := Aside0.mk hb; clear ho hb hg hat)
          go_roundw
          case rel =>
            refine ⟨k + 1, _, by go_num, by omega, HB2.out, HR2.out, ?_, ?_, ?_⟩
            · rw [← HBT.out, HTB.out, ← HX.out]; simp only [List.append_assoc]
            · intro j hj hj2
              rcases Nat.lt_or_ge j k with h | h
              · exact HOL.out j hj h
              · obtain rfl : j = k := by omega
                rw [← HX.out]; exact hv
            · intro j hj hj2
              exact HOM.out j hj (by omega)
          case measure => simp [intOf]; omega
      · have HS := Aside0.mk (fun W => signed_no x W hv)
        go_wp2_with fail
        refine (HS.out _).mono ?_
        rintro e w1 ⟨v1, rfl, hr1, hb1⟩
        have HB1 := Aside0.mk hb1
        clear hr1 hb1
        go_wp2_with fail
        refine (num_any _ _).mono ?_
        rintro e w' ⟨rfl, rfl⟩
        go_wp2_with fail
        refine (knows_true _).mono ?_
        rintro e w5 ⟨rfl, b5⟩
        have B5 := Aside0.mk b5
        clear b5
        go_wp2
        go_ret
        exact ⟨rfl, below_step (below_step HB.out HB1.out) B5.out⟩
    · have g1 : decide (k < l.length) = false := decide_eq_false h1
      by_cases h2 : k < m.length
      · have HTB := Aside0.mk (tail_str l m k h1 h2)
        have g2 : decide (k < m.length) = true := decide_eq_true h2
        obtain ⟨ad1, rfl, hcells⟩ := get_str (Kd.C_below HM.out HB.out) k h2
        obtain ⟨y, hy⟩ : ∃ y, y = m[k] := ⟨_, rfl⟩
        rw [← hy] at hcells
        have HY := Aside0.mk hy
        clear hy
        have HLEN4 := Aside0.mk (show (B.length + (eS y).length) * 1 ≤ 140737488355328 by have := congrArg List.length HTB.out; rw [← HY.out] at this; simp only [List.length_append] at this ⊢; omega)
        by_cases hv2 : okS y
        · have HT := Aside0.mk (fun W => text_yes y W hv2)
          go_wp2_with fail
          refine (HT.out _).mono ?_
          rintro e w3 ⟨v3, rfl, hr3, hb3⟩
          have HR3 := Aside0.mk hr3
          have HB3 := Aside0.mk hb3
          clear hr3 hb3
          go_wp2_with fail
          refine (num_any _ _).mono ?_
          rintro e w' ⟨rfl, rfl⟩
          obtain ⟨At, ct, rfl, hct, hC3⟩ := Kd.R_reads HR3.out
          have HC3 := Aside0.mk hC3
          have HBB3 := Aside0.mk (below_step HB.out HB3.out)
          have HRB3 := Aside0.mk (Kd.R_below HR.out HB3.out)
          clear hC3
          go_wp2_with ((with_reducible refine gate_builtin (b := .append) (xs := #[.tmp 60, .tmp 61]) rfl ?_); at_builtin; refine Kd.R_append_row (Value.int .u8) (0 : Int) (h1 := fun _ => rfl) (w0 := w) w.heap.size rfl (.tmp 60) (.tmp 61) 22 5 (.int .u8 0) 1 rfl Try.underlying22 info5 rfl (by decide) u5 B (eS y) At (eS y).length ct (fun _ => True) rfl rfl (fun _ _ => trivial) HRB3.out HC3.out HBB3.out HBB3.out.size ?aL ?_; (case aL => exact HLEN4.out); intro v4 w4 ho hb hg hat; have HR4 := Aside0.mk ho; have HB4 := Aside0.mk hb; clear ho hb hg hat)
          go_roundw
          case rel =>
            refine ⟨k + 1, _, by go_num, by omega, HB4.out, HR4.out, ?_, ?_, ?_⟩
            · rw [← HBT.out, HTB.out, ← HY.out]; simp only [List.append_assoc]
            · intro j hj hj2
              exact HOL.out j hj (by omega)
            · intro j hj hj2
              rcases Nat.lt_or_ge j k with h | h
              · exact HOM.out j hj h
              · obtain rfl : j = k := by omega
                rw [← HY.out]; exact hv2
          case measure => simp [intOf]; omega
        · have HT := Aside0.mk (fun W => text_no y W hv2)
          go_wp2_with fail
          refine (HT.out _).mono ?_
          rintro e w3 ⟨v3, rfl, hr3, hb3⟩
          have HB3 := Aside0.mk hb3
          clear hr3 hb3
          go_wp2_with fail
          refine (num_any _ _).mono ?_
          rintro e w' ⟨rfl, rfl⟩
          go_wp2_with fail
          refine (knows_true _).mono ?_
          rintro e w5 ⟨rfl, b5⟩
          have B5 := Aside0.mk b5
          clear b5
          go_wp2
          go_ret
          exact ⟨rfl, below_step (below_step HB.out HB3.out) B5.out⟩
      · have g2 : decide (k < m.length) = false := decide_eq_false h2
        have hBall : B = tail l m 0 := by rw [← HBT.out, tail_none l m k h1 h2]; simp
        have hall : ∀ x ∈ l, okI x := by
          intro x hx
          obtain ⟨j, hj, rfl⟩ := List.mem_iff_getElem.1 hx
          exact HOL.out j hj (by omega)
        have hals : ∀ x ∈ m, okS x := by
          intro x hx
          obtain ⟨j, hj, rfl⟩ := List.mem_iff_getElem.1 hx
          exact HOM.out j hj (by omega)
        have HAL := Aside0.mk hall
        have HAS := Aside0.mk hals
        obtain ⟨Ab, cb, rfl, hcb, hCb⟩ := Kd.R_reads HR.out
        have HBALL := Aside0.mk hBall
        have HNEW := Aside0.mk (new_any Ab cb B wr hCb hcb (by omega))
        clear hall hals hCb hBall
        go_wp2_with fail
        refine HNEW.out.mono ?_
        rintro e w1 ⟨b, rfl, hd, hbs, hb1⟩
        have HD := Aside0.mk hd
        have HB1 := Aside0.mk (below_step HB.out hb1)
        have hbs' : w.heap.size ≤ b := Nat.le_trans HB.out.size hbs
        clear hd hb1
        go_wp2_with fail
        obtain ⟨wo, rfl⟩ : ∃ wo : World, wo = wr := ⟨_, rfl⟩
        go_loopw [12] (fun iv w' => Rel2 w l m b iv w') (fun iv _ => l.length + m.length - (intOf iv).toNat)
        case atStart => exact ⟨0, rfl, .inl (Nat.zero_le _), HB1.out, by rw [HBALL.out] at HD; exact HD.out⟩
        case round =>
          obtain ⟨j, rfl, hj, hbj, hdj⟩ := hrel
          have HBJ := Aside0.mk hbj
          have HDJ := Aside0.mk hdj
          have HBY := Aside0.mk (tail_byts l m j HAL.out HAS.out)
          clear hbj hdj
          have hbw : w.heap.size ≤ b := hbs'
          by_cases p1 : j < l.length
          · have q1 : decide (j < l.length) = true := decide_eq_true p1
            obtain ⟨ad0, rfl, hcell⟩ := get_int (Kd.C_below HL.out HBJ.out) j p1
            obtain ⟨x, hx⟩ : ∃ x, x = l[j] := ⟨_, rfl⟩
            rw [← hx] at hcell
            have HX := Aside0.mk hx
            have hokx : okI x := by rw [hx]; exact HAL.out _ (List.getElem_mem p1)
            have HOK := Aside0.mk hokx
            clear hx hokx
            have HNB := Aside0.mk (show ¬ (ad0.add j).block = b by
              obtain ⟨ad', e', hc'⟩ := get_int HL.out j p1
              injection e' with e'
              subst e'
              have := World.block_lt_of_cell? w _ hc'
              omega)
            by_cases p2 : j < m.length
            · have q2 : decide (j < m.length) = true := decide_eq_true p2
              obtain ⟨ad1, rfl, hcells⟩ := get_str (Kd.C_below HM.out HBJ.out) j p2
              obtain ⟨y, hy⟩ : ∃ y, y = m[j] := ⟨_, rfl⟩
              rw [← hy] at hcells
              have HY := Aside0.mk hy
              have hoky : okS y := by rw [hy]; exact HAS.out _ (List.getElem_mem p2)
              have HOS := Aside0.mk hoky
              have HBY2 := Aside0.mk (byts_append (eS_byts y hoky) (tail_byts l m (j + 1) HAL.out HAS.out))
              clear hy hoky
              have HNS := Aside0.mk (show ¬ (ad1.add j).block = b by
                obtain ⟨ad', e', hc'⟩ := get_str HM.out j p2
                injection e' with e'
                subst e'
                have := World.block_lt_of_cell? w _ hc'
                omega)
              have HT := Aside0.mk (tail_both l m j p1 p2)
              have HSG := Aside0.mk (signed_ok b wr.drew (tail l m j) (eS y ++ tail l m (j + 1)) x (Dec_drew HDJ.out) HBY.out (by rw [HT.out, ← HX.out, ← HY.out]; rfl) HOK.out.1 HOK.out.2)
              go_wp2_with fail
              refine wp_region_held_drew (S := fun w' => w'.cell? (ad0.add j) = some (.int .i64 x) ∧ w'.cell? (ad1.add j) = some (.string y)) (by kernel_rfl) ⟨hcell, hcells⟩ (fun hHeld => ?_)
              refine take_y (i := 0) (some 77) rfl rfl (by kernel_rfl) (by kernel_rfl) (by kernel_rfl) (fun _ _ _ h => h) (by rfl) hHeld (by (intro w hSw; (try dsimp only at hSw); go_simp <;> with_reducible rfl)) ?_
              (try simp only [Act.put, List.setIfInBounds_toArray, List.set_cons_zero, List.set_cons_succ])
              refine take_y (i := 1) (some 78) rfl rfl (by kernel_rfl) (by kernel_rfl) (by kernel_rfl) (fun _ _ _ h => h) (by rfl) hHeld (by (intro w hSw; (try dsimp only at hSw); go_simp <;> with_reducible rfl)) ?_
              (try simp only [Act.put, List.setIfInBounds_toArray, List.set_cons_zero, List.set_cons_succ])
              refine take_y (i := 2) (some 79) rfl rfl (by kernel_rfl) (by kernel_rfl) (by kernel_rfl) (fun _ _ _ h => h) (by rfl) hHeld (by (intro w hSw; (try dsimp only at hSw); go_simp <;> with_reducible rfl)) ?_
              (try simp only [Act.put, List.setIfInBounds_toArray, List.set_cons_zero, List.set_cons_succ])
              refine take_y (i := 3) (some 80) rfl rfl (by kernel_rfl) (by kernel_rfl) (by kernel_rfl) (fun _ _ _ h => h) (by rfl) hHeld (by (intro w hSw; (try dsimp only at hSw); go_simp <;> with_reducible rfl)) ?_
              (try simp only [Act.put, List.setIfInBounds_toArray, List.set_cons_zero, List.set_cons_succ])
              refine take_y (i := 4) (some 81) rfl rfl (by kernel_rfl) (by kernel_rfl) (by kernel_rfl) (fun _ _ _ h => h) (by rfl) hHeld (by (intro w hSw; (try dsimp only at hSw); go_simp <;> with_reducible rfl)) ?_
              (try simp only [Act.put, List.setIfInBounds_toArray, List.set_cons_zero, List.set_cons_succ])
              refine take_y (i := 5) (some 82) rfl rfl (by kernel_rfl) (by kernel_rfl) (by kernel_rfl) (fun _ _ _ h => h) (by rfl) hHeld (by (intro w hSw; (try dsimp only at hSw); go_simp <;> with_reducible rfl)) ?_
              (try simp only [Act.put, List.setIfInBounds_toArray, List.set_cons_zero, List.set_cons_succ])
              refine take_y (i := 7) (some 84) rfl rfl (by kernel_rfl) (by kernel_rfl) (by kernel_rfl) (fun _ _ _ h => h) (by rfl) hHeld (by (intro w hSw; (try dsimp only at hSw); go_simp <;> with_reducible rfl)) ?_
              (try simp only [Act.put, List.setIfInBounds_toArray, List.set_cons_zero, List.set_cons_succ])
              refine take_y (i := 8) (some 85) rfl rfl (by kernel_rfl) (by kernel_rfl) (by kernel_rfl) (fun _ _ _ h => h) (by rfl) hHeld (by (intro w hSw; (try dsimp only at hSw); go_simp <;> with_reducible rfl)) ?_
              (try simp only [Act.put, List.setIfInBounds_toArray, List.set_cons_zero, List.set_cons_succ])
              refine take_y (i := 9) (some 86) rfl rfl (by kernel_rfl) (by kernel_rfl) (by kernel_rfl) (fun _ _ _ h => h) (by rfl) hHeld (by (intro w hSw; (try dsimp only at hSw); go_simp <;> with_reducible rfl)) ?_
              (try simp only [Act.put, List.setIfInBounds_toArray, List.set_cons_zero, List.set_cons_succ])
              refine take_y (i := 10) (some 87) rfl rfl (by kernel_rfl) (by kernel_rfl) (by kernel_rfl) (fun _ _ _ h => h) (by rfl) hHeld (by (intro w hSw; (try dsimp only at hSw); go_simp <;> with_reducible rfl)) ?_
              (try simp only [Act.put, List.setIfInBounds_toArray, List.set_cons_zero, List.set_cons_succ])
              refine wpAnyH_ready (rs := [6]) (by kernel_rfl) (by simp) ?_
              refine AllReadyH.cons rfl (fun K hK => ?_) AllReadyH.nil
              go_simp
              go_at_call 13
              (with_reducible refine HSG.out.mono ?_)
              rintro e w2 ⟨rfl, hd2, hf2⟩
              have hcell2 : w2.cell? (ad0.add j) = some (.int .i64 x) := hf2.cell hcell HNB.out
              have hcells2 : w2.cell? (ad1.add j) = some (.string y) := hf2.cell hcells HNS.out
              have HD2 := Aside0.mk hd2
              have HF2 := Aside0.mk hf2
              clear hd2 hf2
              refine hK.out _ _ ⟨hcell2, hcells2⟩ (fun hHeld => ?_)
              clear hK K
              (try simp only [Act.put, List.setIfInBounds_toArray, List.set_cons_zero, List.set_cons_succ])
              refine take_y (i := 11) (some 88) rfl rfl (by kernel_rfl) (by kernel_rfl) (by kernel_rfl) (fun _ _ _ h => h) (by rfl) hHeld (by (intro w hSw; (try dsimp only at hSw); go_simp <;> with_reducible rfl)) ?_
              (try simp only [Act.put, List.setIfInBounds_toArray, List.set_cons_zero, List.set_cons_succ])
              refine take_y (i := 12) (some 89) rfl rfl (by kernel_rfl) (by kernel_rfl) (by kernel_rfl) (fun _ _ _ h => h) (by rfl) hHeld (by (intro w hSw; (try dsimp only at hSw); go_simp <;> with_reducible rfl)) ?_
              (try simp only [Act.put, List.setIfInBounds_toArray, List.set_cons_zero, List.set_cons_succ])
              refine take_y (i := 13) (some 90) rfl rfl (by kernel_rfl) (by kernel_rfl) (by kernel_rfl) (fun _ _ _ h => h) (by rfl) hHeld (by (intro w hSw; (try dsimp only at hSw); go_simp <;> with_reducible rfl)) ?_
              (try simp only [Act.put, List.setIfInBounds_toArray, List.set_cons_zero, List.set_cons_succ])
              refine take_y (i := 14) (some 91) rfl rfl (by kernel_rfl) (by kernel_rfl) (by kernel_rfl) (fun _ _ _ h => h) (by rfl) hHeld (by (intro w hSw; (try dsimp only at hSw); go_simp <;> with_reducible rfl)) ?_
              (try simp only [Act.put, List.setIfInBounds_toArray, List.set_cons_zero, List.set_cons_succ])
              refine take_y (i := 15) (some 92) rfl rfl (by kernel_rfl) (by kernel_rfl) (by kernel_rfl) (fun _ _ _ h => h) (by rfl) hHeld (by (intro w hSw; (try dsimp only at hSw); go_simp <;> with_reducible rfl)) ?_
              (try simp only [Act.put, List.setIfInBounds_toArray, List.set_cons_zero, List.set_cons_succ])
              refine take_y (i := 16) (some 93) rfl rfl (by kernel_rfl) (by kernel_rfl) (by kernel_rfl) (fun _ _ _ h => h) (by rfl) hHeld (by (intro w hSw; (try dsimp only at hSw); go_simp <;> with_reducible rfl)) ?_
              (try simp only [Act.put, List.setIfInBounds_toArray, List.set_cons_zero, List.set_cons_succ])
              refine take_y (i := 17) (some 94) rfl rfl (by kernel_rfl) (by kernel_rfl) (by kernel_rfl) (fun _ _ _ h => h) (by rfl) hHeld (by (intro w hSw; (try dsimp only at hSw); go_simp <;> with_reducible rfl)) ?_
              (try simp only [Act.put, List.setIfInBounds_toArray, List.set_cons_zero, List.set_cons_succ])
              refine take_y (i := 18) (some 95) rfl rfl (by kernel_rfl) (by kernel_rfl) (by kernel_rfl) (fun _ _ _ h => h) (by rfl) hHeld (by (intro w hSw; (try dsimp only at hSw); go_simp <;> with_reducible rfl)) ?_
              (try simp only [Act.put, List.setIfInBounds_toArray, List.set_cons_zero, List.set_cons_succ])
              refine take_y (i := 19) (some 96) rfl rfl (by kernel_rfl) (by kernel_rfl) (by kernel_rfl) (fun _ _ _ h => h) (by rfl) hHeld (by (intro w hSw; (try dsimp only at hSw); go_simp <;> with_reducible rfl)) ?_
              (try simp only [Act.put, List.setIfInBounds_toArray, List.set_cons_zero, List.set_cons_succ])
              refine take_y (i := 21) (some 98) rfl rfl (by kernel_rfl) (by kernel_rfl) (by kernel_rfl) (fun _ _ _ h => h) (by rfl) hHeld (by (intro w hSw; (try dsimp only at hSw); go_simp <;> with_reducible rfl)) ?_
              (try simp only [Act.put, List.setIfInBounds_toArray, List.set_cons_zero, List.set_cons_succ])
              refine take_y (i := 22) (some 99) rfl rfl (by kernel_rfl) (by kernel_rfl) (by kernel_rfl) (fun _ _ _ h => h) (by rfl) hHeld (by (intro w hSw; (try dsimp only at hSw); go_simp <;> with_reducible rfl)) ?_
              (try simp only [Act.put, List.setIfInBounds_toArray, List.set_cons_zero, List.set_cons_succ])
              refine take_y (i := 23) (some 100) rfl rfl (by kernel_rfl) (by kernel_rfl) (by kernel_rfl) (fun _ _ _ h => h) (by rfl) hHeld (by (intro w hSw; (try dsimp only at hSw); go_simp <;> with_reducible rfl)) ?_
              (try simp only [Act.put, List.setIfInBounds_toArray, List.set_cons_zero, List.set_cons_succ])
              refine take_y (i := 24) (some 101) rfl rfl (by kernel_rfl) (by kernel_rfl) (by kernel_rfl) (fun _ _ _ h => h) (by rfl) hHeld (by (intro w hSw; (try dsimp only at hSw); go_simp <;> with_reducible rfl)) ?_
              (try simp only [Act.put, List.setIfInBounds_toArray, List.set_cons_zero, List.set_cons_succ])
              refine wpAnyH_ready (rs := [20]) (by kernel_rfl) (by simp) ?_
              refine AllReadyH.cons rfl (fun K hK => ?_) AllReadyH.nil
              go_simp
              have HTX := Aside0.mk (text_ok b w2 (eS y ++ tail l m (j + 1)) (tail l m (j + 1)) y HD2.out HBY2.out (by unfold eS; rw [List.append_assoc]) HOS.out)
              go_at_call 15
              (with_reducible refine HTX.out.mono ?_)
              rintro e w3 ⟨rfl, hd3, hf3⟩
              have hcell3 : w3.cell? (ad0.add j) = some (.int .i64 x) := hf3.cell hcell2 HNB.out
              have hcells3 : w3.cell? (ad1.add j) = some (.string y) := hf3.cell hcells2 HNS.out
              have HD3 := Aside0.mk hd3
              have HF3 := Aside0.mk hf3
              clear hd3 hf3
              refine hK.out _ _ ⟨hcell3, hcells3⟩ (fun hHeld => ?_)
              clear hK K
              (try simp only [Act.put, List.setIfInBounds_toArray, List.set_cons_zero, List.set_cons_succ])
              refine take_y (i := 25) (some 102) rfl rfl (by kernel_rfl) (by kernel_rfl) (by kernel_rfl) (fun _ _ _ h => h) (by rfl) hHeld (by (intro w hSw; (try dsimp only at hSw); go_simp <;> with_reducible rfl)) ?_
              (try simp only [Act.put, List.setIfInBounds_toArray, List.set_cons_zero, List.set_cons_succ])
              refine take_y (i := 26) (some 103) rfl rfl (by kernel_rfl) (by kernel_rfl) (by kernel_rfl) (fun _ _ _ h => h) (by rfl) hHeld (by (intro w hSw; (try dsimp only at hSw); go_simp <;> with_reducible rfl)) ?_
              (try simp only [Act.put, List.setIfInBounds_toArray, List.set_cons_zero, List.set_cons_succ])
              refine take_y (i := 27) (some 104) rfl rfl (by kernel_rfl) (by kernel_rfl) (by kernel_rfl) (fun _ _ _ h => h) (by rfl) hHeld (by (intro w hSw; (try dsimp only at hSw); go_simp <;> with_reducible rfl)) ?_
              (try simp only [Act.put, List.setIfInBounds_toArray, List.set_cons_zero, List.set_cons_succ])
              refine wpAnyH_done (by kernel_rfl) ?_ _
              go_wp2
              go_roundw
              case rel => exact ⟨j + 1, by go_num, by omega, (Fr.below (B := w.heap.size) (S := fun k => k = b) (Fr.trans HF2.out HF3.out) (HBJ.out.drew).size (fun k hk => by subst hk; exact hbw) |> fun z => (HBJ.out.drew).trans z), HD3.out⟩
              case measure => simp [intOf]; omega
            · have q2 : decide (j < m.length) = false := decide_eq_false p2
              have HT := Aside0.mk (tail_int l m j p1 p2)
              have HSG := Aside0.mk (signed_ok b wr.drew (tail l m j) (tail l m (j + 1)) x (Dec_drew HDJ.out) HBY.out (by rw [HT.out, ← HX.out]; rfl) HOK.out.1 HOK.out.2)
              go_wp2_with fail
              refine wp_region_held_drew (S := fun w' => w'.cell? (ad0.add j) = some (.int .i64 x)) (by kernel_rfl) hcell (fun hHeld => ?_)
              refine take_y (i := 0) (some 77) rfl rfl (by kernel_rfl) (by kernel_rfl) (by kernel_rfl) (fun _ _ _ h => h) (by rfl) hHeld (by (intro w hSw; (try dsimp only at hSw); go_simp <;> with_reducible rfl)) ?_
              (try simp only [Act.put, List.setIfInBounds_toArray, List.set_cons_zero, List.set_cons_succ])
              refine take_y (i := 1) (some 78) rfl rfl (by kernel_rfl) (by kernel_rfl) (by kernel_rfl) (fun _ _ _ h => h) (by rfl) hHeld (by (intro w hSw; (try dsimp only at hSw); go_simp <;> with_reducible rfl)) ?_
              (try simp only [Act.put, List.setIfInBounds_toArray, List.set_cons_zero, List.set_cons_succ])
              refine take_y (i := 2) (some 79) rfl rfl (by kernel_rfl) (by kernel_rfl) (by kernel_rfl) (fun _ _ _ h => h) (by rfl) hHeld (by (intro w hSw; (try dsimp only at hSw); go_simp <;> with_reducible rfl)) ?_
              (try simp only [Act.put, List.setIfInBounds_toArray, List.set_cons_zero, List.set_cons_succ])
              refine take_y (i := 3) (some 80) rfl rfl (by kernel_rfl) (by kernel_rfl) (by kernel_rfl) (fun _ _ _ h => h) (by rfl) hHeld (by (intro w hSw; (try dsimp only at hSw); go_simp <;> with_reducible rfl)) ?_
              (try simp only [Act.put, List.setIfInBounds_toArray, List.set_cons_zero, List.set_cons_succ])
              refine take_y (i := 4) (some 81) rfl rfl (by kernel_rfl) (by kernel_rfl) (by kernel_rfl) (fun _ _ _ h => h) (by rfl) hHeld (by (intro w hSw; (try dsimp only at hSw); go_simp <;> with_reducible rfl)) ?_
              (try simp only [Act.put, List.setIfInBounds_toArray, List.set_cons_zero, List.set_cons_succ])
              refine take_y (i := 5) (some 82) rfl rfl (by kernel_rfl) (by kernel_rfl) (by kernel_rfl) (fun _ _ _ h => h) (by rfl) hHeld (by (intro w hSw; (try dsimp only at hSw); go_simp <;> with_reducible rfl)) ?_
              (try simp only [Act.put, List.setIfInBounds_toArray, List.set_cons_zero, List.set_cons_succ])
              refine take_y (i := 7) (some 84) rfl rfl (by kernel_rfl) (by kernel_rfl) (by kernel_rfl) (fun _ _ _ h => h) (by rfl) hHeld (by (intro w hSw; (try dsimp only at hSw); go_simp <;> with_reducible rfl)) ?_
              (try simp only [Act.put, List.setIfInBounds_toArray, List.set_cons_zero, List.set_cons_succ])
              refine take_y (i := 8) (some 85) rfl rfl (by kernel_rfl) (by kernel_rfl) (by kernel_rfl) (fun _ _ _ h => h) (by rfl) hHeld (by (intro w hSw; (try dsimp only at hSw); go_simp <;> with_reducible rfl)) ?_
              (try simp only [Act.put, List.setIfInBounds_toArray, List.set_cons_zero, List.set_cons_succ])
              refine take_y (i := 9) (some 86) rfl rfl (by kernel_rfl) (by kernel_rfl) (by kernel_rfl) (fun _ _ _ h => h) (by rfl) hHeld (by (intro w hSw; (try dsimp only at hSw); go_simp <;> with_reducible rfl)) ?_
              (try simp only [Act.put, List.setIfInBounds_toArray, List.set_cons_zero, List.set_cons_succ])
              refine take_y (i := 10) (some 87) rfl rfl (by kernel_rfl) (by kernel_rfl) (by kernel_rfl) (fun _ _ _ h => h) (by rfl) hHeld (by (intro w hSw; (try dsimp only at hSw); go_simp <;> with_reducible rfl)) ?_
              (try simp only [Act.put, List.setIfInBounds_toArray, List.set_cons_zero, List.set_cons_succ])
              refine wpAnyH_ready (rs := [6]) (by kernel_rfl) (by simp) ?_
              refine AllReadyH.cons rfl (fun K hK => ?_) AllReadyH.nil
              go_simp
              go_at_call 13
              (with_reducible refine HSG.out.mono ?_)
              rintro e w2 ⟨rfl, hd2, hf2⟩
              have hcell2 : w2.cell? (ad0.add j) = some (.int .i64 x) := hf2.cell hcell HNB.out
              have HD2 := Aside0.mk hd2
              have HF2 := Aside0.mk hf2
              clear hd2 hf2
              refine hK.out _ _ hcell2 (fun hHeld => ?_)
              clear hK K
              (try simp only [Act.put, List.setIfInBounds_toArray, List.set_cons_zero, List.set_cons_succ])
              refine take_y (i := 11) (some 88) rfl rfl (by kernel_rfl) (by kernel_rfl) (by kernel_rfl) (fun _ _ _ h => h) (by rfl) hHeld (by (intro w hSw; (try dsimp only at hSw); go_simp <;> with_reducible rfl)) ?_
              (try simp only [Act.put, List.setIfInBounds_toArray, List.set_cons_zero, List.set_cons_succ])
              refine take_y (i := 12) (some 89) rfl rfl (by kernel_rfl) (by kernel_rfl) (by kernel_rfl) (fun _ _ _ h => h) (by rfl) hHeld (by (intro w hSw; (try dsimp only at hSw); go_simp <;> with_reducible rfl)) ?_
              (try simp only [Act.put, List.setIfInBounds_toArray, List.set_cons_zero, List.set_cons_succ])
              refine take_y (i := 13) (some 90) rfl rfl (by kernel_rfl) (by kernel_rfl) (by kernel_rfl) (fun _ _ _ h => h) (by rfl) hHeld (by (intro w hSw; (try dsimp only at hSw); go_simp <;> with_reducible rfl)) ?_
              (try simp only [Act.put, List.setIfInBounds_toArray, List.set_cons_zero, List.set_cons_succ])
              refine take_y (i := 14) (some 91) rfl rfl (by kernel_rfl) (by kernel_rfl) (by kernel_rfl) (fun _ _ _ h => h) (by rfl) hHeld (by (intro w hSw; (try dsimp only at hSw); go_simp <;> with_reducible rfl)) ?_
              (try simp only [Act.put, List.setIfInBounds_toArray, List.set_cons_zero, List.set_cons_succ])
              refine take_y (i := 15) (some 92) rfl rfl (by kernel_rfl) (by kernel_rfl) (by kernel_rfl) (fun _ _ _ h => h) (by rfl) hHeld (by (intro w hSw; (try dsimp only at hSw); go_simp <;> with_reducible rfl)) ?_
              (try simp only [Act.put, List.setIfInBounds_toArray, List.set_cons_zero, List.set_cons_succ])
              refine take_y (i := 16) (some 93) rfl rfl (by kernel_rfl) (by kernel_rfl) (by kernel_rfl) (fun _ _ _ h => h) (by rfl) hHeld (by (intro w hSw; (try dsimp only at hSw); go_simp <;> with_reducible rfl)) ?_
              (try simp only [Act.put, List.setIfInBounds_toArray, List.set_cons_zero, List.set_cons_succ])
              refine take_y (i := 17) (some 94) rfl rfl (by kernel_rfl) (by kernel_rfl) (by kernel_rfl) (fun _ _ _ h => h) (by rfl) hHeld (by (intro w hSw; (try dsimp only at hSw); go_simp <;> with_reducible rfl)) ?_
              (try simp only [Act.put, List.setIfInBounds_toArray, List.set_cons_zero, List.set_cons_succ])
              refine take_y (i := 18) (some 95) rfl rfl (by kernel_rfl) (by kernel_rfl) (by kernel_rfl) (fun _ _ _ h => h) (by rfl) hHeld (by (intro w hSw; (try dsimp only at hSw); go_simp <;> with_reducible rfl)) ?_
              (try simp only [Act.put, List.setIfInBounds_toArray, List.set_cons_zero, List.set_cons_succ])
              refine take_n (i := 19) (some 96) rfl rfl (by kernel_rfl) (by kernel_rfl) (by kernel_rfl) (fun _ _ _ h => h) (by rfl) hHeld ?_
              (try simp only [Act.put, List.setIfInBounds_toArray, List.set_cons_zero, List.set_cons_succ])
              refine take_n (i := 20) (some 97) rfl rfl (by kernel_rfl) (by kernel_rfl) (by kernel_rfl) (fun _ _ _ h => h) (by rfl) hHeld ?_
              (try simp only [Act.put, List.setIfInBounds_toArray, List.set_cons_zero, List.set_cons_succ])
              refine take_n (i := 21) (some 98) rfl rfl (by kernel_rfl) (by kernel_rfl) (by kernel_rfl) (fun _ _ _ h => h) (by rfl) hHeld ?_
              (try simp only [Act.put, List.setIfInBounds_toArray, List.set_cons_zero, List.set_cons_succ])
              refine take_n (i := 22) (some 99) rfl rfl (by kernel_rfl) (by kernel_rfl) (by kernel_rfl) (fun _ _ _ h => h) (by rfl) hHeld ?_
              (try simp only [Act.put, List.setIfInBounds_toArray, List.set_cons_zero, List.set_cons_succ])
              refine take_n (i := 23) (some 100) rfl rfl (by kernel_rfl) (by kernel_rfl) (by kernel_rfl) (fun _ _ _ h => h) (by rfl) hHeld ?_
              (try simp only [Act.put, List.setIfInBounds_toArray, List.set_cons_zero, List.set_cons_succ])
              refine take_n (i := 24) (some 101) rfl rfl (by kernel_rfl) (by kernel_rfl) (by kernel_rfl) (fun _ _ _ h => h) (by rfl) hHeld ?_
              (try simp only [Act.put, List.setIfInBounds_toArray, List.set_cons_zero, List.set_cons_succ])
              refine take_n (i := 25) (some 102) rfl rfl (by kernel_rfl) (by kernel_rfl) (by kernel_rfl) (fun _ _ _ h => h) (by rfl) hHeld ?_
              (try simp only [Act.put, List.setIfInBounds_toArray, List.set_cons_zero, List.set_cons_succ])
              refine take_y (i := 26) (some 103) rfl rfl (by kernel_rfl) (by kernel_rfl) (by kernel_rfl) (fun _ _ _ h => h) (by rfl) hHeld (by (intro w hSw; (try dsimp only at hSw); go_simp <;> with_reducible rfl)) ?_
              (try simp only [Act.put, List.setIfInBounds_toArray, List.set_cons_zero, List.set_cons_succ])
              refine take_y (i := 27) (some 104) rfl rfl (by kernel_rfl) (by kernel_rfl) (by kernel_rfl) (fun _ _ _ h => h) (by rfl) hHeld (by (intro w hSw; (try dsimp only at hSw); go_simp <;> with_reducible rfl)) ?_
              (try simp only [Act.put, List.setIfInBounds_toArray, List.set_cons_zero, List.set_cons_succ])
              refine wpAnyH_done (by kernel_rfl) ?_ _
              go_wp2
              go_roundw
              case rel => exact ⟨j + 1, by go_num, by omega, (Fr.below (B := w.heap.size) (S := fun k => k = b) HF2.out (HBJ.out.drew).size (fun k hk => by subst hk; exact hbw) |> fun z => (HBJ.out.drew).trans z), HD2.out⟩
              case measure => simp [intOf]; omega
          · have q1 : decide (j < l.length) = false := decide_eq_false p1
            by_cases p2 : j < m.length
            · have q2 : decide (j < m.length) = true := decide_eq_true p2
              obtain ⟨ad1, rfl, hcells⟩ := get_str (Kd.C_below HM.out HBJ.out) j p2
              obtain ⟨y, hy⟩ : ∃ y, y = m[j] := ⟨_, rfl⟩
              rw [← hy] at hcells
              have HY := Aside0.mk hy
              have hoky : okS y := by rw [hy]; exact HAS.out _ (List.getElem_mem p2)
              have HOS := Aside0.mk hoky
              have HBY2 := Aside0.mk (byts_append (eS_byts y hoky) (tail_byts l m (j + 1) HAL.out HAS.out))
              clear hy hoky
              have HNS := Aside0.mk (show ¬ (ad1.add j).block = b by
                obtain ⟨ad', e', hc'⟩ := get_str HM.out j p2
                injection e' with e'
                subst e'
                have := World.block_lt_of_cell? w _ hc'
                omega)
              have HT := Aside0.mk (tail_str l m j p1 p2)
              have HDT := Aside0.mk (show Dec wr b (eS y ++ tail l m (j + 1)) 0 by have := HDJ.out; rw [HT.out, ← HY.out] at this; exact this)
              go_wp2_with fail
              refine wp_region_held_drew (S := fun w' => w'.cell? (ad1.add j) = some (.string y)) (by kernel_rfl) hcells (fun hHeld => ?_)
              refine take_y (i := 0) (some 77) rfl rfl (by kernel_rfl) (by kernel_rfl) (by kernel_rfl) (fun _ _ _ h => h) (by rfl) hHeld (by (intro w hSw; (try dsimp only at hSw); go_simp <;> with_reducible rfl)) ?_
              (try simp only [Act.put, List.setIfInBounds_toArray, List.set_cons_zero, List.set_cons_succ])
              refine take_y (i := 1) (some 78) rfl rfl (by kernel_rfl) (by kernel_rfl) (by kernel_rfl) (fun _ _ _ h => h) (by rfl) hHeld (by (intro w hSw; (try dsimp only at hSw); go_simp <;> with_reducible rfl)) ?_
              (try simp only [Act.put, List.setIfInBounds_toArray, List.set_cons_zero, List.set_cons_succ])
              refine take_y (i := 2) (some 79) rfl rfl (by kernel_rfl) (by kernel_rfl) (by kernel_rfl) (fun _ _ _ h => h) (by rfl) hHeld (by (intro w hSw; (try dsimp only at hSw); go_simp <;> with_reducible rfl)) ?_
              (try simp only [Act.put, List.setIfInBounds_toArray, List.set_cons_zero, List.set_cons_succ])
              refine take_y (i := 3) (some 80) rfl rfl (by kernel_rfl) (by kernel_rfl) (by kernel_rfl) (fun _ _ _ h => h) (by rfl) hHeld (by (intro w hSw; (try dsimp only at hSw); go_simp <;> with_reducible rfl)) ?_
              (try simp only [Act.put, List.setIfInBounds_toArray, List.set_cons_zero, List.set_cons_succ])
              refine take_y (i := 4) (some 81) rfl rfl (by kernel_rfl) (by kernel_rfl) (by kernel_rfl) (fun _ _ _ h => h) (by rfl) hHeld (by (intro w hSw; (try dsimp only at hSw); go_simp <;> with_reducible rfl)) ?_
              (try simp only [Act.put, List.setIfInBounds_toArray, List.set_cons_zero, List.set_cons_succ])
              refine take_n (i := 5) (some 82) rfl rfl (by kernel_rfl) (by kernel_rfl) (by kernel_rfl) (fun _ _ _ h => h) (by rfl) hHeld ?_
              (try simp only [Act.put, List.setIfInBounds_toArray, List.set_cons_zero, List.set_cons_succ])
              refine take_n (i := 6) (some 83) rfl rfl (by kernel_rfl) (by kernel_rfl) (by kernel_rfl) (fun _ _ _ h => h) (by rfl) hHeld ?_
              (try simp only [Act.put, List.setIfInBounds_toArray, List.set_cons_zero, List.set_cons_succ])
              refine take_n (i := 7) (some 84) rfl rfl (by kernel_rfl) (by kernel_rfl) (by kernel_rfl) (fun _ _ _ h => h) (by rfl) hHeld ?_
              (try simp only [Act.put, List.setIfInBounds_toArray, List.set_cons_zero, List.set_cons_succ])
              refine take_n (i := 8) (some 85) rfl rfl (by kernel_rfl) (by kernel_rfl) (by kernel_rfl) (fun _ _ _ h => h) (by rfl) hHeld ?_
              (try simp only [Act.put, List.setIfInBounds_toArray, List.set_cons_zero, List.set_cons_succ])
              refine take_n (i := 9) (some 86) rfl rfl (by kernel_rfl) (by kernel_rfl) (by kernel_rfl) (fun _ _ _ h => h) (by rfl) hHeld ?_
              (try simp only [Act.put, List.setIfInBounds_toArray, List.set_cons_zero, List.set_cons_succ])
              refine take_n (i := 10) (some 87) rfl rfl (by kernel_rfl) (by kernel_rfl) (by kernel_rfl) (fun _ _ _ h => h) (by rfl) hHeld ?_
              (try simp only [Act.put, List.setIfInBounds_toArray, List.set_cons_zero, List.set_cons_succ])
              refine take_n (i := 11) (some 88) rfl rfl (by kernel_rfl) (by kernel_rfl) (by kernel_rfl) (fun _ _ _ h => h) (by rfl) hHeld ?_
              (try simp only [Act.put, List.setIfInBounds_toArray, List.set_cons_zero, List.set_cons_succ])
              refine take_y (i := 12) (some 89) rfl rfl (by kernel_rfl) (by kernel_rfl) (by kernel_rfl) (fun _ _ _ h => h) (by rfl) hHeld (by (intro w hSw; (try dsimp only at hSw); go_simp <;> with_reducible rfl)) ?_
              (try simp only [Act.put, List.setIfInBounds_toArray, List.set_cons_zero, List.set_cons_succ])
              refine take_y (i := 13) (some 90) rfl rfl (by kernel_rfl) (by kernel_rfl) (by kernel_rfl) (fun _ _ _ h => h) (by rfl) hHeld (by (intro w hSw; (try dsimp only at hSw); go_simp <;> with_reducible rfl)) ?_
              (try simp only [Act.put, List.setIfInBounds_toArray, List.set_cons_zero, List.set_cons_succ])
              refine take_y (i := 14) (some 91) rfl rfl (by kernel_rfl) (by kernel_rfl) (by kernel_rfl) (fun _ _ _ h => h) (by rfl) hHeld (by (intro w hSw; (try dsimp only at hSw); go_simp <;> with_reducible rfl)) ?_
              (try simp only [Act.put, List.setIfInBounds_toArray, List.set_cons_zero, List.set_cons_succ])
              refine take_y (i := 15) (some 92) rfl rfl (by kernel_rfl) (by kernel_rfl) (by kernel_rfl) (fun _ _ _ h => h) (by rfl) hHeld (by (intro w hSw; (try dsimp only at hSw); go_simp <;> with_reducible rfl)) ?_
              (try simp only [Act.put, List.setIfInBounds_toArray, List.set_cons_zero, List.set_cons_succ])
              refine take_y (i := 16) (some 93) rfl rfl (by kernel_rfl) (by kernel_rfl) (by kernel_rfl) (fun _ _ _ h => h) (by rfl) hHeld (by (intro w hSw; (try dsimp only at hSw); go_simp <;> with_reducible rfl)) ?_
              (try simp only [Act.put, List.setIfInBounds_toArray, List.set_cons_zero, List.set_cons_succ])
              refine take_y (i := 17) (some 94) rfl rfl (by kernel_rfl) (by kernel_rfl) (by kernel_rfl) (fun _ _ _ h => h) (by rfl) hHeld (by (intro w hSw; (try dsimp only at hSw); go_simp <;> with_reducible rfl)) ?_
              (try simp only [Act.put, List.setIfInBounds_toArray, List.set_cons_zero, List.set_cons_succ])
              refine take_y (i := 18) (some 95) rfl rfl (by kernel_rfl) (by kernel_rfl) (by kernel_rfl) (fun _ _ _ h => h) (by rfl) hHeld (by (intro w hSw; (try dsimp only at hSw); go_simp <;> with_reducible rfl)) ?_
              (try simp only [Act.put, List.setIfInBounds_toArray, List.set_cons_zero, List.set_cons_succ])
              refine take_y (i := 19) (some 96) rfl rfl (by kernel_rfl) (by kernel_rfl) (by kernel_rfl) (fun _ _ _ h => h) (by rfl) hHeld (by (intro w hSw; (try dsimp only at hSw); go_simp <;> with_reducible rfl)) ?_
              (try simp only [Act.put, List.setIfInBounds_toArray, List.set_cons_zero, List.set_cons_succ])
              refine take_y (i := 21) (some 98) rfl rfl (by kernel_rfl) (by kernel_rfl) (by kernel_rfl) (fun _ _ _ h => h) (by rfl) hHeld (by (intro w hSw; (try dsimp only at hSw); go_simp <;> with_reducible rfl)) ?_
              (try simp only [Act.put, List.setIfInBounds_toArray, List.set_cons_zero, List.set_cons_succ])
              refine take_y (i := 22) (some 99) rfl rfl (by kernel_rfl) (by kernel_rfl) (by kernel_rfl) (fun _ _ _ h => h) (by rfl) hHeld (by (intro w hSw; (try dsimp only at hSw); go_simp <;> with_reducible rfl)) ?_
              (try simp only [Act.put, List.setIfInBounds_toArray, List.set_cons_zero, List.set_cons_succ])
              refine take_y (i := 23) (some 100) rfl rfl (by kernel_rfl) (by kernel_rfl) (by kernel_rfl) (fun _ _ _ h => h) (by rfl) hHeld (by (intro w hSw; (try dsimp only at hSw); go_simp <;> with_reducible rfl)) ?_
              (try simp only [Act.put, List.setIfInBounds_toArray, List.set_cons_zero, List.set_cons_succ])
              refine take_y (i := 24) (some 101) rfl rfl (by kernel_rfl) (by kernel_rfl) (by kernel_rfl) (fun _ _ _ h => h) (by rfl) hHeld (by (intro w hSw; (try dsimp only at hSw); go_simp <;> with_reducible rfl)) ?_
              (try simp only [Act.put, List.setIfInBounds_toArray, List.set_cons_zero, List.set_cons_succ])
              refine wpAnyH_ready (rs := [20]) (by kernel_rfl) (by simp) ?_
              refine AllReadyH.cons rfl (fun K hK => ?_) AllReadyH.nil
              go_simp
              have HTX := Aside0.mk (text_ok b wr.drew (eS y ++ tail l m (j + 1)) (tail l m (j + 1)) y (Dec_drew HDT.out) HBY2.out (by unfold eS; rw [List.append_assoc]) HOS.out)
              go_at_call 15
              (with_reducible refine HTX.out.mono ?_)
              rintro e w3 ⟨rfl, hd3, hf3⟩
              have hcells3 : w3.cell? (ad1.add j) = some (.string y) := hf3.cell hcells HNS.out
              have HD3 := Aside0.mk hd3
              have HF3 := Aside0.mk hf3
              clear hd3 hf3
              refine hK.out _ _ hcells3 (fun hHeld => ?_)
              clear hK K
              (try simp only [Act.put, List.setIfInBounds_toArray, List.set_cons_zero, List.set_cons_succ])
              refine take_y (i := 25) (some 102) rfl rfl (by kernel_rfl) (by kernel_rfl) (by kernel_rfl) (fun _ _ _ h => h) (by rfl) hHeld (by (intro w hSw; (try dsimp only at hSw); go_simp <;> with_reducible rfl)) ?_
              (try simp only [Act.put, List.setIfInBounds_toArray, List.set_cons_zero, List.set_cons_succ])
              refine take_y (i := 26) (some 103) rfl rfl (by kernel_rfl) (by kernel_rfl) (by kernel_rfl) (fun _ _ _ h => h) (by rfl) hHeld (by (intro w hSw; (try dsimp only at hSw); go_simp <;> with_reducible rfl)) ?_
              (try simp only [Act.put, List.setIfInBounds_toArray, List.set_cons_zero, List.set_cons_succ])
              refine take_y (i := 27) (some 104) rfl rfl (by kernel_rfl) (by kernel_rfl) (by kernel_rfl) (fun _ _ _ h => h) (by rfl) hHeld (by (intro w hSw; (try dsimp only at hSw); go_simp <;> with_reducible rfl)) ?_
              (try simp only [Act.put, List.setIfInBounds_toArray, List.set_cons_zero, List.set_cons_succ])
              refine wpAnyH_done (by kernel_rfl) ?_ _
              go_wp2
              go_roundw
              case rel => exact ⟨j + 1, by go_num, by omega, (Fr.below (B := w.heap.size) (S := fun k => k = b) HF3.out (HBJ.out.drew).size (fun k hk => by subst hk; exact hbw) |> fun z => (HBJ.out.drew).trans z), HD3.out⟩
              case measure => simp [intOf]; omega
            · have q2 : decide (j < m.length) = false := decide_eq_false p2
              have HT := Aside0.mk (tail_none l m j p1 p2)
              have HDN := Aside0.mk (show Dec wr b [] 0 by have := HDJ.out; rw [HT.out] at this; exact this)
              go_wp2_with fail
              refine (done_ok b _ HDN.out).mono ?_
              rintro e w' ⟨rfl, rfl⟩
              go_wp2_with fail
              refine (num_any _ _).mono ?_
              rintro e w' ⟨rfl, rfl⟩
              go_wp2_with fail
              refine (knows_true _).mono ?_
              rintro e w5 ⟨rfl, b5⟩
              have B5 := Aside0.mk b5
              clear b5
              go_wp2
              go_ret
              exact ⟨rfl, below_step HBJ.out B5.out⟩
end Go.Proofs.Ytpgcbdopnkbmhaa.Back
