/- Unquote and one walked; contracts in the words in which a caller asks for them. -/
import Derived.Test.YtgafnjgiikdofaaGreatDoorMb
import Derived.WalkMore
import Derived.ScopeJumps
import Derived.Lib.ValidAsc
import Derived.Test.YtgafnjgiikdofaaGreatDoorMa
namespace Go.Proofs.YtgafnjgiikdofaaGreatDoor.Sx
set_option linter.unusedVariables false
set_option linter.unusedSimpArgs false
open Go.Shelf Go.RowKit Go.Proofs.YtgafnjgiikdofaaGreatDoor.Sm Go.Proofs.YtgafnjgiikdofaaGreatDoor.Se Go.Proofs.YtgafnjgiikdofaaGreatDoor.Sq Go.Proofs.YtgafnjgiikdofaaGreatDoor.Sr
open Go.Proofs.YtgafnjgiikdofaaGreatDoorW.PrintWords Go.Proofs.YtgafnjgiikdofaaGreatDoorW.PrintLast Go.Proofs.YtgafnjgiikdofaaGreatDoorW.PrintMore
/-- one step: the rune that is meant at the beginning, and how many bytes it takes; none: there is none -/
def stepL (l : List UInt8) : Option (Nat × Nat) :=
  if (l.getD 0 0).toNat ≠ 92 then (if (Lib.decodeL l).1 = 65533 ∧ (Lib.decodeL l).2 < 2 then none else some (Lib.decodeL l))
  else if (escL l).2 = 0 then none else some (escL l)
/-- from the place behind the first quote: the text, and what is left (the last quote, and what stands behind it) -/
def unqL : Nat → List UInt8 → List UInt8 → Option (List UInt8 × List UInt8)
  | 0, _, _ => none
  | f + 1, l, acc =>
    if l = [] then none else if (l.getD 0 0).toNat = 34 then some (acc, l) else
    match stepL l with
    | none => none
    | some (c, k) => if Lib.hasPrefix l (markL c) then unqL f (l.drop k) (acc ++ Lib.encodeRune c) else none
/-- Unquote -/
def unquoteV (s : ByteArray) : Value :=
  match s.data.toList with
  | [] => .tuple #[.string ⟨#[]⟩, .int .i64 0, .bool false]
  | q :: r => if q = 34 then (match unqL (r.length + 1) r [] with
    | some (t, l) => .tuple #[.string ⟨t.toArray⟩, .int .i64 ((s.size : Int) - l.length + 1), .bool true]
    | none => .tuple #[.string ⟨#[]⟩, .int .i64 0, .bool false]) else .tuple #[.string ⟨#[]⟩, .int .i64 0, .bool false]
def noneV : Value := .tuple #[.string ⟨#[]⟩, .int .i64 0, .bool false]
/-- what the calls of this layer ask of memory: the tables of unicode/utf8 and strconv, and two errors -/
structure Env (w : World) : Prop where
  tabs : Lib.Utf8Tabs 0 1 w
  tz : w.cell? ⟨7, 15, none⟩ = some (.int .u8 4)
  e3 : ∃ ev, w.cell? ⟨3, 0, none⟩ = some ev ∧ (ev = .nilIface ∨ ∃ te pe, ev = .iface te pe)
  e4 : ∃ ev, w.cell? ⟨4, 0, none⟩ = some ev ∧ (ev = .nilIface ∨ ∃ te pe, ev = .iface te pe)
theorem Env.below {w w' : World} (h : Env w) (hb : Below w.heap.size w w') : Env w' := by
  obtain ⟨v3, a3, b3⟩ := h.e3
  obtain ⟨v4, a4, b4⟩ := h.e4
  exact ⟨Utf8Tabs_below h.tabs hb, cell_at hb (Or.inl (Nat.le_refl _)) h.tz, ⟨v3, cell_at hb (Or.inl (Nat.le_refl _)) a3, b3⟩, ⟨v4, cell_at hb (Or.inl (Nat.le_refl _)) a4, b4⟩⟩
theorem escL_le (l : List UInt8) : (escL l).1 ≤ 1114111 ∧ (escL l).2 ≤ l.length := by
  unfold escL
  split
  · exact ⟨by decide, Nat.zero_le _⟩
  · rename_i h2
    have hx := (l.getD 1 0).toNat_lt
    split
    · exact ⟨by decide, by simp only; omega⟩
    · split
      · exact ⟨by simp only; omega, by simp only; omega⟩
      · split
        · exact ⟨by decide, Nat.zero_le _⟩
        · rename_i h
          have hlt := indexByte_lt l 125 (by omega)
          split
          · rename_i v hv
            have := Go.Proofs.YtgafnjgiikdofaaGreatDoor.Se.hexU_le _ 0 (by omega) v hv
            exact ⟨by simp only; omega, by simp only; omega⟩
          · exact ⟨by decide, Nat.zero_le _⟩
/-- where the run jumps to 'none' -/
def Jump (B : Nat) (w0 : World) (ans : Prop) (a : Act) (w : World) : Prop :=
  ans ∧ Below B w0 w ∧ ∃ u0 u1 u2 u3 u4 u5 u6 u7 u8 u9 u10 u11 u12 u13 u14 u15 u16 u17 u18 u19 u20 u21 u22 u23 u24 u25 u26 u27 u28 u29 u30 u31 u32 u33 u34 u35 u36 u37 u38 u39 u40 u41 u42 u43 u44 u45 u46 u47 u48 u49 u50 u51 u52 u53 u54 u55 u56 u57 u58 u59 u60 u61 u62, a = { tmps := #[u0, u1, u2, u3, u4, u5, u6, u7, u8, u9, u10, u11, u12, u13, u14, u15, u16, u17, u18, u19, u20, u21, u22, u23, u24, u25, u26, u27, u28, u29, u30, u31, u32, u33, u34, u35, u36, u37, u38, u39, u40, u41, u42, u43, u44, u45, u46, u47, u48, u49, u50, u51, u52, u53, u54, u55, u56, u57, u58, u59, u60, u61, u62], defers := [] }
set_option maxHeartbeats 8000000 in
set_option maxRecDepth 1000000 in
theorem unquote_calls (s : ByteArray) (w : World) (hs : s.size ≤ 17592186044416) (hE : Env w) :
    Calls Tryz.prog 11 #[.string s] w fun e w' => e = .returned (unquoteV s) ∧ Below w.heap.size w w' := by
  obtain ⟨ANS, hANS⟩ : ∃ ANS, unquoteV s = ANS := ⟨_, rfl⟩
  rw [hANS]
  go_enter Tryz.func11, Tryz.ntmps11
  go_wp2
  refine wp_scope_jumps 0 (Jump w.heap.size w (ANS = noneV)) (fun _ _ => 0) rfl ?_ ?_
  · have hcp := Tryz.strings_CutPrefix s ⟨#[34]⟩
    have hp34 : (⟨#[34]⟩ : ByteArray).data.toList = [34] := rfl
    rw [hp34] at hcp
    clear hp34
    cases hsd : s.data.toList with
    | nil =>
      have hA : ANS = noneV := by rw [← hANS]; unfold unquoteV; rw [hsd]; rfl
      have hc := hcp (w.alloc (.cells #[.pointer none, .slice none 0 0] 62))
      rw [hsd] at hc
      have e1 : Lib.hasPrefix ([] : List UInt8) [34] = false := rfl
      have e2 : Lib.trimPrefix ([] : List UInt8) [34] = [] := rfl
      rw [e1, e2] at hc
      clear hcp e1 e2 hsd hANS
      go_wp2_with fail
      refine hc.mono ?_
      rintro e w1 ⟨rfl, rfl⟩
      clear hc
      go_wp2_with fail
      go_step3
      exact ⟨rfl, hA, (Below.refl _ w).alloc (Nat.le_refl _) _, ⟨_, _, _, _, _, _, _, _, _, _, _, _, _, _, _, _, _, _, _, _, _, _, _, _, _, _, _, _, _, _, _, _, _, _, _, _, _, _, _, _, _, _, _, _, _, _, _, _, _, _, _, _, _, _, _, _, _, _, _, _, _, _, _, rfl⟩⟩
    | cons q r =>
      by_cases hq : q = 34
      · subst hq
        have hA : ANS = (match unqL (r.length + 1) r [] with
            | some (t, l) => .tuple #[.string ⟨t.toArray⟩, .int .i64 ((s.size : Int) - l.length + 1), .bool true]
            | none => noneV) := by rw [← hANS]; unfold unquoteV noneV; rw [hsd]; simp
        obtain ⟨T, hT⟩ : ∃ T, T = unqL (r.length + 1) r [] := ⟨_, rfl⟩
        rw [← hT] at hA
        have hrl : r.length + 1 = s.size := by rw [Lib.size_eq s, hsd]; simp
        have hc := hcp (w.alloc (.cells #[.pointer none, .slice none 0 0] 62))
        rw [hsd] at hc
        have e1 : Lib.hasPrefix (34 :: r) [34] = true := by simp [Lib.hasPrefix]
        have e2 : Lib.trimPrefix (34 :: r) [34] = r := by simp [Lib.trimPrefix, e1]
        rw [e1, e2] at hc
        clear hcp e1 e2 hsd hANS
        have hfr := Lib.IsBuilderF.of (Lib.fresh_isBuilder 62 5 w)
        have hb0 : Below w.heap.size w (w.alloc (.cells #[.pointer none, .slice none 0 0] 62)) := (Below.refl _ w).alloc (Nat.le_refl _) _
        have HA := Aside0.mk hA
        clear hA
        go_wp2_with fail
        refine hc.mono ?_
        rintro e w1 ⟨rfl, rfl⟩
        clear hc
        obtain ⟨w1, hw1⟩ : ∃ w1, w1 = w.alloc (.cells #[.pointer none, .slice none 0 0] 62) := ⟨_, rfl⟩
        rw [← hw1] at hfr hb0 ⊢
        clear hw1
        go_wp2_with fail
        go_loopg [6] s.size (fun gk s6 wr => ∃ (t : ByteArray) (acc : List UInt8), s6 = .string t ∧ Lib.IsBuilderF 62 5 w.heap.size w.heap.size (Lib.byteCells acc) wr ∧ Below w.heap.size w wr ∧ Aside0 (T = unqL gk t.data.toList acc) ∧ t.size < gk ∧ Aside0 (acc.length + 4 * t.size ≤ 4 * s.size) ∧ t.size ≤ s.size)
        case atStart =>
          refine ⟨⟨r.toArray⟩, [], rfl, hfr, hb0, ⟨by rw [hT, hrl]⟩, ?_, ⟨?_⟩, ?_⟩
          · rw [Lib.size_eq]; simp; omega
          · rw [Lib.size_eq]; simp; omega
          · rw [Lib.size_eq]; simp; omega
        case round =>
          obtain ⟨t, acc, rfl, hI, hbw, hu, hg, hal, hts⟩ := hrel
          obtain ⟨g', rfl⟩ : ∃ g', gk = g' + 1 := ⟨gk - 1, by omega⟩
          have hEr := hE.below hbw
          by_cases h0 : t.size = 0
          · obtain rfl : t = ⟨#[]⟩ := by
              cases t with | mk d => simp [ByteArray.size] at h0; rw [h0]
            have HU : Aside0 (T = none) := ⟨hu.out.trans (by simp [unqL])⟩
            clear h0 hu
            go_wp2_with fail
            go_step3
            go_wp2_with fail
            show bodyPost Tryz.prog Tryz.f11 (fun e w' => e = Ending.returned ANS ∧ Below w.heap.size w w') Exit.ret _ _
            go_ret3
            exact ⟨by rw [HA.out, HU.out]; rfl, hbw⟩
          have h0' : 0 < t.size := by omega
          have hemp : t.toList.isEmpty = false := by
            rw [← decide_eq_emptyBytes]
            exact decide_eq_false (fun h => h0 (by rw [h]; rfl))
          have htl : t.data.toList.length = t.size := (Lib.size_eq t).symm
          have hx0 : t.data.toList.getD 0 0 = t[0]'h0' := by
            rw [List.getD_eq_getElem?_getD, List.getElem?_eq_getElem (by omega)]; rfl
          have hne : ¬ t.data.toList = [] := by
            intro h; rw [h] at htl; simp at htl; omega
          obtain ⟨x, hx⟩ : ∃ x, t[0]'h0' = x := ⟨_, rfl⟩
          rw [hx] at hx0
          have hstep := hu.out
          unfold unqL at hstep
          rw [if_neg hne, hx0] at hstep
          clear hu hne h0
          by_cases n34 : x.toNat = 34
          · rw [if_pos n34] at hstep
            have HU := Aside0.mk hstep
            have e34 : ((x.toNat : Int) == 34) = true := by simp; omega
            have e34' : ((x.toNat : Int) != 34) = false := by simp; omega
            clear hstep n34 hx0
            have s1 := hbw.size
            have hst := Tryz.Builder_String_any_k w.heap.size w.heap.size acc wr hI (by omega)
            go_wp2_with fail
            refine hst.mono ?_
            rintro e W2 ⟨rfl, _, b4, _⟩
            clear hst
            go_wp2_with fail
            show bodyPost Tryz.prog Tryz.f11 (fun e w' => e = Ending.returned ANS ∧ Below w.heap.size w w') Exit.ret _ _
            go_ret3
            exact ⟨by rw [HA.out, HU.out]; simp only [htl]; rfl, hbw.trans b4⟩
          rw [if_neg n34] at hstep
          have e34 : ((x.toNat : Int) == 34) = false := by simp; omega
          have e34' : ((x.toNat : Int) != 34) = true := by simp; omega
          unfold stepL at hstep
          rw [hx0] at hstep
          by_cases n92 : x.toNat = 92
          · rw [if_neg (by omega)] at hstep
            have e92 : ((x.toNat : Int) != 92) = false := by simp; omega
            obtain ⟨v3, a3, b3⟩ := hEr.e3
            obtain ⟨v4, a4, b4⟩ := hEr.e4
            have hes := escaped_calls t (by omega) v3 v4 wr a3 b3 a4 b4
            have hle := escL_le t.data.toList
            obtain ⟨c, k, hck⟩ : ∃ c k, escL t.data.toList = (c, k) := ⟨_, _, rfl⟩
            rw [hck] at hes hstep hle
            simp only at hstep hle
            unfold escV at hes
            simp only at hes
            clear hck n92 n34 a3 a4 b3 b4 hx0
            by_cases hk0 : k = 0
            · subst hk0
              have HU : Aside0 (T = none) := ⟨hstep.trans (by simp)⟩
              clear hstep hle
              go_wp2_with fail
              refine hes.mono ?_
              rintro e W1 ⟨rfl, b1⟩
              clear hes
              go_wp2_with fail
              go_step3
              exact ⟨rfl, HA.out.trans (by rw [HU.out]), hbw.trans (b1.mono hbw.size), ⟨_, _, _, _, _, _, _, _, _, _, _, _, _, _, _, _, _, _, _, _, _, _, _, _, _, _, _, _, _, _, _, _, _, _, _, _, _, _, _, _, _, _, _, _, _, _, _, _, _, _, _, _, _, _, _, _, _, _, _, _, _, _, _, rfl⟩⟩
            have hk0b : ((k : Int) == 0) = false := by simp; omega
            rw [if_neg hk0] at hstep
            have hst : T = if Lib.hasPrefix t.data.toList (markL c) then unqL g' (t.data.toList.drop k) (acc ++ Lib.encodeRune c) else none := hstep
            obtain ⟨hc, hk⟩ := hle
            have hkt : k ≤ t.size := by omega
            have hk1 : 1 ≤ k := by omega
            clear hstep hk0
            go_wp2_with fail
            refine hes.mono ?_
            rintro e W1 ⟨rfl, b1⟩
            clear hes
            have hbw1 := hbw.trans (b1.mono hbw.size)
            have hE1 := hEr.below b1
            have hI1 := isF_below hI b1
            clear hI b1 hbw hEr
            have hmk := mark_calls (c : Int) (by omega) (by omega) W1 (hE1.tz)
            have hpf := fun (W : World) => Tryz.strings_HasPrefix t (markB (c : Int)) W
            obtain ⟨M, hM⟩ : ∃ M, M = markB (c : Int) := ⟨_, rfl⟩
            have hML : M.data.toList = markL c := by rw [hM]; rfl
            rw [← hM] at hmk hpf
            clear hM
            rw [hML] at hpf
            cases hpx : Lib.hasPrefix t.data.toList (markL c) with
            | false =>
              have HU : Aside0 (T = none) := ⟨hst.trans (by simp [hpx])⟩
              rw [hpx] at hpf
              clear hst hpx hML
              go_wp2_with fail
              refine hmk.mono ?_
              rintro e W2 ⟨rfl, b2⟩
              clear hmk
              have b3 := hbw1.trans (b2.mono hbw1.size)
              go_wp2_with fail
              refine (hpf _).mono ?_
              rintro e W3 ⟨rfl, rfl⟩
              clear hpf
              go_wp2_with fail
              go_step3
              exact ⟨rfl, HA.out.trans (by rw [HU.out]), b3, ⟨_, _, _, _, _, _, _, _, _, _, _, _, _, _, _, _, _, _, _, _, _, _, _, _, _, _, _, _, _, _, _, _, _, _, _, _, _, _, _, _, _, _, _, _, _, _, _, _, _, _, _, _, _, _, _, _, _, _, _, _, _, _, _, rfl⟩⟩
            | true =>
              have HU : Aside0 (T = unqL g' (t.data.toList.drop k) (acc ++ Lib.encodeRune c)) := ⟨hst.trans (by simp [hpx])⟩
              rw [hpx] at hpf
              clear hst hpx hML
              have hwr : ∀ W, Lib.IsBuilderF 62 5 w.heap.size w.heap.size (Lib.byteCells acc) W → w.heap.size ≤ W.heap.size → _ := fun W h h' => wrune_k w.heap.size w.heap.size (Lib.byteCells acc) (c : Int) (by omega) (by omega) W h (by rw [Lib.byteCells_length]; have := hal.out; omega) h'
              have s1 := hbw1.size
              go_wp2_with fail
              refine hmk.mono ?_
              rintro e W2 ⟨rfl, b2⟩
              clear hmk
              have hI2 := isF_below hI1 b2
              have b3 := hbw1.trans (b2.mono hbw1.size)
              have s2 := b2.size
              have hw2 := hwr W2 hI2 (by omega)
              clear hwr b2 hI1 hbw1 hI2
              go_wp2_with fail
              refine (hpf _).mono ?_
              rintro e W3 ⟨rfl, rfl⟩
              clear hpf
              go_wp2_with fail
              refine hw2.mono ?_
              rintro e W4 ⟨rfl, h4, b4, _⟩
              clear hw2
              go_wp2_with fail
              go_roundg g'
              case measure => omega
              case rel =>
                refine ⟨t.extract k t.size, acc ++ Lib.encodeRune c, rfl, ?_, b3.trans b4, ⟨by rw [HU.out, Lib.ext_list]⟩, by rw [Lib.ext_size]; omega, ⟨?_⟩, by rw [Lib.ext_size]; omega⟩
                · rw [Lib.byteCells_append, Lib.byteCells_encodeRune]; exact Or.inr h4
                · have := hal.out
                  have h4r := (Lib.runeCells_le (c : Int)).2
                  rw [Lib.runeCells_length] at h4r
                  rw [Lib.ext_size, List.length_append]
                  omega
          · rw [if_pos n92] at hstep
            have e92 : ((x.toNat : Int) != 92) = true := by simp; omega
            have hdc := Tryz.utf8_DecodeRuneInString t wr hEr.tabs
            have hdl : Lib.decodeGo t = Lib.decodeL t.data.toList := by
              unfold Lib.decodeGo Lib.decodeL
              rw [if_neg (by omega)]
            rw [hdl] at hdc
            have hle1 := Lib.decodeL_rune t.data.toList
            have hle2 := Lib.decodeL_width t.data.toList
            have hle3 : (Lib.decodeL t.data.toList).2 ≤ t.size := by
              have := decode_end t 0 h0'
              unfold Lib.decodeL
              simpa using this
            obtain ⟨c, k, hck⟩ : ∃ c k, Lib.decodeL t.data.toList = (c, k) := ⟨_, _, rfl⟩
            rw [hck] at hdc hstep hle1 hle2 hle3
            simp only at hstep hle1 hle2 hle3 hdc
            clear hck n92 n34 hx0 hdl
            by_cases hbad : c = 65533 ∧ k < 2
            · obtain ⟨rfl, hk2⟩ := hbad
              have HU : Aside0 (T = none) := ⟨hstep.trans (by simp [hk2])⟩
              have hk1 : k = 1 := by omega
              subst hk1
              clear hstep hk2
              go_wp2_with fail
              refine hdc.mono ?_
              rintro e W1 ⟨rfl, b1⟩
              clear hdc
              go_wp2_with fail
              go_step3
              exact ⟨rfl, HA.out.trans (by rw [HU.out]), hbw.trans (b1.mono hbw.size), ⟨_, _, _, _, _, _, _, _, _, _, _, _, _, _, _, _, _, _, _, _, _, _, _, _, _, _, _, _, _, _, _, _, _, _, _, _, _, _, _, _, _, _, _, _, _, _, _, _, _, _, _, _, _, _, _, _, _, _, _, _, _, _, _, rfl⟩⟩
            rw [if_neg hbad] at hstep
            have hst : T = if Lib.hasPrefix t.data.toList (markL c) then unqL g' (t.data.toList.drop k) (acc ++ Lib.encodeRune c) else none := hstep
            clear hstep
            have hkt : k ≤ t.size := hle3
            have hc : c ≤ 1114111 := hle1
            have hk0 : 1 ≤ k := hle2
            clear hle1 hle2 hle3
            by_cases hcb : c = 65533
            · have hcb1 : ((c : Int) == 65533) = true := by simp; omega
              have hcb2 : decide ((k : Int) < 2) = false := decide_eq_false (by omega)
              clear hbad hcb
              go_wp2_with fail
              refine hdc.mono ?_
              rintro e W1 ⟨rfl, b1⟩
              clear hdc
              have hbw1 := hbw.trans (b1.mono hbw.size)
              have hE1 := hEr.below b1
              have hI1 := isF_below hI b1
              clear hI b1 hbw hEr
              have hmk := mark_calls (c : Int) (by omega) (by omega) W1 (hE1.tz)
              have hpf := fun (W : World) => Tryz.strings_HasPrefix t (markB (c : Int)) W
              obtain ⟨M, hM⟩ : ∃ M, M = markB (c : Int) := ⟨_, rfl⟩
              have hML : M.data.toList = markL c := by rw [hM]; rfl
              rw [← hM] at hmk hpf
              clear hM
              rw [hML] at hpf
              cases hpx : Lib.hasPrefix t.data.toList (markL c) with
              | false =>
                have HU : Aside0 (T = none) := ⟨hst.trans (by simp [hpx])⟩
                rw [hpx] at hpf
                clear hst hpx hML
                go_wp2_with fail
                refine hmk.mono ?_
                rintro e W2 ⟨rfl, b2⟩
                clear hmk
                have b3 := hbw1.trans (b2.mono hbw1.size)
                go_wp2_with fail
                refine (hpf _).mono ?_
                rintro e W3 ⟨rfl, rfl⟩
                clear hpf
                go_wp2_with fail
                go_step3
                exact ⟨rfl, HA.out.trans (by rw [HU.out]), b3, ⟨_, _, _, _, _, _, _, _, _, _, _, _, _, _, _, _, _, _, _, _, _, _, _, _, _, _, _, _, _, _, _, _, _, _, _, _, _, _, _, _, _, _, _, _, _, _, _, _, _, _, _, _, _, _, _, _, _, _, _, _, _, _, _, rfl⟩⟩
              | true =>
                have HU : Aside0 (T = unqL g' (t.data.toList.drop k) (acc ++ Lib.encodeRune c)) := ⟨hst.trans (by simp [hpx])⟩
                rw [hpx] at hpf
                clear hst hpx hML
                have hwr : ∀ W, Lib.IsBuilderF 62 5 w.heap.size w.heap.size (Lib.byteCells acc) W → w.heap.size ≤ W.heap.size → _ := fun W h h' => wrune_k w.heap.size w.heap.size (Lib.byteCells acc) (c : Int) (by omega) (by omega) W h (by rw [Lib.byteCells_length]; have := hal.out; omega) h'
                have s1 := hbw1.size
                go_wp2_with fail
                refine hmk.mono ?_
                rintro e W2 ⟨rfl, b2⟩
                clear hmk
                have hI2 := isF_below hI1 b2
                have b3 := hbw1.trans (b2.mono hbw1.size)
                have s2 := b2.size
                have hw2 := hwr W2 hI2 (by omega)
                clear hwr b2 hI1 hbw1 hI2
                go_wp2_with fail
                refine (hpf _).mono ?_
                rintro e W3 ⟨rfl, rfl⟩
                clear hpf
                go_wp2_with fail
                refine hw2.mono ?_
                rintro e W4 ⟨rfl, h4, b4, _⟩
                clear hw2
                go_wp2_with fail
                go_roundg g'
                case measure => omega
                case rel =>
                  refine ⟨t.extract k t.size, acc ++ Lib.encodeRune c, rfl, ?_, b3.trans b4, ⟨by rw [HU.out, Lib.ext_list]⟩, by rw [Lib.ext_size]; omega, ⟨?_⟩, by rw [Lib.ext_size]; omega⟩
                  · rw [Lib.byteCells_append, Lib.byteCells_encodeRune]; exact Or.inr h4
                  · have := hal.out
                    have h4r := (Lib.runeCells_le (c : Int)).2
                    rw [Lib.runeCells_length] at h4r
                    rw [Lib.ext_size, List.length_append]
                    omega
            · have hcb1 : ((c : Int) == 65533) = false := by simp; omega
              clear hbad hcb
              go_wp2_with fail
              refine hdc.mono ?_
              rintro e W1 ⟨rfl, b1⟩
              clear hdc
              have hbw1 := hbw.trans (b1.mono hbw.size)
              have hE1 := hEr.below b1
              have hI1 := isF_below hI b1
              clear hI b1 hbw hEr
              have hmk := mark_calls (c : Int) (by omega) (by omega) W1 (hE1.tz)
              have hpf := fun (W : World) => Tryz.strings_HasPrefix t (markB (c : Int)) W
              obtain ⟨M, hM⟩ : ∃ M, M = markB (c : Int) := ⟨_, rfl⟩
              have hML : M.data.toList = markL c := by rw [hM]; rfl
              rw [← hM] at hmk hpf
              clear hM
              rw [hML] at hpf
              cases hpx : Lib.hasPrefix t.data.toList (markL c) with
              | false =>
                have HU : Aside0 (T = none) := ⟨hst.trans (by simp [hpx])⟩
                rw [hpx] at hpf
                clear hst hpx hML
                go_wp2_with fail
                refine hmk.mono ?_
                rintro e W2 ⟨rfl, b2⟩
                clear hmk
                have b3 := hbw1.trans (b2.mono hbw1.size)
                go_wp2_with fail
                refine (hpf _).mono ?_
                rintro e W3 ⟨rfl, rfl⟩
                clear hpf
                go_wp2_with fail
                go_step3
                exact ⟨rfl, HA.out.trans (by rw [HU.out]), b3, ⟨_, _, _, _, _, _, _, _, _, _, _, _, _, _, _, _, _, _, _, _, _, _, _, _, _, _, _, _, _, _, _, _, _, _, _, _, _, _, _, _, _, _, _, _, _, _, _, _, _, _, _, _, _, _, _, _, _, _, _, _, _, _, _, rfl⟩⟩
              | true =>
                have HU : Aside0 (T = unqL g' (t.data.toList.drop k) (acc ++ Lib.encodeRune c)) := ⟨hst.trans (by simp [hpx])⟩
                rw [hpx] at hpf
                clear hst hpx hML
                have hwr : ∀ W, Lib.IsBuilderF 62 5 w.heap.size w.heap.size (Lib.byteCells acc) W → w.heap.size ≤ W.heap.size → _ := fun W h h' => wrune_k w.heap.size w.heap.size (Lib.byteCells acc) (c : Int) (by omega) (by omega) W h (by rw [Lib.byteCells_length]; have := hal.out; omega) h'
                have s1 := hbw1.size
                go_wp2_with fail
                refine hmk.mono ?_
                rintro e W2 ⟨rfl, b2⟩
                clear hmk
                have hI2 := isF_below hI1 b2
                have b3 := hbw1.trans (b2.mono hbw1.size)
                have s2 := b2.size
                have hw2 := hwr W2 hI2 (by omega)
                clear hwr b2 hI1 hbw1 hI2
                go_wp2_with fail
                refine (hpf _).mono ?_
                rintro e W3 ⟨rfl, rfl⟩
                clear hpf
                go_wp2_with fail
                refine hw2.mono ?_
                rintro e W4 ⟨rfl, h4, b4, _⟩
                clear hw2
                go_wp2_with fail
                go_roundg g'
                case measure => omega
                case rel =>
                  refine ⟨t.extract k t.size, acc ++ Lib.encodeRune c, rfl, ?_, b3.trans b4, ⟨by rw [HU.out, Lib.ext_list]⟩, by rw [Lib.ext_size]; omega, ⟨?_⟩, by rw [Lib.ext_size]; omega⟩
                  · rw [Lib.byteCells_append, Lib.byteCells_encodeRune]; exact Or.inr h4
                  · have := hal.out
                    have h4r := (Lib.runeCells_le (c : Int)).2
                    rw [Lib.runeCells_length] at h4r
                    rw [Lib.ext_size, List.length_append]
                    omega
      · have hA : ANS = noneV := by rw [← hANS]; unfold unquoteV; rw [hsd]; simp [hq]; rfl
        have hc := hcp (w.alloc (.cells #[.pointer none, .slice none 0 0] 62))
        rw [hsd] at hc
        have e1 : Lib.hasPrefix (q :: r) [34] = false := by
          have : (34 : UInt8) ≠ q := fun h => hq h.symm
          simp [Lib.hasPrefix, List.isPrefixOf, this]
        have e2 : Lib.trimPrefix (q :: r) [34] = q :: r := by simp [Lib.trimPrefix, e1]
        rw [e1, e2] at hc
        clear hcp e1 e2 hsd hANS hq
        go_wp2_with fail
        refine hc.mono ?_
        rintro e w1 ⟨rfl, rfl⟩
        clear hc
        go_wp2_with fail
        go_step3
        exact ⟨rfl, hA, (Below.refl _ w).alloc (Nat.le_refl _) _, ⟨_, _, _, _, _, _, _, _, _, _, _, _, _, _, _, _, _, _, _, _, _, _, _, _, _, _, _, _, _, _, _, _, _, _, _, _, _, _, _, _, _, _, _, _, _, _, _, _, _, _, _, _, _, _, _, _, _, _, _, _, _, _, _, rfl⟩⟩
  · rintro a' w' ⟨rfl, hb, u0, u1, u2, u3, u4, u5, u6, u7, u8, u9, u10, u11, u12, u13, u14, u15, u16, u17, u18, u19, u20, u21, u22, u23, u24, u25, u26, u27, u28, u29, u30, u31, u32, u33, u34, u35, u36, u37, u38, u39, u40, u41, u42, u43, u44, u45, u46, u47, u48, u49, u50, u51, u52, u53, u54, u55, u56, u57, u58, u59, u60, u61, u62, rfl⟩
    go_wp2
    simp only [Exit.jump]
    go_ret3
    exact ⟨rfl, hb⟩
end Go.Proofs.YtgafnjgiikdofaaGreatDoor.Sx
namespace Go.Proofs.YtgafnjgiikdofaaGreatDoor.So
set_option linter.unusedVariables false
set_option linter.unusedSimpArgs false
open Go.Shelf Go.RowKit Go.Proofs.YtgafnjgiikdofaaGreatDoor.Sx Go.Proofs.YtgafnjgiikdofaaGreatDoor.Sw Go.Proofs.YtgafnjgiikdofaaGreatDoor.Sn
open Go.Proofs.YtgafnjgiikdofaaGreatDoorW.PrintWords Go.Proofs.YtgafnjgiikdofaaGreatDoorW.PrintLast Go.Proofs.YtgafnjgiikdofaaGreatDoorW.PrintMore
/-- how far the name at the beginning goes, from a place on -/
def runK (s : ByteArray) : Nat → Nat → Nat → Nat
  | 0, _, k => k
  | fuel + 1, pos, k => if pos < s.size then (if letB (Utf8.decode s pos).1 || digB (Utf8.decode s pos).1 then runK s fuel (pos + (Utf8.decode s pos).2) (pos + 1) else k) else k
theorem runK_end (s : ByteArray) (fuel pos k : Nat) (h : ¬ pos < s.size) : runK s fuel pos k = k := by
  cases fuel with
  | zero => rfl
  | succ f => simp [runK, h]
theorem runK_le (s : ByteArray) : ∀ (fuel pos k : Nat), k ≤ s.size → runK s fuel pos k ≤ s.size
  | 0, _, k, h => h
  | f + 1, pos, k, h => by
    unfold runK
    split
    · split
      · exact runK_le s f _ _ (by omega)
      · exact h
    · exact h
theorem blanksB_le (s : ByteArray) : (blanksB s).size ≤ s.size := by
  unfold blanksB
  rw [Lib.size_eq, Lib.size_eq s]
  exact (List.dropWhile_sublist _).length_le
/-- Unquote, as three results -/
def unqT (l : List UInt8) : List UInt8 × Nat × Bool :=
  match l with
  | [] => ([], 0, false)
  | q :: r => if q = 34 then (match unqL (r.length + 1) r [] with
    | some (t, m) => (t, l.length - m.length + 1, true)
    | none => ([], 0, false)) else ([], 0, false)
theorem unqL_some : ∀ (f : Nat) (l acc : List UInt8) (t m : List UInt8), unqL f l acc = some (t, m) → 1 ≤ m.length ∧ m.length ≤ l.length
  | 0, l, acc, t, m, h => by simp [unqL] at h
  | f + 1, l, acc, t, m, h => by
    unfold unqL at h
    split at h
    · cases h
    · rename_i hne
      split at h
      · simp only [Option.some.injEq, Prod.mk.injEq] at h
        obtain ⟨_, rfl⟩ := h
        exact ⟨List.length_pos_iff.2 hne, Nat.le_refl _⟩
      · split at h
        · cases h
        · split at h
          · have := unqL_some f _ _ _ _ h
            simp only [List.length_drop] at this
            omega
          · cases h
theorem unqT_le (l : List UInt8) : (unqT l).2.1 ≤ l.length := by
  unfold unqT
  split
  · simp
  · rename_i q r
    split
    · split
      · rename_i t m h
        have := unqL_some _ _ _ _ _ h
        simp only [List.length_cons]
        omega
      · simp
    · simp
theorem unquoteV_eq (s : ByteArray) : unquoteV s = .tuple #[.string ⟨(unqT s.data.toList).1.toArray⟩, .int .i64 ((unqT s.data.toList).2.1 : Nat), .bool (unqT s.data.toList).2.2] := by
  unfold unquoteV unqT
  rw [Lib.size_eq s]
  cases hsd : s.data.toList with
  | nil => rfl
  | cons q r =>
    simp only
    by_cases hq : q = 34
    · simp only [hq, if_true]
      cases hu : unqL (r.length + 1) r [] with
      | none => rfl
      | some p =>
        obtain ⟨t, m⟩ := p
        have := unqL_some _ _ _ _ _ hu
        simp only [List.length_cons] at *
        congr 3
        simp only [Value.int.injEq, true_and, List.cons.injEq, and_true]
        omega
    · simp only [hq, if_false]; rfl
def nameLen (s : ByteArray) : Nat := runK s s.size 0 0
/-- a label at the beginning, and what stands behind it -/
def oneT (s : ByteArray) : ByteArray × ByteArray × ByteArray × Bool :=
  let r1 := blanksB (s.extract (nameLen s) s.size)
  if Lib.hasPrefix r1.data.toList [61] then
    let r3 := blanksB ⟨(Lib.trimPrefix r1.data.toList [61]).toArray⟩
    let T := unqT r3.data.toList
    (s.extract 0 (nameLen s), ⟨T.1.toArray⟩, blanksB (r3.extract T.2.1 r3.size), T.2.2)
  else (s.extract 0 (nameLen s), ⟨#[]⟩, ⟨#[]⟩, false)
def oneV (s : ByteArray) : Value := .tuple #[.agg #[.string (oneT s).1, .string (oneT s).2.1], .string (oneT s).2.2.1, .bool (oneT s).2.2.2]
set_option maxHeartbeats 8000000 in
set_option maxRecDepth 1000000 in
theorem one_calls (s : ByteArray) (w : World) (hs : s.size ≤ 17592186044416) (hE : Env w) :
    Calls Tryz.prog 55 #[.string s] w fun e w' => e = .returned (oneV s) ∧ Below w.heap.size w w' := by
  obtain ⟨N, hN⟩ : ∃ N, N = nameLen s := ⟨_, rfl⟩
  have hNl : N ≤ s.size := hN ▸ runK_le s _ _ _ (Nat.zero_le _)
  have hbo : (w.alloc (.cells #[.string ⟨#[]⟩, .string ⟨#[]⟩] 47)).heap[w.heap.size]? = some (.cells #[.string ⟨#[]⟩, .string ⟨#[]⟩] 47 (0, 0)) := heap_alloc_new w _
  have hb0 : Below w.heap.size w (w.alloc (.cells #[.string ⟨#[]⟩, .string ⟨#[]⟩] 47)) := (Below.refl _ w).alloc (Nat.le_refl _) _
  go_enter Tryz.func55, Tryz.ntmps55
  go_upto_block 0 with (fail)
  generalize hw1 : w.alloc (.cells #[.string ⟨#[]⟩, .string ⟨#[]⟩] 47) = w1 at hbo hb0 ⊢
  have hsz1 : w1.heap.size = w.heap.size + 1 := by rw [← hw1]; simp
  go_cut [5] (fun v5 wc => v5 = .int .i64 N ∧ Below (w.heap.size + 1) w1 wc)
  case first =>
    go_wp2_with fail
    go_loopw [5] (fun s5 wr => ∃ (pos fuel k : Nat), s5 = .int .i64 k ∧ wr.heap[w.heap.size + 1]? = some (.stringIter s pos) ∧ Below (w.heap.size + 1) w1 wr ∧ Aside0 (N = runK s fuel pos k) ∧ s.size ≤ pos + fuel) (fun s5 wr => s.size - wr.iterPos (w.heap.size + 1))
    case atStart =>
      refine ⟨0, s.size, 0, rfl, ?_, ?_, ⟨hN⟩, by omega⟩
      · have := World.iter_heap w1 s 0
        rw [hsz1] at this
        simpa using this
      · exact (Below.refl _ w1).alloc (by omega) _
    case round =>
      obtain ⟨pos, fuel, k, rfl, hit, hbw, hn, hfu⟩ := hrel
      clear hN hNl
      have hsz : w.heap.size + 1 < wr.heap.size := (Array.getElem?_eq_some_iff.1 hit).1
      by_cases hp : pos < s.size
      · have hnx : ∀ ty, (Instr.next (.pointer (some ⟨w.heap.size + 1, 0, none⟩)) true ty).run Tryz.prog wr = _ := fun ty => Lib.run_next_any_at wr (w.heap.size + 1) s pos ty hit hp
        have hwd := Lib.width_pos s pos
        have hwp : wrap64 ((pos : Int) + 1) = (pos : Int) + 1 := by unfold wrap64; omega
        have hit2 := Lib.iterAt_heap wr (w.heap.size + 1) s pos (pos + (Utf8.decode s pos).2) hit
        have hbw2 := Lib.below_iterAt hbw (k := w.heap.size + 1) (Nat.le_refl _) s (pos + (Utf8.decode s pos).2)
        have hsz2 : w.heap.size + 1 < (wr.iterAt (w.heap.size + 1) s (pos + (Utf8.decode s pos).2)).heap.size := by rw [Lib.iterAt_size]; omega
        obtain ⟨f, rfl⟩ : ∃ f, fuel = f + 1 := ⟨fuel - 1, by omega⟩
        have hip : s.size - wr.iterPos (w.heap.size + 1) = s.size - pos := by simp only [World.iterPos, hit]
        have hn' := hn.out
        simp only [runK, hp, if_true] at hn'
        have hl := fun W => let_calls ((Utf8.decode s pos).1 : Int) W
        have hd := fun W => dig_calls ((Utf8.decode s pos).1 : Int) W
        obtain ⟨lb, hlb⟩ : ∃ lb, lb = letB ((Utf8.decode s pos).1 : Int) := ⟨_, rfl⟩
        obtain ⟨db, hdb⟩ : ∃ db, db = digB ((Utf8.decode s pos).1 : Int) := ⟨_, rfl⟩
        simp only [← hlb, ← hdb] at hl hd hn'
        clear hlb hdb hn
        have fin : ∀ W1 : World, Below (wr.iterAt (w.heap.size + 1) s (pos + (Utf8.decode s pos).2)).heap.size (wr.iterAt (w.heap.size + 1) s (pos + (Utf8.decode s pos).2)) W1 →
            W1.heap[w.heap.size + 1]? = some (.stringIter s (pos + (Utf8.decode s pos).2)) ∧ Below (w.heap.size + 1) w1 W1 := fun W1 hb =>
          ⟨by rw [hb.block _ (by rw [Lib.iterAt_size]; exact hsz)]; exact hit2, hbw2.trans (hb.mono (by rw [Lib.iterAt_size]; omega))⟩
        cases lb with
        | true =>
          have HN : Aside0 (N = runK s f (pos + (Utf8.decode s pos).2) (pos + 1)) := ⟨by simpa using hn'⟩
          clear hn' hd
          go_wp2_with fail
          refine (hl _).mono ?_
          rintro e W1 ⟨rfl, b1⟩
          obtain ⟨i1, b2⟩ := fin W1 b1
          clear fin hl
          go_wp2_with fail
          go_roundw
          case rel => exact ⟨pos + (Utf8.decode s pos).2, f, pos + 1, by simp [hwp], i1, b2, HN, by omega⟩
          case measure =>
            rw [hip]
            simp only [World.iterPos, i1]
            omega
        | false =>
          cases db with
          | true =>
            have HN : Aside0 (N = runK s f (pos + (Utf8.decode s pos).2) (pos + 1)) := ⟨by simpa using hn'⟩
            clear hn'
            go_wp2_with fail
            refine (hl _).mono ?_
            rintro e W1 ⟨rfl, b1⟩
            clear hl
            go_wp2_with fail
            refine (hd _).mono ?_
            rintro e W2 ⟨rfl, b2⟩
            obtain ⟨i1, b3⟩ := fin W2 (b1.trans (b2.mono b1.size))
            clear fin hd
            go_wp2_with fail
            go_roundw
            case rel => exact ⟨pos + (Utf8.decode s pos).2, f, pos + 1, by simp [hwp], i1, b3, HN, by omega⟩
            case measure =>
              rw [hip]
              simp only [World.iterPos, i1]
              omega
          | false =>
            have hNk : N = k := by simpa using hn'
            subst hNk
            clear hn'
            go_wp2_with fail
            refine (hl _).mono ?_
            rintro e W1 ⟨rfl, b1⟩
            clear hl
            go_wp2_with fail
            refine (hd _).mono ?_
            rintro e W2 ⟨rfl, b2⟩
            obtain ⟨i1, b3⟩ := fin W2 (b1.trans (b2.mono b1.size))
            clear fin hd
            go_wp2_with fail
            go_meet
            exact ⟨rfl, b3⟩
      · have hnx : ∀ ty, (Instr.next (.pointer (some ⟨w.heap.size + 1, 0, none⟩)) true ty).run Tryz.prog wr = _ := fun ty => Lib.run_next_end_at wr (w.heap.size + 1) s pos ty hit hp
        have hNk : N = k := hn.out.trans (runK_end s fuel pos k hp)
        subst hNk
        go_wp2_with fail
        go_meet
        exact ⟨rfl, hbw⟩
  case rest =>
    obtain ⟨rfl, hbc⟩ := hcut
    have HB1 : Aside0 (wc.drew.heap[w.heap.size]? = some (.cells #[.string ⟨#[]⟩, .string ⟨#[]⟩] 47 (0, 0))) := ⟨by
      show wc.heap[w.heap.size]? = _
      rw [hbc.block _ (by omega)]; exact hbo⟩
    have hb2 : Below w.heap.size w wc := hb0.trans (hbc.mono (by omega))
    have HN := Aside0.mk hN
    clear hbc hbo hw1 hb0 hsz1 hN
    have qN := eq_true hNl
    have HNL := Aside0.mk hNl
    clear hNl
    go_wp2_with fail
    refine start_ (S := fun _ => True) (ds := [8]) #[false, false, false, false, false, false, false, false, false, false] (by kernel_rfl) rfl rfl trivial (fun hHeld => ?_)
    refine pure_ (i := 0) (N := some 25) #[true, false, false, false, false, false, false, false, false, false] rfl rfl (by kernel_rfl) (fun _ _ _ h => h) (.inl ⟨by rfl, by (intro w; go_simp <;> with_reducible rfl)⟩) rfl ?_
    (try simp only [Act.put, List.setIfInBounds_toArray, List.set_cons_zero, List.set_cons_succ])
    refine pure_ (i := 1) (N := some 26) #[true, true, false, false, false, false, false, false, false, false] rfl rfl (by kernel_rfl) (fun _ _ _ h => h) (.inl ⟨by rfl, by (intro w; go_simp <;> with_reducible rfl)⟩) rfl ?_
    (try simp only [Act.put, List.setIfInBounds_toArray, List.set_cons_zero, List.set_cons_succ])
    refine pure_ (i := 2) (N := some 27) #[true, true, true, false, false, false, false, false, false, false] rfl rfl (by kernel_rfl) (fun _ _ _ h => h) (.inl ⟨by rfl, by (intro w; go_simp <;> with_reducible rfl)⟩) rfl ?_
    (try simp only [Act.put, List.setIfInBounds_toArray, List.set_cons_zero, List.set_cons_succ])
    refine pure_ (i := 3) (N := some 28) #[true, true, true, true, false, false, false, false, false, false] rfl rfl (by kernel_rfl) (fun _ _ _ h => h) (.inl ⟨by rfl, by (intro w; go_simp <;> with_reducible rfl)⟩) rfl ?_
    (try simp only [Act.put, List.setIfInBounds_toArray, List.set_cons_zero, List.set_cons_succ])
    refine pure_ (i := 4) (N := some 29) #[true, true, true, true, true, false, false, false, false, false] rfl rfl (by kernel_rfl) (fun _ _ _ h => h) (.inl ⟨by rfl, by (intro w; go_simp <;> with_reducible rfl)⟩) rfl ?_
    (try simp only [Act.put, List.setIfInBounds_toArray, List.set_cons_zero, List.set_cons_succ])
    refine pure_ (i := 5) (N := some 30) #[true, true, true, true, true, true, false, false, false, false] rfl rfl (by kernel_rfl) (fun _ _ _ h => h) (.inl ⟨by rfl, by (intro w; go_simp <;> with_reducible rfl)⟩) rfl ?_
    (try simp only [Act.put, List.setIfInBounds_toArray, List.set_cons_zero, List.set_cons_succ])
    refine pure_ (i := 7) (N := some 32) #[true, true, true, true, true, true, false, true, false, false] rfl rfl (by kernel_rfl) (fun _ _ _ h => h) (.inl ⟨by rfl, by (intro w; go_simp <;> with_reducible rfl)⟩) rfl ?_
    (try simp only [Act.put, List.setIfInBounds_toArray, List.set_cons_zero, List.set_cons_succ])
    refine one_ (i := 6) (N := some 31) #[true, true, true, true, true, true, true, true, false, false] rfl rfl (by kernel_rfl) (by simp) (fun K hK => ?_)
    refine goes_ Tryz.func54 (by kernel_rfl) rfl #[.string (s.extract N s.size)] (by rfl) rfl rfl (by simp only [List.map_toArray, List.map_cons, List.map_nil]; rfl) ?_
    with_reducible refine (blanks_calls _ _).mono ?_
    rintro e V ⟨rfl, rfl⟩
    refine ⟨_, rfl, ?_⟩
    refine hK.out _ _ trivial (fun hHeld => ?_)
    clear hK K
    refine norm_ (a' := ?_) ?_ ?_
    rotate_left
    · show Act.put _ (some 31) _ = _
      simp only [Act.put, List.setIfInBounds_toArray, List.set_cons_zero, List.set_cons_succ]
      rfl
    refine last_ (i := 8) (N := none) #[true, true, true, true, true, true, true, true, true, false] rfl rfl (by kernel_rfl) (by simp) (fun K hK => ?_)
    have cc := blk_cell HB1.out 0
    have cf := blk_frozen HB1.out 0
    simp at cc
    refine skip_ (w1 := ?_) (by rfl) rfl ?_ ?_
    rotate_left
    · go_simp
      rfl
    clear cc cf
    refine hK.out _ _ ?_
    clear hK K
    (try simp only [Act.put, List.setIfInBounds_toArray, List.set_cons_zero, List.set_cons_succ])
    refine pure_ (i := 9) (N := some 3) #[true, true, true, true, true, true, true, true, true, true] rfl rfl (by kernel_rfl) (fun _ _ _ h => h) (.inl ⟨by rfl, by (intro w; go_simp <;> with_reducible rfl)⟩) rfl ?_
    (try simp only [Act.put, List.setIfInBounds_toArray, List.set_cons_zero, List.set_cons_succ])
    refine done_ (by kernel_rfl) ?_
    obtain ⟨W1, hW1⟩ : ∃ W1, W1 = (wc.setCell ⟨w.heap.size, 0, none⟩ (.string (s.extract 0 N))).drew := ⟨_, rfl⟩
    rw [← hW1]
    have HK1 : Aside0 (W1.heap[w.heap.size]? = some (.cells #[.string (s.extract 0 N), .string ⟨#[]⟩] 47 (0, 0))) := ⟨by rw [hW1]; exact blk_drew (blk_put (w := wc) HB1.out 0 _ rfl)⟩
    have hbw : Below w.heap.size w W1 := by rw [hW1]; exact (hb2.setCell (p := ⟨w.heap.size, 0, none⟩) (Nat.le_refl _) _).drew
    clear hW1 hb2 HB1
    obtain ⟨r1, hr1⟩ : ∃ r1, r1 = blanksB (s.extract N s.size) := ⟨_, rfl⟩
    have HR1 := Aside0.mk hr1
    have hr1s : r1.size ≤ s.size := by
      rw [hr1]; exact Nat.le_trans (blanksB_le _) (by rw [ByteArray.size_extract]; omega)
    rw [← hr1]
    clear hr1
    have hcp := Tryz.strings_CutPrefix r1 ⟨#[61]⟩ W1
    have hp61 : (⟨#[61]⟩ : ByteArray).data.toList = [61] := rfl
    rw [hp61] at hcp
    clear hp61
    obtain ⟨r2, hr2⟩ : ∃ r2 : ByteArray, r2 = ⟨(Lib.trimPrefix r1.data.toList [61]).toArray⟩ := ⟨_, rfl⟩
    have HR2 := Aside0.mk hr2
    obtain ⟨b, hb⟩ : ∃ b, b = Lib.hasPrefix r1.data.toList [61] := ⟨_, rfl⟩
    rw [← hr2, ← hb] at hcp
    have HBB := Aside0.mk hb
    clear hr2 hb
    cases b with
    | false =>
      go_wp2_with fail
      refine hcp.mono ?_
      rintro e V ⟨rfl, rfl⟩
      clear hcp
      have cc0 := blk_cell HK1.out 0
      have cc1 := blk_cell HK1.out 1
      have cf0 := blk_frozen HK1.out 0
      have HK2 := Aside0.mk (blk_put HK1.out 0 (.string (s.extract 0 N)) rfl)
      have cf1 := blk_frozen HK2.out 1
      simp at cc0 cc1
      go_wp2_with fail
      have HK3 := Aside0.mk (blk_put HK2.out 1 (.string ⟨#[]⟩) rfl)
      refine bodyPost_ret (results_ctt rfl _ _ w.heap.size 47 #[.string (s.extract 0 N), .string ⟨#[]⟩] (0, 0) _ rfl HK3.out Tryz.underlying47 rfl (by kernel_rfl)) rfl ?_
      have hans : oneT s = (s.extract 0 N, ⟨#[]⟩, ⟨#[]⟩, false) := by
        unfold oneT
        rw [← HN.out, ← HR1.out]
        dsimp only
        rw [← HBB.out]
        rfl
      refine ⟨by
        unfold oneV
        rw [hans]
        rfl, (hbw.setCell (p := ⟨w.heap.size, 0, none⟩) (Nat.le_refl _) _).setCell (p := ⟨w.heap.size, 1, none⟩) (Nat.le_refl _) _⟩
    | true =>
      go_wp2_with fail
      refine hcp.mono ?_
      rintro e V ⟨rfl, rfl⟩
      clear hcp
      go_wp2_with fail
      refine (blanks_calls _ _).mono ?_
      rintro e V2 ⟨rfl, rfl⟩
      obtain ⟨r3, hr3⟩ : ∃ r3, r3 = blanksB r2 := ⟨_, rfl⟩
      have HR3 := Aside0.mk hr3
      have hr3s : r3.size ≤ s.size := by
        rw [hr3]
        refine Nat.le_trans (blanksB_le _) (Nat.le_trans ?_ hr1s)
        rw [HR2.out, Lib.size_eq, Lib.size_eq r1]
        unfold Lib.trimPrefix
        split
        · simp
        · simp
      rw [← hr3]
      clear hr3
      have hun := unquote_calls r3 V2 (by omega) (hE.below hbw)
      rw [unquoteV_eq] at hun
      have hnl := unqT_le r3.data.toList
      rw [← Lib.size_eq] at hnl
      obtain ⟨T, hT⟩ : ∃ T, T = unqT r3.data.toList := ⟨_, rfl⟩
      rw [← hT] at hun hnl
      have HT := Aside0.mk hT
      clear hT
      obtain ⟨v0, n, b⟩ := T
      simp only at hun hnl
      obtain ⟨v, hv⟩ : ∃ v : ByteArray, v = ⟨v0.toArray⟩ := ⟨_, rfl⟩
      rw [← hv] at hun
      have HV := Aside0.mk hv
      clear hv
      go_wp2_with fail
      refine hun.mono ?_
      rintro e V3 ⟨rfl, hb3⟩
      clear hun
      have HK3 := Aside0.mk (blk_below HK1.out hb3)
      have hbw3 := hbw.trans (hb3.mono hbw.size)
      have qn := eq_true hnl
      clear hb3 hbw hnl hs hr1s hr3s
      have cc1 := blk_cell HK3.out 1
      have cf1 := blk_frozen HK3.out 1
      simp at cc1
      go_wp2_with fail
      obtain ⟨V4, hV4⟩ : ∃ V4, V4 = V3.setCell ⟨w.heap.size, 1, none⟩ (.string v) := ⟨_, rfl⟩
      rw [← hV4]
      have HK4 : Aside0 (V4.heap[w.heap.size]? = some (.cells #[.string (s.extract 0 N), .string v] 47 (0, 0))) := ⟨by rw [hV4]; exact blk_put HK3.out 1 _ rfl⟩
      have hbw4 : Below w.heap.size w V4 := by rw [hV4]; exact hbw3.setCell (p := ⟨w.heap.size, 1, none⟩) (Nat.le_refl _) _
      clear hV4 hbw3 cc1 cf1
      have HSS : Aside0 (V4.cell? ⟨w.heap.size, 0, none⟩ = some (.string (s.extract 0 N)) ∧ V4.cell? ⟨w.heap.size, 1, none⟩ = some (.string v)) := ⟨by
        have cc0 := blk_cell HK4.out 0
        have cc1 := blk_cell HK4.out 1
        simp at cc0 cc1
        exact ⟨cc0, cc1⟩⟩
      go_wp2_with fail
      refine start_ (S := fun W => W.cell? ⟨w.heap.size, 0, none⟩ = some (.string (s.extract 0 N)) ∧ W.cell? ⟨w.heap.size, 1, none⟩ = some (.string v)) (ds := [6]) #[false, false, false, false, false, false, false, false, false] (by kernel_rfl) rfl rfl HSS.out (fun hHeld => ?_)
      refine pure_ (i := 1) (N := some 51) #[false, true, false, false, false, false, false, false, false] rfl rfl (by kernel_rfl) (fun _ _ _ h => h) (.inl ⟨by rfl, by (intro w; go_simp <;> with_reducible rfl)⟩) rfl ?_
      (try simp only [Act.put, List.setIfInBounds_toArray, List.set_cons_zero, List.set_cons_succ])
      refine pure_ (i := 2) (N := some 52) #[false, true, true, false, false, false, false, false, false] rfl rfl (by kernel_rfl) (fun _ _ _ h => h) (.inl ⟨by rfl, by (intro w; go_simp <;> with_reducible rfl)⟩) rfl ?_
      (try simp only [Act.put, List.setIfInBounds_toArray, List.set_cons_zero, List.set_cons_succ])
      refine pure_ (i := 3) (N := some 53) #[false, true, true, true, false, false, false, false, false] rfl rfl (by kernel_rfl) (fun _ _ _ h => h) (.inl ⟨by rfl, by (intro w; go_simp <;> with_reducible rfl)⟩) rfl ?_
      (try simp only [Act.put, List.setIfInBounds_toArray, List.set_cons_zero, List.set_cons_succ])
      refine pure_ (i := 5) (N := some 55) #[false, true, true, true, false, true, false, false, false] rfl rfl (by kernel_rfl) (fun _ _ _ h => h) (.inl ⟨by rfl, by (intro w; go_simp <;> with_reducible rfl)⟩) rfl ?_
      (try simp only [Act.put, List.setIfInBounds_toArray, List.set_cons_zero, List.set_cons_succ])
      refine take_ (i := 0) (N := some 50) #[true, true, true, true, false, true, false, false, false] rfl rfl (by kernel_rfl) (fun _ _ _ h => h) (.inl ⟨by rfl, by (intro w hSw; (try dsimp only at hSw); go_simp <;> with_reducible rfl)⟩) hHeld rfl ?_
      (try simp only [Act.put, List.setIfInBounds_toArray, List.set_cons_zero, List.set_cons_succ])
      refine one_ (i := 4) (N := some 54) #[true, true, true, true, true, true, false, false, false] rfl rfl (by kernel_rfl) (by simp) (fun K hK => ?_)
      refine goes_ Tryz.func54 (by kernel_rfl) rfl #[.string (r3.extract n r3.size)] (by rfl) rfl rfl (by simp only [List.map_toArray, List.map_cons, List.map_nil]; rfl) ?_
      with_reducible refine (blanks_calls _ _).mono ?_
      rintro e V9 ⟨rfl, rfl⟩
      refine ⟨_, rfl, ?_⟩
      refine hK.out _ _ HSS.out (fun hHeld => ?_)
      clear hK K
      refine norm_ (a' := ?_) ?_ ?_
      rotate_left
      · show Act.put _ (some 54) _ = _
        simp only [Act.put, List.setIfInBounds_toArray, List.set_cons_zero, List.set_cons_succ]
        rfl
      refine last_ (i := 6) (N := none) #[true, true, true, true, true, true, true, false, false] rfl rfl (by kernel_rfl) (by simp) (fun K hK => ?_)
      have cf0 := blk_frozen HK4.out 0
      have HK5 := Aside0.mk (blk_put HK4.out 0 (.string (s.extract 0 N)) rfl)
      have cf1 := blk_frozen HK5.out 1
      have cc0 := HSS.out.1
      have cc1 := HSS.out.2
      refine skip_ (w1 := ?_) (by rfl) rfl ?_ ?_
      rotate_left
      · go_simp
        rfl
      clear cf0 cf1 cc0 cc1
      refine hK.out _ _ ?_
      clear hK K
      (try simp only [Act.put, List.setIfInBounds_toArray, List.set_cons_zero, List.set_cons_succ])
      refine pure_ (i := 7) (N := some 3) #[true, true, true, true, true, true, true, true, false] rfl rfl (by kernel_rfl) (fun _ _ _ h => h) (.inl ⟨by rfl, by (intro w; go_simp <;> with_reducible rfl)⟩) rfl ?_
      (try simp only [Act.put, List.setIfInBounds_toArray, List.set_cons_zero, List.set_cons_succ])
      refine pure_ (i := 8) (N := some 4) #[true, true, true, true, true, true, true, true, true] rfl rfl (by kernel_rfl) (fun _ _ _ h => h) (.inl ⟨by rfl, by (intro w; go_simp <;> with_reducible rfl)⟩) rfl ?_
      (try simp only [Act.put, List.setIfInBounds_toArray, List.set_cons_zero, List.set_cons_succ])
      refine done_ (by kernel_rfl) ?_
      have HK5 := Aside0.mk (blk_put HK4.out 0 (.string (s.extract 0 N)) rfl)
      have HK6 := Aside0.mk (blk_drew (blk_put HK5.out 1 (.string v) rfl))
      have hans : oneT s = (s.extract 0 N, v, blanksB (r3.extract n r3.size), b) := by
        unfold oneT
        rw [← HN.out, ← HR1.out]
        dsimp only
        rw [← HBB.out, ← HR2.out, ← HR3.out, ← HT.out, HV.out]
        rfl
      go_wp2_with fail
      refine bodyPost_ret (results_ctt rfl _ _ w.heap.size 47 #[.string (s.extract 0 N), .string v] (0, 0) _ rfl HK6.out Tryz.underlying47 rfl (by kernel_rfl)) rfl ?_
      refine ⟨by
        unfold oneV
        rw [hans]
        rfl, ((hbw4.setCell (p := ⟨w.heap.size, 0, none⟩) (Nat.le_refl _) _).setCell (p := ⟨w.heap.size, 1, none⟩) (Nat.le_refl _) _).drew⟩
end Go.Proofs.YtgafnjgiikdofaaGreatDoor.So
namespace Go.Proofs.YtgafnjgiikdofaaGreatDoor.R
set_option linter.unusedVariables false
set_option linter.unusedSimpArgs false
open Go.Proofs.YtgafnjgiikdofaaGreatDoorW.PrintWords Go.Proofs.YtgafnjgiikdofaaGreatDoorW.PrintLast Go.Proofs.YtgafnjgiikdofaaGreatDoorW.PrintMore
open Go.Shelf Go.RowKit Go.Proofs.YtgafnjgiikdofaaGreatDoor.A Go.Proofs.YtgafnjgiikdofaaGreatDoor.Sn Go.Proofs.YtgafnjgiikdofaaGreatDoor.Sv Go.Proofs.YtgafnjgiikdofaaGreatDoor.Sw Go.Proofs.YtgafnjgiikdofaaGreatDoor.Sq Go.Proofs.YtgafnjgiikdofaaGreatDoor.Sx Go.Proofs.YtgafnjgiikdofaaGreatDoor.So
/-- texts of whose length the layer's functions speak -/
def Fit (s : ByteArray) : Prop := s.size ≤ 17592186044416
instance (s : ByteArray) : Decidable (Fit s) := by unfold Fit; infer_instance
def label_Name.f (s : ByteArray) : Option Bool := if Fit s then some (nameB s) else none
theorem label_Name.calls (s : ByteArray) (r : Bool) (w : World) (h : label_Name.f s = some r) :
    Calls Tryz.prog 27 #[.string s] w fun e w' => e = .returned (.bool r) ∧ Below w.heap.size w w' := by
  unfold label_Name.f at h
  split at h
  · rename_i hs
    obtain rfl := Option.some.inj h
    exact name_calls s w (by unfold Fit at hs; omega)
  · cases h
def label_Value.f (s : ByteArray) : Option Bool := some (valB s)
theorem label_Value.calls (s : ByteArray) (r : Bool) (w : World) (h : label_Value.f s = some r) (hE : Env w) :
    Calls Tryz.prog 29 #[.string s] w fun e w' => e = .returned (.bool r) ∧ Below w.heap.size w w' := by
  obtain rfl := Option.some.inj h
  exact value_calls s w hE.tabs
def label_Quote.f (s : ByteArray) : Option ByteArray := if Fit s then some ⟨(quoteL s).toArray⟩ else none
theorem label_Quote.calls (s : ByteArray) (r : ByteArray) (w : World) (h : label_Quote.f s = some r) (hE : Env w) :
    Calls Tryz.prog 13 #[.string s] w fun e w' => e = .returned (.string r) ∧ Below w.heap.size w w' := by
  unfold label_Quote.f at h
  split at h
  · rename_i hs
    obtain rfl := Option.some.inj h
    exact quote_calls s w hs hE.tabs hE.tz
  · cases h
def label_Unquote.f (s : ByteArray) : Option (ByteArray × Int × Bool) := if Fit s then some (⟨(unqT s.data.toList).1.toArray⟩, ((unqT s.data.toList).2.1 : Nat), (unqT s.data.toList).2.2) else none
theorem label_Unquote.calls (s : ByteArray) (r1 : ByteArray) (r2 : Int) (r3 : Bool) (w : World) (h : label_Unquote.f s = some (r1, r2, r3)) (hE : Env w) :
    Calls Tryz.prog 11 #[.string s] w fun e w' => e = .returned (.tuple #[.string r1, .int .i64 r2, .bool r3]) ∧ Below w.heap.size w w' := by
  unfold label_Unquote.f at h
  split at h
  · rename_i hs
    have h := Option.some.inj h
    simp only [Prod.mk.injEq] at h
    obtain ⟨rfl, rfl, rfl⟩ := h
    have := unquote_calls s w hs hE
    rw [unquoteV_eq] at this
    exact this
  · cases h
def label_blanks.f (s : ByteArray) : Option ByteArray := some (blanksB s)
theorem label_blanks.calls (s : ByteArray) (r : ByteArray) (w : World) (h : label_blanks.f s = some r) :
    Calls Tryz.prog 54 #[.string s] w fun e w' => e = .returned (.string r) ∧ Below w.heap.size w w' := by
  obtain rfl := Option.some.inj h
  exact (blanks_calls s w).mono (by rintro e w' ⟨rfl, rfl⟩; exact ⟨rfl, Below.refl _ _⟩)
def strings_CutPrefix.f (s p : ByteArray) : Option (ByteArray × Bool) := some (⟨(Lib.trimPrefix s.data.toList p.data.toList).toArray⟩, Lib.hasPrefix s.data.toList p.data.toList)
theorem strings_CutPrefix.calls (s p : ByteArray) (r1 : ByteArray) (r2 : Bool) (w : World) (h : strings_CutPrefix.f s p = some (r1, r2)) :
    Calls Tryz.prog 41 #[.string s, .string p] w fun e w' => e = .returned (.tuple #[.string r1, .bool r2]) ∧ Below w.heap.size w w' := by
  have h := Option.some.inj h
  simp only [Prod.mk.injEq] at h
  obtain ⟨rfl, rfl⟩ := h
  exact (Tryz.strings_CutPrefix s p w).mono (by rintro e w' ⟨rfl, rfl⟩; exact ⟨rfl, Below.refl _ _⟩)
def strings_TrimRight.f (s p : ByteArray) : Option ByteArray := if p = (⟨#[32]⟩ : ByteArray) ∧ Fit s then some ⟨(Lib.trimRightB s.data.toList 32).toArray⟩ else none
theorem strings_TrimRight.calls (s p : ByteArray) (r : ByteArray) (w : World) (h : strings_TrimRight.f s p = some r) :
    Calls Tryz.prog 56 #[.string s, .string p] w fun e w' => e = .returned (.string r) ∧ Below w.heap.size w w' := by
  unfold strings_TrimRight.f at h
  split at h
  · rename_i hs
    obtain ⟨rfl, hs⟩ := hs
    obtain rfl := Option.some.inj h
    exact (Tryz.strings_TrimRight_one s 32 (by decide) w (by unfold Fit at hs; omega)).mono (by rintro e w' ⟨rfl, rfl⟩; exact ⟨rfl, Below.refl _ _⟩)
  · cases h
def label_one.f (s : ByteArray) : Option (ByteArray × ByteArray × ByteArray × Bool) := if Fit s then some (oneT s) else none
theorem label_one.calls (s : ByteArray) (r1 r2 r3 : ByteArray) (r4 : Bool) (w : World) (h : label_one.f s = some (r1, r2, r3, r4)) (hE : Env w) :
    Calls Tryz.prog 55 #[.string s] w fun e w' => e = .returned (.tuple #[.agg #[.string r1, .string r2], .string r3, .bool r4]) ∧ Below w.heap.size w w' := by
  unfold label_one.f at h
  split at h
  · rename_i hs
    have h := Option.some.inj h
    have := one_calls s w hs hE
    unfold oneV at this
    rw [h] at this
    exact this
  · cases h
def totLen (l : List ByteArray) (sep : ByteArray) : Nat := (Lib.join (l.map (·.data.toList)) sep.data.toList).length
def strings_Join.f (l : List ByteArray) (sep : ByteArray) : Option ByteArray := if l.length ≤ 140737488355328 ∧ totLen l sep ≤ 140737488355328 then some ⟨(Lib.join (l.map (·.data.toList)) sep.data.toList).toArray⟩ else none
theorem strings_Join.calls (A0 : Option Addr) (c0 : Nat) (l0 : List ByteArray) (sep : ByteArray) (r : ByteArray) (w : World) (hr0 : Kd.C Kd.string w A0 l0.length l0) (hc0 : l0.length ≤ c0) (h : strings_Join.f l0 sep = some r) :
    Calls Tryz.prog 61 #[.slice A0 l0.length c0, .string sep] w fun e w' => e = .returned (.string r) ∧ Below w.heap.size w w' := by
  unfold strings_Join.f at h
  split at h
  · rename_i hs
    obtain rfl := Option.some.inj h
    cases l0 with
    | nil =>
      refine (Tryz.strings_Join_none A0 c0 sep w).mono ?_
      rintro e w' ⟨rfl, rfl⟩
      exact ⟨rfl, Below.refl _ _⟩
    | cons a l =>
      obtain ⟨ad, rfl, hel⟩ := hr0.2.2 (by simp)
      have hcell : ∀ (j : Nat) x, (a :: l)[j]? = some x → w.cell? (ad.add j) = some (.string x) := by
        intro j x hx
        obtain ⟨c, hc1, hc2, hc3⟩ := hel j x hx
        have hc2' : c = [Value.string x] := hc2
        subst hc2'
        have := hc3 0 _ rfl
        simpa [Kd.string, Kd.scalar] using this
      have hsp : ad.spot = none := by
        have h0 := hcell 0 a rfl
        unfold World.cell? at h0
        split at h0
        · split at h0
          · cases h0
          · rename_i hs0
            simpa [Addr.add] using hs0
        · cases h0
      obtain ⟨bk, o, sp⟩ := ad
      simp only at hsp
      subst hsp
      have hcell' : ∀ (j : Nat) x, (a :: l)[j]? = some x → w.cell? ⟨bk, o + j, none⟩ = some (.string x) := fun j x h => by
        have h1 := hcell j x h
        by_cases hj : j = 0
        · subst hj; exact h1
        · unfold Addr.add at h1
          simpa [hj] using h1
      exact Tryz.strings_Join bk o c0 (a :: l) sep w hcell' (World.block_lt_of_cell? w ⟨bk, o + 0, none⟩ (hcell' 0 a rfl)) hs.1 hc0 hs.2
  · cases h
end Go.Proofs.YtgafnjgiikdofaaGreatDoor.R
