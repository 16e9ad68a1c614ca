/- The document's Parse, walked. -/
import Derived.Test.YtgafnjgiikdofaaGreatDoorWo
import Derived.Test.YtgafnjgiikdofaaGreatDoorRz
namespace Go.Proofs.YtgafnjgiikdofaaGreatDoor.R
set_option linter.unusedVariables false
set_option linter.unusedSimpArgs false
open Go.Shelf Go.RowKit Go.Proofs.YtgafnjgiikdofaaGreatDoorW.PrintWords Go.Proofs.YtgafnjgiikdofaaGreatDoorW.PrintLast Go.Proofs.YtgafnjgiikdofaaGreatDoorW.PrintMore
open Go.Proofs.YtgafnjgiikdofaaGreatDoor.A Go.Proofs.YtgafnjgiikdofaaGreatDoor.Sn
/-- one label read: is all well, is there more, the place, the labels -/
def pRound (k : Nat) (s : ByteArray) (a : Int) (l : List S47) : Option (Bool × Bool × ByteArray × Int × List S47) :=
  (icehouseref02_Scan_Blanks.f k s a).bind fun z1 => (icehouseref02_Scan_Word.f z1.1 z1.2).bind fun z2 => (icehouseref02_Scan_Blanks.f k z2.2.1 z2.2.2).bind fun z3 => (icehouseref02_Scan_Is.f z3.1 z3.2 61).bind fun z4 =>
  (icehouseref02_Scan_Blanks.f k z4.2.1 z4.2.2).bind fun z5 => (icehouseref02_Scan_Quoted.f k z5.1 z5.2).bind fun z6 => (icehouseref02_Scan_Blanks.f k z6.2.2.1 z6.2.2.2).bind fun z7 => (icehouseref02_Scan_Is.f z7.1 z7.2 44).bind fun z8 =>
  some (z4.1 && (z6.2.1 && decide (l.length < 16)), z8.1, z8.2.1, z8.2.2, l ++ [⟨z2.1, z6.1⟩])
def pLoop (k : Nat) : Nat → Bool → Bool → ByteArray → Int → List S47 → Option (Bool × ByteArray × Int × List S47)
  | 0, _, _, _, _, _ => none
  | n + 1, ok, more, s, a, l => if (more && ok) = true then (pRound k s a l).bind fun z => pLoop k n z.1 z.2.1 z.2.2.1 z.2.2.2.1 z.2.2.2.2 else some (ok, s, a, l)
def pF (k : Nat) (s : ByteArray) : Option (List S47 × Int) :=
  (icehouseref02_Scan_Blanks.f k s 0).bind fun z1 => (icehouseref02_Scan_Is.f z1.1 z1.2 123).bind fun z2 => (pLoop k k z2.1 true z2.2.1 z2.2.2 []).bind fun z3 =>
  (if z3.1 = true then icehouseref02_Scan_Is.f z3.2.1 z3.2.2.1 125 else some (false, z3.2.1, z3.2.2.1)).bind fun z4 => (icehouseref02_Scan_Blanks.f k z4.2.1 z4.2.2).bind fun z5 =>
  if z4.1 = true ∧ z5.2 = (s.size : Int) then icehouseref02_Sort.f z3.2.2.2 else some ([], 30)
set_option maxHeartbeats 16000000 in
set_option maxRecDepth 100000 in
theorem parse_walk (k : Nat) (a0 : ByteArray) (r1 : List S47) (r2 : Int) (w : World) (h : pF k a0 = some (r1, r2)) :
    Calls Tryz.prog 18 #[.string a0] w fun e w' => ∃ v0_ : Value, e = .returned (.tuple #[v0_, .int .i64 r2]) ∧ Kd.R k47 47 w' w.heap.size (fun _ => True) v0_ r1 ∧ Below w.heap.size w w' := by
  unfold pF at h
  simp only [Option.bind_eq_some_iff] at h
  obtain ⟨⟨s1, a1⟩, A1, ⟨b2, s2, a2⟩, A2, ⟨ok3, s3, a3, l3⟩, A3, ⟨ok4, s4, a4⟩, A4, ⟨s5, a5⟩, A5, H⟩ := h
  replace A1 := Aside0.mk A1
  replace A2 := Aside0.mk A2
  replace A3 := Aside0.mk A3
  replace A4 := Aside0.mk A4
  replace A5 := Aside0.mk A5
  replace H := Aside0.mk H
  obtain ⟨wa, hwa⟩ : ∃ wa, wa = w.alloc (.cells #[.string a0, .int .i64 0] 83) := ⟨_, rfl⟩
  have HB : Aside0 (Below w.heap.size w wa) := ⟨by rw [hwa]; exact below_alloc (Below.refl _ _) _⟩
  obtain ⟨g, hg⟩ : ∃ g, g = w.heap.size := ⟨_, rfl⟩
  have HI : Aside0 (IsS83 w wa g a0 0) := ⟨by rw [hwa, hg]; exact IsS83.new w w a0 0 (Below.refl _ _)⟩
  go_enter Tryz.func18, Tryz.ntmps18
  go_upto_region 2 with fail
  rw [← hwa, ← hg]
  clear hwa hg
  go_wp2_with fail
  refine (icehouseref02_Scan_Blanks.calls k g a0 0 s1 a1 w wa HI.out HB.out A1.out).mono ?_
  rintro e w1 ⟨rfl, hi, hb, hk⟩
  clear HI HB
  have HI := Aside0.mk hi
  have HB := Aside0.mk hb
  clear hi hb hk
  go_wp2_with fail
  refine (icehouseref02_Scan_Is.calls g s1 a1 123 b2 s2 a2 w w1 HI.out HB.out A2.out).mono ?_
  rintro e w2 ⟨rfl, hi, hb, hk⟩
  clear HI HB
  have HI := Aside0.mk hi
  have HB := Aside0.mk hb
  clear hi hb hk
  go_wp2_with fail
  go_loopg [5, 6, 7, 8, 9, 10] k (fun kq v5 v6 v7 v8 v9 v10 wx => ∃ (ok more : Bool) (s : ByteArray) (a : Int) (l : List S47), v6 = .bool ok ∧ v7 = .bool more ∧ Aside0 (pLoop k kq ok more s a l = some (ok3, s3, a3, l3)) ∧ Aside0 (IsS83 w wx g s a) ∧ Aside0 (Below w.heap.size w wx) ∧ Aside0 (Kd.R k47 47 wx w.heap.size (fun q => q ≠ g) v5 l) ∧ Aside0 (ok = true → more = true → l.length ≤ 16))
  case atStart => exact ⟨b2, true, s2, a2, [], rfl, rfl, A3, HI, HB, ⟨Kd.R_nil _ _ _ _ _⟩, ⟨fun _ _ => Nat.zero_le _⟩⟩
  case round =>
    clear HI HB
    obtain ⟨ok, more, s, a, l, rfl, rfl, HP, HI, HB, HR, HLN⟩ := hrel
    cases gk with
    | zero => exact absurd HP.out (by simp [pLoop])
    | succ n =>
      have h := HP.out
      rw [pLoop] at h
      cases more with
      | false =>
        rw [if_neg (by simp)] at h
        cases ok with
        | false =>
          simp only [Option.some.injEq, Prod.mk.injEq] at h
          obtain ⟨rfl, rfl, rfl, rfl⟩ := h
          obtain ⟨A5', c5, e5⟩ := Kd.R_slice HR.out
          subst e5
          have h4 := A4.out
          rw [if_neg (by simp)] at h4
          simp only [Option.some.injEq, Prod.mk.injEq] at h4
          obtain ⟨h4a, h4b, h4c⟩ := h4
          subst h4a
          have HI2 : Aside0 (IsS83 w wr g s4 a4) := ⟨by rw [← h4b, ← h4c]; exact HI.out⟩
          clear HI h4b h4c
          have HI := HI2
          clear HP A4 A3 HLN HI2
          go_wp2_with fail
          refine (icehouseref02_Scan_Blanks.calls k g s4 a4 s5 a5 w _ HI.out HB.out A5.out).mono ?_
          rintro e w21 ⟨rfl, hi, hb, hk⟩
          have HRZ := Aside0.mk (Kd.R_keep HR.out hk (fun _ h => h))
          clear HI HB HR
          have HI := Aside0.mk hi
          have HB := Aside0.mk hb
          clear hi hb hk
          have x1 := cellS83_1 HI.out.1
          have hH := H.out
          rw [if_neg (fun h => by cases h.1)] at hH
          simp only [Option.some.injEq, Prod.mk.injEq] at hH
          obtain ⟨rfl, rfl⟩ := hH
          clear H
          go_wp2_with fail
          go_ret2
          exact ⟨_, rfl, Kd.R_nil _ _ _ _ _, HB.out⟩
        | true =>
          simp only [Option.some.injEq, Prod.mk.injEq] at h
          obtain ⟨rfl, rfl, rfl, rfl⟩ := h
          obtain ⟨A5', c5, e5⟩ := Kd.R_slice HR.out
          subst e5
          have h4 := A4.out
          rw [if_pos rfl] at h4
          clear HP A4 A3 HLN
          go_wp2_with fail
          refine (icehouseref02_Scan_Is.calls g s a 125 ok4 s4 a4 w _ HI.out HB.out h4).mono ?_
          rintro e w20 ⟨rfl, hi, hb, hk⟩
          have HRY := Aside0.mk (Kd.R_keep HR.out hk (fun _ h => h))
          clear HI HB HR h4
          have HI := Aside0.mk hi
          have HB := Aside0.mk hb
          have HR := HRY
          clear hi hb hk HRY
          go_wp2_with fail
          refine (icehouseref02_Scan_Blanks.calls k g s4 a4 s5 a5 w w20 HI.out HB.out A5.out).mono ?_
          rintro e w21 ⟨rfl, hi, hb, hk⟩
          have HRZ := Aside0.mk (Kd.R_keep HR.out hk (fun _ h => h))
          clear HI HB HR
          have HI := Aside0.mk hi
          have HB := Aside0.mk hb
          clear hi hb hk
          have x1 := cellS83_1 HI.out.1
          cases ok4 with
          | false =>
            have hH := H.out
            rw [if_neg (fun h => by cases h.1)] at hH
            simp only [Option.some.injEq, Prod.mk.injEq] at hH
            obtain ⟨rfl, rfl⟩ := hH
            clear H
            go_wp2_with fail
            go_ret2
            exact ⟨_, rfl, Kd.R_nil _ _ _ _ _, HB.out⟩
          | true =>
            by_cases e5 : a5 = (a0.size : Int)
            · skip
              have hH := H.out
              rw [if_pos ⟨rfl, e5⟩] at hH
              obtain ⟨hln, hlc, hC⟩ := Kd.R_reads' HRZ.out
              have hso := icehouseref02_Sort.calls A5' c5 l r1 r2 w21 hC hlc hH
              have d1 : (a5 == (a0.size : Int)) = true := by simpa using e5
              have d2 : (a5 != (a0.size : Int)) = false := by simpa using e5
              have HSO := Aside0.mk hso
              clear hH hln hlc hC hso H
              subst e5
              go_wp2_with fail
              refine HSO.out.mono ?_
              rintro e w22 ⟨v, rfl, ho, hb⟩
              have HO := Aside0.mk ho
              have HB2 := Aside0.mk hb
              clear ho hb HSO
              go_wp2_with fail
              go_ret2
              exact ⟨_, rfl, Kd.R_lower HO.out HB.out.size, below_step HB.out HB2.out⟩
            · have d1 : (a5 == (a0.size : Int)) = false := by simpa using e5
              have d2 : (a5 != (a0.size : Int)) = true := by simpa using e5
              have hH := H.out
              rw [if_neg (fun h => e5 h.2)] at hH
              simp only [Option.some.injEq, Prod.mk.injEq] at hH
              obtain ⟨rfl, rfl⟩ := hH
              clear H
              go_wp2_with fail
              go_ret2
              exact ⟨_, rfl, Kd.R_nil _ _ _ _ _, HB.out⟩
      | true =>
        cases ok with
        | false =>
          rw [if_neg (by simp)] at h
          simp only [Option.some.injEq, Prod.mk.injEq] at h
          obtain ⟨rfl, rfl, rfl, rfl⟩ := h
          obtain ⟨A5', c5, e5⟩ := Kd.R_slice HR.out
          subst e5
          have h4 := A4.out
          rw [if_neg (by simp)] at h4
          simp only [Option.some.injEq, Prod.mk.injEq] at h4
          obtain ⟨h4a, h4b, h4c⟩ := h4
          subst h4a
          have HI2 : Aside0 (IsS83 w wr g s4 a4) := ⟨by rw [← h4b, ← h4c]; exact HI.out⟩
          clear HI h4b h4c
          have HI := HI2
          clear HP A4 A3 HLN HI2
          go_wp2_with fail
          refine (icehouseref02_Scan_Blanks.calls k g s4 a4 s5 a5 w _ HI.out HB.out A5.out).mono ?_
          rintro e w21 ⟨rfl, hi, hb, hk⟩
          have HRZ := Aside0.mk (Kd.R_keep HR.out hk (fun _ h => h))
          clear HI HB HR
          have HI := Aside0.mk hi
          have HB := Aside0.mk hb
          clear hi hb hk
          have x1 := cellS83_1 HI.out.1
          have hH := H.out
          rw [if_neg (fun h => by cases h.1)] at hH
          simp only [Option.some.injEq, Prod.mk.injEq] at hH
          obtain ⟨rfl, rfl⟩ := hH
          clear H
          go_wp2_with fail
          go_ret2
          exact ⟨_, rfl, Kd.R_nil _ _ _ _ _, HB.out⟩
        | true =>
          rw [if_pos (by rfl)] at h
          have hln := HLN.out rfl rfl
          simp only [pRound, Option.bind_eq_some_iff] at h
          obtain ⟨zz, ⟨⟨p1, q1⟩, B1, ⟨nm, p2, q2⟩, B2, ⟨p3, q3⟩, B3, ⟨e4, p4, q4⟩, B4, ⟨p5, q5⟩, B5, ⟨vv, is6, p6, q6⟩, B6, ⟨p7, q7⟩, B7, ⟨m8, p8, q8⟩, B8, hz⟩, HN⟩ := h
          injection hz with hz
          subst hz
          replace B1 := Aside0.mk B1
          replace B2 := Aside0.mk B2
          replace B3 := Aside0.mk B3
          replace B4 := Aside0.mk B4
          replace B5 := Aside0.mk B5
          replace B6 := Aside0.mk B6
          replace B7 := Aside0.mk B7
          replace B8 := Aside0.mk B8
          replace HN := Aside0.mk HN
          obtain ⟨A5', c5, e5⟩ := Kd.R_slice HR.out
          subst e5
          have hlc : l.length < 16 ∨ l.length = 16 := by omega
          have HLC := Aside0.mk hlc
          clear hlc hln HLN HP
          go_wp2_with fail
          refine (icehouseref02_Scan_Blanks.calls k g s a p1 q1 w _ HI.out HB.out B1.out).mono ?_
          rintro e w1 ⟨rfl, hi, hb, hk⟩
          have HR1 := Aside0.mk (Kd.R_keep HR.out hk (fun _ h => h))
          clear HI HB HR
          have HI := Aside0.mk hi
          have HB := Aside0.mk hb
          clear hi hb hk
          go_wp2_with fail
          refine (icehouseref02_Scan_Word.calls g p1 q1 nm p2 q2 w w1 HI.out HB.out B2.out).mono ?_
          rintro e w2 ⟨rfl, hi, hb, hk⟩
          have HR2 := Aside0.mk (Kd.R_keep HR1.out hk (fun _ h => h))
          clear HI HB HR1
          have HI := Aside0.mk hi
          have HB := Aside0.mk hb
          clear hi hb hk
          go_wp2_with fail
          obtain ⟨b8, hb8⟩ : ∃ b8, b8 = w2.heap.size := ⟨_, rfl⟩
          obtain ⟨w3, hw3⟩ : ∃ w3, w3 = w2.alloc (.cells #[.string nm, .string ⟨#[]⟩] 47) := ⟨_, rfl⟩
          rw [← hw3, ← hb8]
          have HNE : Aside0 (b8 ≠ g) := ⟨by have := HI.out.lt; omega⟩
          have HGE : Aside0 (w.heap.size ≤ b8) := ⟨by rw [hb8]; exact HB.out.size⟩
          have HR3 : Aside0 (Kd.R k47 47 w3 w.heap.size (fun q => q ≠ g ∧ q ≠ b8) (.slice A5' l.length c5) l) := ⟨by rw [hw3]; exact Kd.R_alloc (Kd.R_elderB HR2.out b8 (by rw [hb8]; exact Nat.le_refl _)) _⟩
          have HX3 : Aside0 (w3.heap[b8]? = some (.cells #[.string nm, .string ⟨#[]⟩] 47 (0, 0))) := ⟨by rw [hw3, hb8]; exact blk_new _ _⟩
          have HI3 : Aside0 (IsS83 w w3 g p2 q2) := ⟨by rw [hw3]; exact HI.out.alloc _⟩
          have HB3 : Aside0 (Below w.heap.size w w3) := ⟨by rw [hw3]; exact below_alloc HB.out _⟩
          clear HI HB HR2 hw3 hb8
          have HI := HI3
          have HB := HB3
          clear HI3 HB3
          refine (icehouseref02_Scan_Blanks.calls k g p2 q2 p3 q3 w w3 HI.out HB.out B3.out).mono ?_
          rintro e w4 ⟨rfl, hi, hb, hk⟩
          have HR4 := Aside0.mk (Kd.R_keep HR3.out hk (fun _ h => h.1))
          have HX4 := Aside0.mk (hk.blk HX3.out HNE.out (by simp))
          clear HI HB HR3 HX3
          have HI := Aside0.mk hi
          have HB := Aside0.mk hb
          clear hi hb hk
          go_wp2_with fail
          refine (icehouseref02_Scan_Is.calls g p3 q3 61 e4 p4 q4 w w4 HI.out HB.out B4.out).mono ?_
          rintro e w5 ⟨rfl, hi, hb, hk⟩
          have HR5 := Aside0.mk (Kd.R_keep HR4.out hk (fun _ h => h.1))
          have HX5 := Aside0.mk (hk.blk HX4.out HNE.out (by simp))
          clear HI HB HR4 HX4
          have HI := Aside0.mk hi
          have HB := Aside0.mk hb
          clear hi hb hk
          go_wp2_with fail
          refine (icehouseref02_Scan_Blanks.calls k g p4 q4 p5 q5 w w5 HI.out HB.out B5.out).mono ?_
          rintro e w6 ⟨rfl, hi, hb, hk⟩
          have HR6 := Aside0.mk (Kd.R_keep HR5.out hk (fun _ h => h.1))
          have HX6 := Aside0.mk (hk.blk HX5.out HNE.out (by simp))
          clear HI HB HR5 HX5
          have HI := Aside0.mk hi
          have HB := Aside0.mk hb
          clear hi hb hk
          go_wp2_with fail
          refine (icehouseref02_Scan_Quoted.calls k g p5 q5 vv is6 p6 q6 w w6 HI.out HB.out B6.out).mono ?_
          rintro e w7 ⟨rfl, hi, hb, hk⟩
          have HR7 := Aside0.mk (Kd.R_keep HR6.out hk (fun _ h => h.1))
          have HX7 := Aside0.mk (hk.blk HX6.out HNE.out (by simp))
          clear HI HB HR6 HX6
          have HI := Aside0.mk hi
          have HB := Aside0.mk hb
          clear hi hb hk
          have hx0 := blk_cell HX7.out 0
          have hx1 := blk_cell HX7.out 1
          have hf1 := blk_frozen HX7.out 1
          simp at hx0 hx1
          go_upto_region 14 with fail
          obtain ⟨w8, hw8⟩ : ∃ W, W = w7.setCell ⟨b8, 1, none⟩ (.string vv) := ⟨_, rfl⟩
          rw [← hw8]
          have HI8 : Aside0 (IsS83 w w8 g p6 q6) := ⟨by rw [hw8]; exact HI.out.far (fun h => HNE.out h.symm) _⟩
          have HB8 : Aside0 (Below w.heap.size w w8) := ⟨by rw [hw8]; exact below_set HB.out HGE.out⟩
          have HR8 : Aside0 (Kd.R k47 47 w8 w.heap.size (fun q => q ≠ g ∧ q ≠ b8) (.slice A5' l.length c5) l) := ⟨by rw [hw8]; exact Kd.R_far (p := ⟨b8, 1, none⟩) HR7.out (fun _ h => h.2) (.string vv)⟩
          have HX8 : Aside0 (w8.heap[b8]? = some (.cells #[.string nm, .string vv] 47 (0, 0))) := ⟨by rw [hw8]; exact blk_put (cs := #[.string nm, .string ⟨#[]⟩]) HX7.out 1 _ rfl⟩
          clear hx0 hx1 hf1 hw8 HI HB HR7 HX7
          have HI := HI8
          have HB := HB8
          clear HI8 HB8
          have hx0 := blk_cell HX8.out 0
          have hx1 := blk_cell HX8.out 1
          simp at hx0 hx1
          cases e4 with
          | false =>
            have HN8 : Aside0 (pLoop k n false m8 p8 q8 (l ++ [{ f0 := nm, f1 := vv }]) = some (ok3, s3, a3, l3)) := ⟨by have h := HN.out; simpa using h⟩
            go_upto_region 15 with fail
            go_wp2_with ((with_reducible refine gate_builtin (b := .append) (xs := #[.tmp 49, .tmp 51]) rfl ?_); at_builtin; refine Kd.R_append k47 (w0 := w) w.heap.size rfl (.tmp 49) (.tmp 51) 27 47 (.agg #[(.string ⟨#[]⟩), (.string ⟨#[]⟩)]) 32 rfl Tryz.underlying27 info47 rfl (by decide) (by omega) (.slice A5' l.length c5) l (⟨nm, vv⟩ : S47) [.string nm, .string vv] (fun q => q ≠ g ∧ q ≠ b8) (fun _ => False) rfl (by first | (go_simp; done) | (go_simp; rfl)) ?aP (fun _ hk => hk.elim) ?aF ?aO ?aB ?aS ?aL ?_; (case aP => exact k47_mkM _ _ _ (⟨nm, vv⟩ : S47)); (case aB => exact (by repeat (first | (with_reducible first | exact HB.out | apply below_alloc) | exact HB.out))); (case aF => exact (fun q hq => by have h1 := HI.out.lt; have h2 := blk_lt HX8.out; (try simp only [World.size_alloc] at hq); exact ⟨by omega, by omega⟩)); (case aO => exact (by (with_reducible repeat (first | apply Kd.R_alloc)); exact HR8.out)); (case aS => exact (below_size (by repeat (first | (with_reducible first | exact HB.out | apply below_alloc) | exact HB.out)))); (case aL => have := HLC.out; omega); intro v9 w9 ho hb hg hat; have HI9 : Aside0 (IsS83 w w9 g p6 q6) := ⟨(hg.block g (by have h1 := HI.out.lt; (try simp only [World.size_alloc]); omega) (fun hh => (HR8.out.1 _ hh.symm).1 rfl)).trans (by (with_reducible repeat (first | refine blk_alloc ?_ _)); exact HI.out.1), HI.out.2⟩; have HR9 := Aside0.mk ho; have HB9 := Aside0.mk hb; clear ho hb hg hat)
            refine (icehouseref02_Scan_Blanks.calls k g p6 q6 p7 q7 w w9 HI9.out HB9.out B7.out).mono ?_
            rintro e w10 ⟨rfl, hi, hb, hk⟩
            have HR10 := Aside0.mk (Kd.R_keep HR9.out hk (fun _ h => h.1))
            clear HI HB HI9 HB9 HR9
            have HI := Aside0.mk hi
            have HB := Aside0.mk hb
            clear hi hb hk
            go_wp2_with fail
            refine (icehouseref02_Scan_Is.calls g p7 q7 44 m8 p8 q8 w w10 HI.out HB.out B8.out).mono ?_
            rintro e w11 ⟨rfl, hi, hb, hk⟩
            have HR11 := Aside0.mk (Kd.R_keep HR10.out hk (fun _ h => h.1))
            clear HI HB HR10
            have HI := Aside0.mk hi
            have HB := Aside0.mk hb
            clear hi hb hk
            go_wp2_with fail
            go_roundg n
            case measure => omega
            case rel => exact ⟨false, m8, p8, q8, _, rfl, rfl, HN8, HI, HB, ⟨Kd.R_mono HR11.out (fun _ h => h.1)⟩, ⟨fun h => by cases h⟩⟩
          | true =>
            cases is6 with
            | false =>
              have HN8 : Aside0 (pLoop k n false m8 p8 q8 (l ++ [{ f0 := nm, f1 := vv }]) = some (ok3, s3, a3, l3)) := ⟨by have h := HN.out; simpa using h⟩
              go_upto_region 15 with fail
              go_wp2_with ((with_reducible refine gate_builtin (b := .append) (xs := #[.tmp 49, .tmp 51]) rfl ?_); at_builtin; refine Kd.R_append k47 (w0 := w) w.heap.size rfl (.tmp 49) (.tmp 51) 27 47 (.agg #[(.string ⟨#[]⟩), (.string ⟨#[]⟩)]) 32 rfl Tryz.underlying27 info47 rfl (by decide) (by omega) (.slice A5' l.length c5) l (⟨nm, vv⟩ : S47) [.string nm, .string vv] (fun q => q ≠ g ∧ q ≠ b8) (fun _ => False) rfl (by first | (go_simp; done) | (go_simp; rfl)) ?aP (fun _ hk => hk.elim) ?aF ?aO ?aB ?aS ?aL ?_; (case aP => exact k47_mkM _ _ _ (⟨nm, vv⟩ : S47)); (case aB => exact (by repeat (first | (with_reducible first | exact HB.out | apply below_alloc) | exact HB.out))); (case aF => exact (fun q hq => by have h1 := HI.out.lt; have h2 := blk_lt HX8.out; (try simp only [World.size_alloc] at hq); exact ⟨by omega, by omega⟩)); (case aO => exact (by (with_reducible repeat (first | apply Kd.R_alloc)); exact HR8.out)); (case aS => exact (below_size (by repeat (first | (with_reducible first | exact HB.out | apply below_alloc) | exact HB.out)))); (case aL => have := HLC.out; omega); intro v9 w9 ho hb hg hat; have HI9 : Aside0 (IsS83 w w9 g p6 q6) := ⟨(hg.block g (by have h1 := HI.out.lt; (try simp only [World.size_alloc]); omega) (fun hh => (HR8.out.1 _ hh.symm).1 rfl)).trans (by (with_reducible repeat (first | refine blk_alloc ?_ _)); exact HI.out.1), HI.out.2⟩; have HR9 := Aside0.mk ho; have HB9 := Aside0.mk hb; clear ho hb hg hat)
              refine (icehouseref02_Scan_Blanks.calls k g p6 q6 p7 q7 w w9 HI9.out HB9.out B7.out).mono ?_
              rintro e w10 ⟨rfl, hi, hb, hk⟩
              have HR10 := Aside0.mk (Kd.R_keep HR9.out hk (fun _ h => h.1))
              clear HI HB HI9 HB9 HR9
              have HI := Aside0.mk hi
              have HB := Aside0.mk hb
              clear hi hb hk
              go_wp2_with fail
              refine (icehouseref02_Scan_Is.calls g p7 q7 44 m8 p8 q8 w w10 HI.out HB.out B8.out).mono ?_
              rintro e w11 ⟨rfl, hi, hb, hk⟩
              have HR11 := Aside0.mk (Kd.R_keep HR10.out hk (fun _ h => h.1))
              clear HI HB HR10
              have HI := Aside0.mk hi
              have HB := Aside0.mk hb
              clear hi hb hk
              go_wp2_with fail
              go_roundg n
              case measure => omega
              case rel => exact ⟨false, m8, p8, q8, _, rfl, rfl, HN8, HI, HB, ⟨Kd.R_mono HR11.out (fun _ h => h.1)⟩, ⟨fun h => by cases h⟩⟩
            | true =>
              by_cases h16 : l.length < 16
              · have d1 : decide (l.length < 16) = true := decide_eq_true h16
                have d2 : decide ((l.length : Int) < 16) = true := decide_eq_true (by omega)
                have d3 : (l.length : Int) < 16 := by omega
                have H16 := Aside0.mk h16
                have HN8 : Aside0 (pLoop k n true m8 p8 q8 (l ++ [{ f0 := nm, f1 := vv }]) = some (ok3, s3, a3, l3)) := ⟨by have h := HN.out; simpa [d1] using h⟩
                go_upto_region 15 with fail
                go_wp2_with ((with_reducible refine gate_builtin (b := .append) (xs := #[.tmp 49, .tmp 51]) rfl ?_); at_builtin; refine Kd.R_append k47 (w0 := w) w.heap.size rfl (.tmp 49) (.tmp 51) 27 47 (.agg #[(.string ⟨#[]⟩), (.string ⟨#[]⟩)]) 32 rfl Tryz.underlying27 info47 rfl (by decide) (by omega) (.slice A5' l.length c5) l (⟨nm, vv⟩ : S47) [.string nm, .string vv] (fun q => q ≠ g ∧ q ≠ b8) (fun _ => False) rfl (by first | (go_simp; done) | (go_simp; rfl)) ?aP (fun _ hk => hk.elim) ?aF ?aO ?aB ?aS ?aL ?_; (case aP => exact k47_mkM _ _ _ (⟨nm, vv⟩ : S47)); (case aB => exact (by repeat (first | (with_reducible first | exact HB.out | apply below_alloc) | exact HB.out))); (case aF => exact (fun q hq => by have h1 := HI.out.lt; have h2 := blk_lt HX8.out; (try simp only [World.size_alloc] at hq); exact ⟨by omega, by omega⟩)); (case aO => exact (by (with_reducible repeat (first | apply Kd.R_alloc)); exact HR8.out)); (case aS => exact (below_size (by repeat (first | (with_reducible first | exact HB.out | apply below_alloc) | exact HB.out)))); (case aL => have := HLC.out; omega); intro v9 w9 ho hb hg hat; have HI9 : Aside0 (IsS83 w w9 g p6 q6) := ⟨(hg.block g (by have h1 := HI.out.lt; (try simp only [World.size_alloc]); omega) (fun hh => (HR8.out.1 _ hh.symm).1 rfl)).trans (by (with_reducible repeat (first | refine blk_alloc ?_ _)); exact HI.out.1), HI.out.2⟩; have HR9 := Aside0.mk ho; have HB9 := Aside0.mk hb; clear ho hb hg hat)
                refine (icehouseref02_Scan_Blanks.calls k g p6 q6 p7 q7 w w9 HI9.out HB9.out B7.out).mono ?_
                rintro e w10 ⟨rfl, hi, hb, hk⟩
                have HR10 := Aside0.mk (Kd.R_keep HR9.out hk (fun _ h => h.1))
                clear HI HB HI9 HB9 HR9
                have HI := Aside0.mk hi
                have HB := Aside0.mk hb
                clear hi hb hk
                go_wp2_with fail
                refine (icehouseref02_Scan_Is.calls g p7 q7 44 m8 p8 q8 w w10 HI.out HB.out B8.out).mono ?_
                rintro e w11 ⟨rfl, hi, hb, hk⟩
                have HR11 := Aside0.mk (Kd.R_keep HR10.out hk (fun _ h => h.1))
                clear HI HB HR10
                have HI := Aside0.mk hi
                have HB := Aside0.mk hb
                clear hi hb hk
                go_wp2_with fail
                go_roundg n
                case measure => omega
                case rel => exact ⟨true, m8, p8, q8, _, rfl, rfl, HN8, HI, HB, ⟨Kd.R_mono HR11.out (fun _ h => h.1)⟩, ⟨fun _ _ => by rw [List.length_append]; have := H16.out; simp; omega⟩⟩
              · have d1 : decide (l.length < 16) = false := decide_eq_false h16
                have d2 : decide ((l.length : Int) < 16) = false := decide_eq_false (by omega)
                have d3 : ¬ (l.length : Int) < 16 := by omega
                have HN8 : Aside0 (pLoop k n false m8 p8 q8 (l ++ [{ f0 := nm, f1 := vv }]) = some (ok3, s3, a3, l3)) := ⟨by have h := HN.out; simpa [d1] using h⟩
                go_upto_region 15 with fail
                go_wp2_with ((with_reducible refine gate_builtin (b := .append) (xs := #[.tmp 49, .tmp 51]) rfl ?_); at_builtin; refine Kd.R_append k47 (w0 := w) w.heap.size rfl (.tmp 49) (.tmp 51) 27 47 (.agg #[(.string ⟨#[]⟩), (.string ⟨#[]⟩)]) 32 rfl Tryz.underlying27 info47 rfl (by decide) (by omega) (.slice A5' l.length c5) l (⟨nm, vv⟩ : S47) [.string nm, .string vv] (fun q => q ≠ g ∧ q ≠ b8) (fun _ => False) rfl (by first | (go_simp; done) | (go_simp; rfl)) ?aP (fun _ hk => hk.elim) ?aF ?aO ?aB ?aS ?aL ?_; (case aP => exact k47_mkM _ _ _ (⟨nm, vv⟩ : S47)); (case aB => exact (by repeat (first | (with_reducible first | exact HB.out | apply below_alloc) | exact HB.out))); (case aF => exact (fun q hq => by have h1 := HI.out.lt; have h2 := blk_lt HX8.out; (try simp only [World.size_alloc] at hq); exact ⟨by omega, by omega⟩)); (case aO => exact (by (with_reducible repeat (first | apply Kd.R_alloc)); exact HR8.out)); (case aS => exact (below_size (by repeat (first | (with_reducible first | exact HB.out | apply below_alloc) | exact HB.out)))); (case aL => have := HLC.out; omega); intro v9 w9 ho hb hg hat; have HI9 : Aside0 (IsS83 w w9 g p6 q6) := ⟨(hg.block g (by have h1 := HI.out.lt; (try simp only [World.size_alloc]); omega) (fun hh => (HR8.out.1 _ hh.symm).1 rfl)).trans (by (with_reducible repeat (first | refine blk_alloc ?_ _)); exact HI.out.1), HI.out.2⟩; have HR9 := Aside0.mk ho; have HB9 := Aside0.mk hb; clear ho hb hg hat)
                refine (icehouseref02_Scan_Blanks.calls k g p6 q6 p7 q7 w w9 HI9.out HB9.out B7.out).mono ?_
                rintro e w10 ⟨rfl, hi, hb, hk⟩
                have HR10 := Aside0.mk (Kd.R_keep HR9.out hk (fun _ h => h.1))
                clear HI HB HI9 HB9 HR9
                have HI := Aside0.mk hi
                have HB := Aside0.mk hb
                clear hi hb hk
                go_wp2_with fail
                refine (icehouseref02_Scan_Is.calls g p7 q7 44 m8 p8 q8 w w10 HI.out HB.out B8.out).mono ?_
                rintro e w11 ⟨rfl, hi, hb, hk⟩
                have HR11 := Aside0.mk (Kd.R_keep HR10.out hk (fun _ h => h.1))
                clear HI HB HR10
                have HI := Aside0.mk hi
                have HB := Aside0.mk hb
                clear hi hb hk
                go_wp2_with fail
                go_roundg n
                case measure => omega
                case rel => exact ⟨false, m8, p8, q8, _, rfl, rfl, HN8, HI, HB, ⟨Kd.R_mono HR11.out (fun _ h => h.1)⟩, ⟨fun h => by cases h⟩⟩
def icehouseref02_Parse.f (s : ByteArray) : Option (List S47 × Int) := pF (4 * s.size + 700) s
theorem icehouseref02_Parse.calls (a0 : ByteArray) (r1 : List S47) (r2 : Int) (w : World) (h : icehouseref02_Parse.f a0 = some (r1, r2)) :
    Calls Tryz.prog 18 #[.string a0] w fun e w' => ∃ v0_ : Value, e = .returned (.tuple #[v0_, .int .i64 r2]) ∧ Kd.R k47 47 w' w.heap.size (fun _ => True) v0_ r1 ∧ Below w.heap.size w w' :=
  parse_walk _ a0 r1 r2 w h
end Go.Proofs.YtgafnjgiikdofaaGreatDoor.R
