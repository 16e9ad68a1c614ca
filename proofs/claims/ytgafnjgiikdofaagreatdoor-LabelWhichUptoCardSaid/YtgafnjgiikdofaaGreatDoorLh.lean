/- LabelWhich: names, values, lists, Sort and Get against the document's. -/
import Derived.Test.YtgafnjgiikdofaaGreatDoorLq
import Derived.Test.YtgafnjgiikdofaaGreatDoorLc
namespace Go.Proofs.YtgafnjgiikdofaaGreatDoor.Lh
set_option linter.unusedVariables false
set_option linter.unusedSimpArgs false
open Go.RowKit Go.Proofs.YtgafnjgiikdofaaGreatDoor.A Go.Proofs.YtgafnjgiikdofaaGreatDoor.R Go.Proofs.YtgafnjgiikdofaaGreatDoor.Sx Go.Proofs.YtgafnjgiikdofaaGreatDoor.Sc Go.Proofs.YtgafnjgiikdofaaGreatDoor.Lc Go.Proofs.YtgafnjgiikdofaaGreatDoor.Lr Go.Proofs.YtgafnjgiikdofaaGreatDoor.Sy Go.Proofs.YtgafnjgiikdofaaGreatDoor.Sn Go.Proofs.YtgafnjgiikdofaaGreatDoor.Sv
open Go.Proofs.YtgafnjgiikdofaaGreatDoorW.PrintWords Go.Proofs.YtgafnjgiikdofaaGreatDoorW.PrintLast Go.Proofs.YtgafnjgiikdofaaGreatDoorW.PrintMore
theorem get_l (l : List S47) (s : ByteArray) (hl : l.length < 4398046511104) : ∀ m k i, i + m = l.length → m + 1 ≤ k → ∃ g, label_Get.l0 k s l (l.length : Int) (i : Int) = some g ∧ icehouseref02_Get.l0 k l s (i : Int) = some g := by
  intro m
  induction m with
  | zero =>
    intro k i h1 h2
    obtain ⟨k, rfl⟩ : ∃ j, k = j + 1 := ⟨k - 1, by omega⟩
    unfold label_Get.l0 icehouseref02_Get.l0
    rw [if_neg (by omega), if_neg (by omega)]
    exact ⟨_, rfl, rfl⟩
  | succ m ih =>
    intro k i h1 h2
    obtain ⟨k, rfl⟩ : ∃ j, k = j + 1 := ⟨k - 1, by omega⟩
    have hw : wrap64 ((i : Int) + 1) = ((i + 1 : Nat) : Int) := w64' i (by omega)
    obtain ⟨g, g1, g2⟩ := ih k (i + 1) (by omega) (by omega)
    by_cases hn : (rd_T47 l (i : Int)).f0.toList = s.toList
    · refine ⟨((rd_T47 l (i : Int)).f1, true), ?_, ?_⟩
      · rw [label_Get.l0, if_pos (by omega), if_pos (by omega), if_pos (by omega), if_pos hn]
      · rw [icehouseref02_Get.l0, if_pos (by omega), if_pos (by omega), if_pos hn]
    · refine ⟨g, ?_, ?_⟩
      · rw [label_Get.l0, if_pos (by omega), if_pos (by omega), if_pos (by omega), if_neg hn, hw, g1]
      · rw [icehouseref02_Get.l0, if_pos (by omega), if_pos (by omega), if_neg hn, hw, g2]
theorem sort_any (l : List S47) (h : l.length ≤ 1048576) (hf : ∀ x ∈ l, x.f0.size ≤ 1048576 ∧ x.f1.size ≤ 1048576) : ∃ r, label_Sort.f l = some r ∧ icehouseref02_Sort.f l = some r ∧ r.1.length ≤ 16 := by
  have hf' : ∀ x ∈ l, x.f0.size ≤ 17592186044416 ∧ x.f1.size ≤ 17592186044416 := fun x hx => by have := hf x hx; omega
  by_cases h16 : l.length ≤ 16
  · obtain ⟨r, g1, g2⟩ := Lq.sort_alike l h16 hf'
    refine ⟨r, g1, g2, ?_⟩
    unfold icehouseref02_Sort.f at g2
    rw [if_pos h16] at g2
    split at g2
    · injection g2 with g2
      subst g2
      split
      · simp only; rw [sortL_len]; exact h16
      · simp
    · cases g2
  · refine ⟨([], 30), ?_, by unfold icehouseref02_Sort.f; rw [if_neg h16], by simp⟩
    unfold label_Sort.f
    have hp := (sortL_spec l).1
    by_cases h19 : l.length ≤ 19
    · have hr : label_Right.f (l.length + 2) (sortL l) = some (rightB (sortL l)) := lright_eq (sortL l) _ (by rw [hp.length_eq]; omega) (fun x hx => (hf' x (hp.mem_iff.1 hx)).1) (by rw [hp.length_eq]; omega)
      rw [if_pos h19, hr, right_long _ (by rw [hp.length_eq]; omega)]
    · rw [if_neg h19, if_pos ⟨h, List.all_eq_true.2 fun x hx => decide_eq_true (hf' x hx).1⟩]
set_option maxHeartbeats 8000000 in
set_option maxRecDepth 100000 in
theorem walkW (s : ByteArray) (Al : Option Addr) (cl : Nat) (l : List S47) (w : World) (hr : Kd.C k47 w Al l.length l) (hc : l.length ≤ cl) (hf : l.length ≤ 1048576 ∧ ∀ x ∈ l, x.f0.size ≤ 1048576 ∧ x.f1.size ≤ 1048576) (hs : s.size ≤ 1048576) (hE : Env w) :
    Calls Tryz.prog 5 #[.string s, .slice Al l.length cl] w fun e w' => e = .returned (.bool true) ∧ Below w.heap.size w w' := by
  obtain ⟨k, hk⟩ : ∃ k, k = 3000000 := ⟨_, rfl⟩
  obtain ⟨⟨r1, r2⟩, p1, p2, p3⟩ := sort_any l hf.1 hf.2
  obtain ⟨⟨g1, g2⟩, p4, p5⟩ := get_l l s (by omega) l.length k 0 (by omega) (by omega)
  have p10 := lright_eq l k (by omega) (fun x hx => by have := hf.2 x hx; omega) (by omega)
  have p11 := rright_eq l k 1048576 (by omega) (by omega) hf.2 (by omega)
  have p12 := same_eq r1 r1 k (by simp only at p3; omega) (by simp only at p3; omega) (by simp only at p3; omega)
  have p14 := same_eq l l k (by omega) (by omega) (by omega)
  rw [good_ll.refl] at p12 p14
  have F1 := Aside0.mk (own_eq l (by omega))
  have F2 := Aside0.mk p1
  have F3 := Aside0.mk p2
  have F4 : Aside0 (label_Get.f k l s = some (g1, g2)) := ⟨p4⟩
  have F5 : Aside0 (icehouseref02_Get.f k l s = some (g1, g2)) := ⟨p5⟩
  have F6 : Aside0 (label_Name.f s = some (nameB s)) := ⟨if_pos (by show s.size ≤ _; omega)⟩
  have F7 := Aside0.mk (name_eq s k (by omega) (by omega))
  have F8 : Aside0 (label_Value.f s = some (valB s)) := ⟨rfl⟩
  have F9 := Aside0.mk (value_eq s k (by omega))
  have F10 := Aside0.mk p10
  have F11 := Aside0.mk p11
  have F12 : Aside0 (icehouselaw02_Same.f k r1 r1 = some true) := ⟨p12⟩
  have F13 : Aside0 (icehouselaw02_num.f r2 = some r2) := ⟨rfl⟩
  have F14 : Aside0 (icehouselaw02_Same.f k l l = some true) := ⟨p14⟩
  have F15 : Aside0 (icehouselaw02_knows.f k = some true) := ⟨Uk.knows_k _ (by omega)⟩
  generalize nameB s = n1 at F6 F7
  generalize valB s = v1 at F8 F9
  generalize rightB l = q1 at F10 F11
  have HCl := Aside0.mk hr
  have HKl := Aside0.mk hc
  have HB := Aside0.mk (Below.refl w.heap.size w)
  have HE := Aside0.mk hE
  clear hk p1 p2 p3 p4 p5 p10 p11 p12 p14 hr hc hf hs hE
  go_enter Tryz.func5, Tryz.ntmps5
  go_wp2_with fail
  refine (icehouselaw02_Own.calls Al cl l l _ HCl.out HKl.out F1.out).mono ?_
  rintro e w1 ⟨v0, rfl, hr, hb⟩
  obtain ⟨Ax, cx, rfl⟩ := Kd.R_slice hr
  obtain ⟨_, hk, hC⟩ := Kd.R_reads' hr
  have HD := Aside0.mk (Kd.C_below HCl.out hb)
  clear HCl
  have HCl := HD
  clear HD
  have HD := Aside0.mk (HB.out.trans (hb.mono HB.out.size))
  clear HB
  have HB := HD
  clear HD
  have HD := Aside0.mk (HE.out.below hb)
  clear HE
  have HE := HD
  clear HD
  clear hb
  have HCx := Aside0.mk hC
  have HKx := Aside0.mk hk
  clear hr hC hk
  go_wp2_with fail
  refine (label_Sort.calls Ax cx l r1 r2 _ HCx.out HKx.out F2.out HE.out).mono ?_
  rintro e w2 ⟨v0, rfl, hr, hb⟩
  obtain ⟨Aa, ca, rfl⟩ := Kd.R_slice hr
  obtain ⟨_, hk, hC⟩ := Kd.R_reads' hr
  have HD := Aside0.mk (Kd.C_below HCl.out hb)
  clear HCl
  have HCl := HD
  clear HD
  have HD := Aside0.mk (Kd.C_below HCx.out hb)
  clear HCx
  have HCx := HD
  clear HD
  have HD := Aside0.mk (HB.out.trans (hb.mono HB.out.size))
  clear HB
  have HB := HD
  clear HD
  have HD := Aside0.mk (HE.out.below hb)
  clear HE
  have HE := HD
  clear HD
  clear hb
  have HCa := Aside0.mk hC
  have HKa := Aside0.mk hk
  clear hr hC hk
  go_wp2_with fail
  refine (icehouseref02_Sort.calls Al cl l r1 r2 _ HCl.out HKl.out F3.out).mono ?_
  rintro e w3 ⟨v0, rfl, hr, hb⟩
  obtain ⟨Ab, cb, rfl⟩ := Kd.R_slice hr
  obtain ⟨_, hk, hC⟩ := Kd.R_reads' hr
  have HD := Aside0.mk (Kd.C_below HCl.out hb)
  clear HCl
  have HCl := HD
  clear HD
  have HD := Aside0.mk (Kd.C_below HCx.out hb)
  clear HCx
  have HCx := HD
  clear HD
  have HD := Aside0.mk (Kd.C_below HCa.out hb)
  clear HCa
  have HCa := HD
  clear HD
  have HD := Aside0.mk (HB.out.trans (hb.mono HB.out.size))
  clear HB
  have HB := HD
  clear HD
  have HD := Aside0.mk (HE.out.below hb)
  clear HE
  have HE := HD
  clear HD
  clear hb
  have HCb := Aside0.mk hC
  have HKb := Aside0.mk hk
  clear hr hC hk
  go_wp2_with fail
  refine (label_Get.calls k Ax cx l s g1 g2 _ HCx.out HKx.out F4.out).mono ?_
  rintro e w4 ⟨rfl, hb⟩
  have HD := Aside0.mk (Kd.C_below HCl.out hb)
  clear HCl
  have HCl := HD
  clear HD
  have HD := Aside0.mk (Kd.C_below HCx.out hb)
  clear HCx
  have HCx := HD
  clear HD
  have HD := Aside0.mk (Kd.C_below HCa.out hb)
  clear HCa
  have HCa := HD
  clear HD
  have HD := Aside0.mk (Kd.C_below HCb.out hb)
  clear HCb
  have HCb := HD
  clear HD
  have HD := Aside0.mk (HB.out.trans (hb.mono HB.out.size))
  clear HB
  have HB := HD
  clear HD
  have HD := Aside0.mk (HE.out.below hb)
  clear HE
  have HE := HD
  clear HD
  clear hb
  go_wp2_with fail
  refine (icehouseref02_Get.calls k Al cl l s g1 g2 _ HCl.out HKl.out F5.out).mono ?_
  rintro e w5 ⟨rfl, hb⟩
  replace hb := Sn.drawn0_below hb
  have HD := Aside0.mk (Kd.C_below HCl.out hb)
  clear HCl
  have HCl := HD
  clear HD
  have HD := Aside0.mk (Kd.C_below HCx.out hb)
  clear HCx
  have HCx := HD
  clear HD
  have HD := Aside0.mk (Kd.C_below HCa.out hb)
  clear HCa
  have HCa := HD
  clear HD
  have HD := Aside0.mk (Kd.C_below HCb.out hb)
  clear HCb
  have HCb := HD
  clear HD
  have HD := Aside0.mk (HB.out.trans (hb.mono HB.out.size))
  clear HB
  have HB := HD
  clear HD
  have HD := Aside0.mk (HE.out.below hb)
  clear HE
  have HE := HD
  clear HD
  clear hb
  go_wp2_with fail
  refine (label_Name.calls s n1 _ F6.out).mono ?_
  rintro e w6 ⟨rfl, hb⟩
  have HD := Aside0.mk (Kd.C_below HCl.out hb)
  clear HCl
  have HCl := HD
  clear HD
  have HD := Aside0.mk (Kd.C_below HCx.out hb)
  clear HCx
  have HCx := HD
  clear HD
  have HD := Aside0.mk (Kd.C_below HCa.out hb)
  clear HCa
  have HCa := HD
  clear HD
  have HD := Aside0.mk (Kd.C_below HCb.out hb)
  clear HCb
  have HCb := HD
  clear HD
  have HD := Aside0.mk (HB.out.trans (hb.mono HB.out.size))
  clear HB
  have HB := HD
  clear HD
  have HD := Aside0.mk (HE.out.below hb)
  clear HE
  have HE := HD
  clear HD
  clear hb
  go_wp2_with fail
  refine (icehouseref02_Name.calls k s n1 _ F7.out).mono ?_
  rintro e w7 ⟨rfl, hb⟩
  replace hb := Sn.drawn0_below hb
  have HD := Aside0.mk (Kd.C_below HCl.out hb)
  clear HCl
  have HCl := HD
  clear HD
  have HD := Aside0.mk (Kd.C_below HCx.out hb)
  clear HCx
  have HCx := HD
  clear HD
  have HD := Aside0.mk (Kd.C_below HCa.out hb)
  clear HCa
  have HCa := HD
  clear HD
  have HD := Aside0.mk (Kd.C_below HCb.out hb)
  clear HCb
  have HCb := HD
  clear HD
  have HD := Aside0.mk (HB.out.trans (hb.mono HB.out.size))
  clear HB
  have HB := HD
  clear HD
  have HD := Aside0.mk (HE.out.below hb)
  clear HE
  have HE := HD
  clear HD
  clear hb
  go_wp2_with fail
  refine (label_Value.calls s v1 _ F8.out HE.out).mono ?_
  rintro e w8 ⟨rfl, hb⟩
  have HD := Aside0.mk (Kd.C_below HCl.out hb)
  clear HCl
  have HCl := HD
  clear HD
  have HD := Aside0.mk (Kd.C_below HCx.out hb)
  clear HCx
  have HCx := HD
  clear HD
  have HD := Aside0.mk (Kd.C_below HCa.out hb)
  clear HCa
  have HCa := HD
  clear HD
  have HD := Aside0.mk (Kd.C_below HCb.out hb)
  clear HCb
  have HCb := HD
  clear HD
  have HD := Aside0.mk (HB.out.trans (hb.mono HB.out.size))
  clear HB
  have HB := HD
  clear HD
  have HD := Aside0.mk (HE.out.below hb)
  clear HE
  have HE := HD
  clear HD
  clear hb
  go_wp2_with fail
  refine (icehouseref02_Value.calls k s v1 _ F9.out).mono ?_
  rintro e w9 ⟨rfl, hb⟩
  replace hb := Sn.drawn0_below hb
  have HD := Aside0.mk (Kd.C_below HCl.out hb)
  clear HCl
  have HCl := HD
  clear HD
  have HD := Aside0.mk (Kd.C_below HCx.out hb)
  clear HCx
  have HCx := HD
  clear HD
  have HD := Aside0.mk (Kd.C_below HCa.out hb)
  clear HCa
  have HCa := HD
  clear HD
  have HD := Aside0.mk (Kd.C_below HCb.out hb)
  clear HCb
  have HCb := HD
  clear HD
  have HD := Aside0.mk (HB.out.trans (hb.mono HB.out.size))
  clear HB
  have HB := HD
  clear HD
  have HD := Aside0.mk (HE.out.below hb)
  clear HE
  have HE := HD
  clear HD
  clear hb
  go_wp2_with fail
  refine (label_Right.calls k Ax cx l q1 _ HCx.out HKx.out F10.out HE.out).mono ?_
  rintro e w10 ⟨rfl, hb⟩
  have HD := Aside0.mk (Kd.C_below HCl.out hb)
  clear HCl
  have HCl := HD
  clear HD
  have HD := Aside0.mk (Kd.C_below HCx.out hb)
  clear HCx
  have HCx := HD
  clear HD
  have HD := Aside0.mk (Kd.C_below HCa.out hb)
  clear HCa
  have HCa := HD
  clear HD
  have HD := Aside0.mk (Kd.C_below HCb.out hb)
  clear HCb
  have HCb := HD
  clear HD
  have HD := Aside0.mk (HB.out.trans (hb.mono HB.out.size))
  clear HB
  have HB := HD
  clear HD
  have HD := Aside0.mk (HE.out.below hb)
  clear HE
  have HE := HD
  clear HD
  clear hb
  go_wp2_with fail
  refine (icehouseref02_Right.calls k Al cl l q1 _ HCl.out HKl.out F11.out).mono ?_
  rintro e w11 ⟨rfl, hb⟩
  have HD := Aside0.mk (Kd.C_below HCl.out hb)
  clear HCl
  have HCl := HD
  clear HD
  have HD := Aside0.mk (Kd.C_below HCx.out hb)
  clear HCx
  have HCx := HD
  clear HD
  have HD := Aside0.mk (Kd.C_below HCa.out hb)
  clear HCa
  have HCa := HD
  clear HD
  have HD := Aside0.mk (Kd.C_below HCb.out hb)
  clear HCb
  have HCb := HD
  clear HD
  have HD := Aside0.mk (HB.out.trans (hb.mono HB.out.size))
  clear HB
  have HB := HD
  clear HD
  have HD := Aside0.mk (HE.out.below hb)
  clear HE
  have HE := HD
  clear HD
  clear hb
  go_wp2_with fail
  refine (icehouselaw02_Same.calls k Aa ca r1 Ab cb r1 true _ HCa.out HKa.out HCb.out HKb.out F12.out).mono ?_
  rintro e w12 ⟨rfl, hb⟩
  replace hb := Sn.drawn0_below hb
  have HD := Aside0.mk (Kd.C_below HCl.out hb)
  clear HCl
  have HCl := HD
  clear HD
  have HD := Aside0.mk (Kd.C_below HCx.out hb)
  clear HCx
  have HCx := HD
  clear HD
  have HD := Aside0.mk (Kd.C_below HCa.out hb)
  clear HCa
  have HCa := HD
  clear HD
  have HD := Aside0.mk (Kd.C_below HCb.out hb)
  clear HCb
  have HCb := HD
  clear HD
  have HD := Aside0.mk (HB.out.trans (hb.mono HB.out.size))
  clear HB
  have HB := HD
  clear HD
  have HD := Aside0.mk (HE.out.below hb)
  clear HE
  have HE := HD
  clear HD
  clear hb
  go_wp2_with fail
  refine (icehouselaw02_num.calls r2 r2 _ F13.out).mono ?_
  rintro e w13 ⟨rfl, hb⟩
  replace hb := Sn.drawn0_below hb
  have HD := Aside0.mk (Kd.C_below HCl.out hb)
  clear HCl
  have HCl := HD
  clear HD
  have HD := Aside0.mk (Kd.C_below HCx.out hb)
  clear HCx
  have HCx := HD
  clear HD
  have HD := Aside0.mk (Kd.C_below HCa.out hb)
  clear HCa
  have HCa := HD
  clear HD
  have HD := Aside0.mk (Kd.C_below HCb.out hb)
  clear HCb
  have HCb := HD
  clear HD
  have HD := Aside0.mk (HB.out.trans (hb.mono HB.out.size))
  clear HB
  have HB := HD
  clear HD
  have HD := Aside0.mk (HE.out.below hb)
  clear HE
  have HE := HD
  clear HD
  clear hb
  go_wp2_with fail
  refine (icehouselaw02_Same.calls k Ax cx l Al cl l true _ HCx.out HKx.out HCl.out HKl.out F14.out).mono ?_
  rintro e w14 ⟨rfl, hb⟩
  replace hb := Sn.drawn0_below hb
  have HD := Aside0.mk (Kd.C_below HCl.out hb)
  clear HCl
  have HCl := HD
  clear HD
  have HD := Aside0.mk (Kd.C_below HCx.out hb)
  clear HCx
  have HCx := HD
  clear HD
  have HD := Aside0.mk (Kd.C_below HCa.out hb)
  clear HCa
  have HCa := HD
  clear HD
  have HD := Aside0.mk (Kd.C_below HCb.out hb)
  clear HCb
  have HCb := HD
  clear HD
  have HD := Aside0.mk (HB.out.trans (hb.mono HB.out.size))
  clear HB
  have HB := HD
  clear HD
  have HD := Aside0.mk (HE.out.below hb)
  clear HE
  have HE := HD
  clear HD
  clear hb
  go_wp2_with fail
  refine (icehouselaw02_knows.calls k true _ F15.out HE.out).mono ?_
  rintro e w15 ⟨rfl, hb⟩
  have HD := Aside0.mk (Kd.C_below HCl.out hb)
  clear HCl
  have HCl := HD
  clear HD
  have HD := Aside0.mk (Kd.C_below HCx.out hb)
  clear HCx
  have HCx := HD
  clear HD
  have HD := Aside0.mk (Kd.C_below HCa.out hb)
  clear HCa
  have HCa := HD
  clear HD
  have HD := Aside0.mk (Kd.C_below HCb.out hb)
  clear HCb
  have HCb := HD
  clear HD
  have HD := Aside0.mk (HB.out.trans (hb.mono HB.out.size))
  clear HB
  have HB := HD
  clear HD
  have HD := Aside0.mk (HE.out.below hb)
  clear HE
  have HE := HD
  clear HD
  clear hb
  go_wp2
  go_ret
  exact ⟨rfl, HB.out⟩
end Go.Proofs.YtgafnjgiikdofaaGreatDoor.Lh
