/- LabelBack, walked: each way of it. -/
import Derived.Test.YtgafnjgiikdofaaGreatDoorLz
import Derived.Test.YtgafnjgiikdofaaGreatDoorLc
namespace Go.Proofs.YtgafnjgiikdofaaGreatDoor.Lk
set_option linter.unusedVariables false
set_option linter.unusedSimpArgs false
open Go.RowKit Go.Proofs.YtgafnjgiikdofaaGreatDoor.A Go.Proofs.YtgafnjgiikdofaaGreatDoor.R Go.Proofs.YtgafnjgiikdofaaGreatDoor.Sx
open Go.Proofs.YtgafnjgiikdofaaGreatDoorW.PrintWords Go.Proofs.YtgafnjgiikdofaaGreatDoorW.PrintLast Go.Proofs.YtgafnjgiikdofaaGreatDoorW.PrintMore
set_option maxHeartbeats 8000000 in
set_option maxRecDepth 100000 in
theorem back_qr (k : Nat) (Al : Option Addr) (cl : Nat) (l : List S47) (s more t pt : ByteArray) (eb : List Int) (w : World) (HCl : Aside0 (Kd.C k47 w Al l.length l)) (HKl : Aside0 (l.length ≤ cl)) (HE : Aside0 (Env w))
    (FK : Aside0 (icehouselaw02_knows.f k = some true)) (FQ : Aside0 (label_Quote.f s = some t)) (FR : Aside0 (label_Right.f k l = some true)) (FP : Aside0 (label_Print.f k l = some pt)) (FU : Aside0 (label_Unquote.f (t ++ more) = some (s, (t.size : Int), true))) (ht : t.toList = [] ↔ False) (hte : t.toList.isEmpty = false) (htz : t.size + more.size ≤ 100000000) (hz1 : (9223372036854775807 < t.size + more.size) = False) (FA : Aside0 (label_Parse.f k pt = some (l, 0))) (FS : Aside0 (icehouselaw02_Same.f k l l = some true)) (HX1 : Aside0 (∀ A c w, Kd.C k47 w A l.length l → l.length ≤ c → Env w → Calls Tryz.prog 35 #[.slice A l.length c] w fun e w' => ∃ v, e = .returned (.tuple #[v, .int .i64 0]) ∧ Kd.R (Kd.int .u8) 5 w' w.heap.size (fun _ => True) v eb ∧ Below w.heap.size w w')) (HX2 : Aside0 (∀ A c w, (Kd.int .u8).C w A eb.length eb → eb.length ≤ c → Env w → Calls Tryz.prog 38 #[.slice A eb.length c] w fun e w' => ∃ v, e = .returned (.tuple #[v, .int .i64 0]) ∧ Kd.R k47 47 w' w.heap.size (fun _ => True) v l ∧ Below w.heap.size w w')) :
    Calls Tryz.prog 10 #[.slice Al l.length cl, .string s, .string more] w fun e w' => e = .returned (.bool true) ∧ Below w.heap.size w w' := by
  have HB := Aside0.mk (Below.refl w.heap.size w)
  have FN : Aside0 (icehouselaw02_num.f 0 = some 0) := ⟨rfl⟩
  go_enter Tryz.func10, Tryz.ntmps10
  go_wp2_with fail
  refine (label_Quote.calls s t _ FQ.out HE.out).mono ?_
  rintro e w1 ⟨rfl, hb⟩
  have HD := Aside0.mk (Kd.C_below HCl.out hb)
  clear HCl
  have HCl := HD
  clear HD
  have HD := Aside0.mk (HB.out.trans (hb.mono HB.out.size))
  clear HB
  have HB := HD
  clear HD
  have HD := Aside0.mk (HE.out.below hb)
  clear HE
  have HE := HD
  clear HD
  clear hb
  go_wp2_with fail
  refine (label_Unquote.calls (t ++ more) s (t.size : Int) true _ FU.out HE.out).mono ?_
  rintro e w2 ⟨rfl, hb⟩
  have HD := Aside0.mk (Kd.C_below HCl.out hb)
  clear HCl
  have HCl := HD
  clear HD
  have HD := Aside0.mk (HB.out.trans (hb.mono HB.out.size))
  clear HB
  have HB := HD
  clear HD
  have HD := Aside0.mk (HE.out.below hb)
  clear HE
  have HE := HD
  clear HD
  clear hb
  go_wp2_with fail
  refine (label_Right.calls k Al cl l true _ HCl.out HKl.out FR.out HE.out).mono ?_
  rintro e w3 ⟨rfl, hb⟩
  have HD := Aside0.mk (Kd.C_below HCl.out hb)
  clear HCl
  have HCl := HD
  clear HD
  have HD := Aside0.mk (HB.out.trans (hb.mono HB.out.size))
  clear HB
  have HB := HD
  clear HD
  have HD := Aside0.mk (HE.out.below hb)
  clear HE
  have HE := HD
  clear HD
  clear hb
  go_wp2_with fail
  refine (label_Print.calls k Al cl l pt _ HCl.out HKl.out FP.out HE.out).mono ?_
  rintro e w4 ⟨rfl, hb⟩
  have HD := Aside0.mk (Kd.C_below HCl.out hb)
  clear HCl
  have HCl := HD
  clear HD
  have HD := Aside0.mk (HB.out.trans (hb.mono HB.out.size))
  clear HB
  have HB := HD
  clear HD
  have HD := Aside0.mk (HE.out.below hb)
  clear HE
  have HE := HD
  clear HD
  clear hb
  go_wp2_with fail
  refine (label_Parse.calls k pt l 0 _ FA.out HE.out).mono ?_
  rintro e w5 ⟨v0, rfl, hr, hb⟩
  obtain ⟨Aa, ca, rfl⟩ := Kd.R_slice hr
  obtain ⟨_, hk, hC⟩ := Kd.R_reads' hr
  have HD := Aside0.mk (Kd.C_below HCl.out hb)
  clear HCl
  have HCl := HD
  clear HD
  have HD := Aside0.mk (HB.out.trans (hb.mono HB.out.size))
  clear HB
  have HB := HD
  clear HD
  have HD := Aside0.mk (HE.out.below hb)
  clear HE
  have HE := HD
  clear HD
  clear hb
  have HCa := Aside0.mk hC
  have HKa := Aside0.mk hk
  clear hr hC hk
  go_wp2_with fail
  refine (HX1.out Al cl _ HCl.out HKl.out HE.out).mono ?_
  rintro e w6 ⟨v0, rfl, hr, hb⟩
  obtain ⟨Ap, cp, rfl⟩ := Kd.R_slice hr
  obtain ⟨_, hk, hC⟩ := Kd.R_reads' hr
  have HD := Aside0.mk (Kd.C_below HCl.out hb)
  clear HCl
  have HCl := HD
  clear HD
  have HD := Aside0.mk (Kd.C_below HCa.out hb)
  clear HCa
  have HCa := HD
  clear HD
  have HD := Aside0.mk (HB.out.trans (hb.mono HB.out.size))
  clear HB
  have HB := HD
  clear HD
  have HD := Aside0.mk (HE.out.below hb)
  clear HE
  have HE := HD
  clear HD
  clear hb
  have HCp := Aside0.mk hC
  have HKp := Aside0.mk hk
  clear hr hC hk
  go_wp2_with fail
  refine (HX2.out Ap cp _ HCp.out HKp.out HE.out).mono ?_
  rintro e w7 ⟨v0, rfl, hr, hb⟩
  obtain ⟨Ac, cc, rfl⟩ := Kd.R_slice hr
  obtain ⟨_, hk, hC⟩ := Kd.R_reads' hr
  have HD := Aside0.mk (Kd.C_below HCl.out hb)
  clear HCl
  have HCl := HD
  clear HD
  have HD := Aside0.mk (Kd.C_below HCa.out hb)
  clear HCa
  have HCa := HD
  clear HD
  have HD := Aside0.mk (Kd.C_below HCp.out hb)
  clear HCp
  have HCp := HD
  clear HD
  have HD := Aside0.mk (HB.out.trans (hb.mono HB.out.size))
  clear HB
  have HB := HD
  clear HD
  have HD := Aside0.mk (HE.out.below hb)
  clear HE
  have HE := HD
  clear HD
  clear hb
  have HCc := Aside0.mk hC
  have HKc := Aside0.mk hk
  clear hr hC hk
  go_wp2_with fail
  refine (icehouselaw02_num.calls 0 0 _ FN.out).mono ?_
  rintro e w8 ⟨rfl, hb⟩
  replace hb := Sn.drawn0_below hb
  have HD := Aside0.mk (Kd.C_below HCl.out hb)
  clear HCl
  have HCl := HD
  clear HD
  have HD := Aside0.mk (Kd.C_below HCa.out hb)
  clear HCa
  have HCa := HD
  clear HD
  have HD := Aside0.mk (Kd.C_below HCp.out hb)
  clear HCp
  have HCp := HD
  clear HD
  have HD := Aside0.mk (Kd.C_below HCc.out hb)
  clear HCc
  have HCc := HD
  clear HD
  have HD := Aside0.mk (HB.out.trans (hb.mono HB.out.size))
  clear HB
  have HB := HD
  clear HD
  have HD := Aside0.mk (HE.out.below hb)
  clear HE
  have HE := HD
  clear HD
  clear hb
  go_wp2_with fail
  refine (icehouselaw02_num.calls 0 0 _ FN.out).mono ?_
  rintro e w9 ⟨rfl, hb⟩
  replace hb := Sn.drawn0_below hb
  have HD := Aside0.mk (Kd.C_below HCl.out hb)
  clear HCl
  have HCl := HD
  clear HD
  have HD := Aside0.mk (Kd.C_below HCa.out hb)
  clear HCa
  have HCa := HD
  clear HD
  have HD := Aside0.mk (Kd.C_below HCp.out hb)
  clear HCp
  have HCp := HD
  clear HD
  have HD := Aside0.mk (Kd.C_below HCc.out hb)
  clear HCc
  have HCc := HD
  clear HD
  have HD := Aside0.mk (HB.out.trans (hb.mono HB.out.size))
  clear HB
  have HB := HD
  clear HD
  have HD := Aside0.mk (HE.out.below hb)
  clear HE
  have HE := HD
  clear HD
  clear hb
  go_wp2_with fail
  refine (icehouselaw02_num.calls 0 0 _ FN.out).mono ?_
  rintro e w10 ⟨rfl, hb⟩
  replace hb := Sn.drawn0_below hb
  have HD := Aside0.mk (Kd.C_below HCl.out hb)
  clear HCl
  have HCl := HD
  clear HD
  have HD := Aside0.mk (Kd.C_below HCa.out hb)
  clear HCa
  have HCa := HD
  clear HD
  have HD := Aside0.mk (Kd.C_below HCp.out hb)
  clear HCp
  have HCp := HD
  clear HD
  have HD := Aside0.mk (Kd.C_below HCc.out hb)
  clear HCc
  have HCc := HD
  clear HD
  have HD := Aside0.mk (HB.out.trans (hb.mono HB.out.size))
  clear HB
  have HB := HD
  clear HD
  have HD := Aside0.mk (HE.out.below hb)
  clear HE
  have HE := HD
  clear HD
  clear hb
  go_wp2_with fail
  refine (icehouselaw02_Same.calls k Aa ca l Al cl l true _ HCa.out HKa.out HCl.out HKl.out FS.out).mono ?_
  rintro e w11 ⟨rfl, hb⟩
  replace hb := Sn.drawn0_below hb
  have HD := Aside0.mk (Kd.C_below HCl.out hb)
  clear HCl
  have HCl := HD
  clear HD
  have HD := Aside0.mk (Kd.C_below HCa.out hb)
  clear HCa
  have HCa := HD
  clear HD
  have HD := Aside0.mk (Kd.C_below HCp.out hb)
  clear HCp
  have HCp := HD
  clear HD
  have HD := Aside0.mk (Kd.C_below HCc.out hb)
  clear HCc
  have HCc := HD
  clear HD
  have HD := Aside0.mk (HB.out.trans (hb.mono HB.out.size))
  clear HB
  have HB := HD
  clear HD
  have HD := Aside0.mk (HE.out.below hb)
  clear HE
  have HE := HD
  clear HD
  clear hb
  go_wp2_with fail
  refine (icehouselaw02_Same.calls k Ac cc l Al cl l true _ HCc.out HKc.out HCl.out HKl.out FS.out).mono ?_
  rintro e w12 ⟨rfl, hb⟩
  replace hb := Sn.drawn0_below hb
  have HD := Aside0.mk (Kd.C_below HCl.out hb)
  clear HCl
  have HCl := HD
  clear HD
  have HD := Aside0.mk (Kd.C_below HCa.out hb)
  clear HCa
  have HCa := HD
  clear HD
  have HD := Aside0.mk (Kd.C_below HCp.out hb)
  clear HCp
  have HCp := HD
  clear HD
  have HD := Aside0.mk (Kd.C_below HCc.out hb)
  clear HCc
  have HCc := HD
  clear HD
  have HD := Aside0.mk (HB.out.trans (hb.mono HB.out.size))
  clear HB
  have HB := HD
  clear HD
  have HD := Aside0.mk (HE.out.below hb)
  clear HE
  have HE := HD
  clear HD
  clear hb
  go_wp2_with fail
  refine (icehouselaw02_knows.calls k true _ FK.out HE.out).mono ?_
  rintro e w13 ⟨rfl, hb⟩
  have HD := Aside0.mk (Kd.C_below HCl.out hb)
  clear HCl
  have HCl := HD
  clear HD
  have HD := Aside0.mk (Kd.C_below HCa.out hb)
  clear HCa
  have HCa := HD
  clear HD
  have HD := Aside0.mk (Kd.C_below HCp.out hb)
  clear HCp
  have HCp := HD
  clear HD
  have HD := Aside0.mk (Kd.C_below HCc.out hb)
  clear HCc
  have HCc := HD
  clear HD
  have HD := Aside0.mk (HB.out.trans (hb.mono HB.out.size))
  clear HB
  have HB := HD
  clear HD
  have HD := Aside0.mk (HE.out.below hb)
  clear HE
  have HE := HD
  clear HD
  clear hb
  go_wp2
  go_ret
  exact ⟨rfl, HB.out⟩
set_option maxHeartbeats 8000000 in
set_option maxRecDepth 100000 in
theorem back_qn (k : Nat) (Al : Option Addr) (cl : Nat) (l : List S47) (s more t pt : ByteArray) (eb : List Int) (w : World) (HCl : Aside0 (Kd.C k47 w Al l.length l)) (HKl : Aside0 (l.length ≤ cl)) (HE : Aside0 (Env w))
    (FK : Aside0 (icehouselaw02_knows.f k = some true)) (FQ : Aside0 (label_Quote.f s = some t)) (FR : Aside0 (label_Right.f k l = some false)) (FP : Aside0 (label_Print.f k l = some ⟨#[]⟩)) (FU : Aside0 (label_Unquote.f (t ++ more) = some (s, (t.size : Int), true))) (ht : t.toList = [] ↔ False) (hte : t.toList.isEmpty = false) (htz : t.size + more.size ≤ 100000000) (hz1 : (9223372036854775807 < t.size + more.size) = False) :
    Calls Tryz.prog 10 #[.slice Al l.length cl, .string s, .string more] w fun e w' => e = .returned (.bool true) ∧ Below w.heap.size w w' := by
  have HB := Aside0.mk (Below.refl w.heap.size w)
  have FN : Aside0 (icehouselaw02_num.f 0 = some 0) := ⟨rfl⟩
  go_enter Tryz.func10, Tryz.ntmps10
  go_wp2_with fail
  refine (label_Quote.calls s t _ FQ.out HE.out).mono ?_
  rintro e w1 ⟨rfl, hb⟩
  have HD := Aside0.mk (Kd.C_below HCl.out hb)
  clear HCl
  have HCl := HD
  clear HD
  have HD := Aside0.mk (HB.out.trans (hb.mono HB.out.size))
  clear HB
  have HB := HD
  clear HD
  have HD := Aside0.mk (HE.out.below hb)
  clear HE
  have HE := HD
  clear HD
  clear hb
  go_wp2_with fail
  refine (label_Unquote.calls (t ++ more) s (t.size : Int) true _ FU.out HE.out).mono ?_
  rintro e w2 ⟨rfl, hb⟩
  have HD := Aside0.mk (Kd.C_below HCl.out hb)
  clear HCl
  have HCl := HD
  clear HD
  have HD := Aside0.mk (HB.out.trans (hb.mono HB.out.size))
  clear HB
  have HB := HD
  clear HD
  have HD := Aside0.mk (HE.out.below hb)
  clear HE
  have HE := HD
  clear HD
  clear hb
  go_wp2_with fail
  refine (label_Right.calls k Al cl l false _ HCl.out HKl.out FR.out HE.out).mono ?_
  rintro e w3 ⟨rfl, hb⟩
  have HD := Aside0.mk (Kd.C_below HCl.out hb)
  clear HCl
  have HCl := HD
  clear HD
  have HD := Aside0.mk (HB.out.trans (hb.mono HB.out.size))
  clear HB
  have HB := HD
  clear HD
  have HD := Aside0.mk (HE.out.below hb)
  clear HE
  have HE := HD
  clear HD
  clear hb
  go_wp2_with fail
  refine (label_Print.calls k Al cl l ⟨#[]⟩ _ HCl.out HKl.out FP.out HE.out).mono ?_
  rintro e w4 ⟨rfl, hb⟩
  have HD := Aside0.mk (Kd.C_below HCl.out hb)
  clear HCl
  have HCl := HD
  clear HD
  have HD := Aside0.mk (HB.out.trans (hb.mono HB.out.size))
  clear HB
  have HB := HD
  clear HD
  have HD := Aside0.mk (HE.out.below hb)
  clear HE
  have HE := HD
  clear HD
  clear hb
  go_wp2_with fail
  refine (icehouselaw02_knows.calls k true _ FK.out HE.out).mono ?_
  rintro e w5 ⟨rfl, hb⟩
  have HD := Aside0.mk (Kd.C_below HCl.out hb)
  clear HCl
  have HCl := HD
  clear HD
  have HD := Aside0.mk (HB.out.trans (hb.mono HB.out.size))
  clear HB
  have HB := HD
  clear HD
  have HD := Aside0.mk (HE.out.below hb)
  clear HE
  have HE := HD
  clear HD
  clear hb
  go_wp2
  go_ret
  exact ⟨rfl, HB.out⟩
set_option maxHeartbeats 8000000 in
set_option maxRecDepth 100000 in
theorem back_nr (k : Nat) (Al : Option Addr) (cl : Nat) (l : List S47) (s more t pt : ByteArray) (eb : List Int) (w : World) (HCl : Aside0 (Kd.C k47 w Al l.length l)) (HKl : Aside0 (l.length ≤ cl)) (HE : Aside0 (Env w))
    (FK : Aside0 (icehouselaw02_knows.f k = some true)) (FQ : Aside0 (label_Quote.f s = some t)) (FR : Aside0 (label_Right.f k l = some true)) (FP : Aside0 (label_Print.f k l = some pt)) (ht : t.toList = [] ↔ True) (hte : t.toList.isEmpty = true) (FA : Aside0 (label_Parse.f k pt = some (l, 0))) (FS : Aside0 (icehouselaw02_Same.f k l l = some true)) (HX1 : Aside0 (∀ A c w, Kd.C k47 w A l.length l → l.length ≤ c → Env w → Calls Tryz.prog 35 #[.slice A l.length c] w fun e w' => ∃ v, e = .returned (.tuple #[v, .int .i64 0]) ∧ Kd.R (Kd.int .u8) 5 w' w.heap.size (fun _ => True) v eb ∧ Below w.heap.size w w')) (HX2 : Aside0 (∀ A c w, (Kd.int .u8).C w A eb.length eb → eb.length ≤ c → Env w → Calls Tryz.prog 38 #[.slice A eb.length c] w fun e w' => ∃ v, e = .returned (.tuple #[v, .int .i64 0]) ∧ Kd.R k47 47 w' w.heap.size (fun _ => True) v l ∧ Below w.heap.size w w')) :
    Calls Tryz.prog 10 #[.slice Al l.length cl, .string s, .string more] w fun e w' => e = .returned (.bool true) ∧ Below w.heap.size w w' := by
  have HB := Aside0.mk (Below.refl w.heap.size w)
  have FN : Aside0 (icehouselaw02_num.f 0 = some 0) := ⟨rfl⟩
  go_enter Tryz.func10, Tryz.ntmps10
  go_wp2_with fail
  refine (label_Quote.calls s t _ FQ.out HE.out).mono ?_
  rintro e w1 ⟨rfl, hb⟩
  have HD := Aside0.mk (Kd.C_below HCl.out hb)
  clear HCl
  have HCl := HD
  clear HD
  have HD := Aside0.mk (HB.out.trans (hb.mono HB.out.size))
  clear HB
  have HB := HD
  clear HD
  have HD := Aside0.mk (HE.out.below hb)
  clear HE
  have HE := HD
  clear HD
  clear hb
  go_wp2_with fail
  refine (label_Right.calls k Al cl l true _ HCl.out HKl.out FR.out HE.out).mono ?_
  rintro e w2 ⟨rfl, hb⟩
  have HD := Aside0.mk (Kd.C_below HCl.out hb)
  clear HCl
  have HCl := HD
  clear HD
  have HD := Aside0.mk (HB.out.trans (hb.mono HB.out.size))
  clear HB
  have HB := HD
  clear HD
  have HD := Aside0.mk (HE.out.below hb)
  clear HE
  have HE := HD
  clear HD
  clear hb
  go_wp2_with fail
  refine (label_Print.calls k Al cl l pt _ HCl.out HKl.out FP.out HE.out).mono ?_
  rintro e w3 ⟨rfl, hb⟩
  have HD := Aside0.mk (Kd.C_below HCl.out hb)
  clear HCl
  have HCl := HD
  clear HD
  have HD := Aside0.mk (HB.out.trans (hb.mono HB.out.size))
  clear HB
  have HB := HD
  clear HD
  have HD := Aside0.mk (HE.out.below hb)
  clear HE
  have HE := HD
  clear HD
  clear hb
  go_wp2_with fail
  refine (label_Parse.calls k pt l 0 _ FA.out HE.out).mono ?_
  rintro e w4 ⟨v0, rfl, hr, hb⟩
  obtain ⟨Aa, ca, rfl⟩ := Kd.R_slice hr
  obtain ⟨_, hk, hC⟩ := Kd.R_reads' hr
  have HD := Aside0.mk (Kd.C_below HCl.out hb)
  clear HCl
  have HCl := HD
  clear HD
  have HD := Aside0.mk (HB.out.trans (hb.mono HB.out.size))
  clear HB
  have HB := HD
  clear HD
  have HD := Aside0.mk (HE.out.below hb)
  clear HE
  have HE := HD
  clear HD
  clear hb
  have HCa := Aside0.mk hC
  have HKa := Aside0.mk hk
  clear hr hC hk
  go_wp2_with fail
  refine (HX1.out Al cl _ HCl.out HKl.out HE.out).mono ?_
  rintro e w5 ⟨v0, rfl, hr, hb⟩
  obtain ⟨Ap, cp, rfl⟩ := Kd.R_slice hr
  obtain ⟨_, hk, hC⟩ := Kd.R_reads' hr
  have HD := Aside0.mk (Kd.C_below HCl.out hb)
  clear HCl
  have HCl := HD
  clear HD
  have HD := Aside0.mk (Kd.C_below HCa.out hb)
  clear HCa
  have HCa := HD
  clear HD
  have HD := Aside0.mk (HB.out.trans (hb.mono HB.out.size))
  clear HB
  have HB := HD
  clear HD
  have HD := Aside0.mk (HE.out.below hb)
  clear HE
  have HE := HD
  clear HD
  clear hb
  have HCp := Aside0.mk hC
  have HKp := Aside0.mk hk
  clear hr hC hk
  go_wp2_with fail
  refine (HX2.out Ap cp _ HCp.out HKp.out HE.out).mono ?_
  rintro e w6 ⟨v0, rfl, hr, hb⟩
  obtain ⟨Ac, cc, rfl⟩ := Kd.R_slice hr
  obtain ⟨_, hk, hC⟩ := Kd.R_reads' hr
  have HD := Aside0.mk (Kd.C_below HCl.out hb)
  clear HCl
  have HCl := HD
  clear HD
  have HD := Aside0.mk (Kd.C_below HCa.out hb)
  clear HCa
  have HCa := HD
  clear HD
  have HD := Aside0.mk (Kd.C_below HCp.out hb)
  clear HCp
  have HCp := HD
  clear HD
  have HD := Aside0.mk (HB.out.trans (hb.mono HB.out.size))
  clear HB
  have HB := HD
  clear HD
  have HD := Aside0.mk (HE.out.below hb)
  clear HE
  have HE := HD
  clear HD
  clear hb
  have HCc := Aside0.mk hC
  have HKc := Aside0.mk hk
  clear hr hC hk
  go_wp2_with fail
  refine (icehouselaw02_num.calls 0 0 _ FN.out).mono ?_
  rintro e w7 ⟨rfl, hb⟩
  replace hb := Sn.drawn0_below hb
  have HD := Aside0.mk (Kd.C_below HCl.out hb)
  clear HCl
  have HCl := HD
  clear HD
  have HD := Aside0.mk (Kd.C_below HCa.out hb)
  clear HCa
  have HCa := HD
  clear HD
  have HD := Aside0.mk (Kd.C_below HCp.out hb)
  clear HCp
  have HCp := HD
  clear HD
  have HD := Aside0.mk (Kd.C_below HCc.out hb)
  clear HCc
  have HCc := HD
  clear HD
  have HD := Aside0.mk (HB.out.trans (hb.mono HB.out.size))
  clear HB
  have HB := HD
  clear HD
  have HD := Aside0.mk (HE.out.below hb)
  clear HE
  have HE := HD
  clear HD
  clear hb
  go_wp2_with fail
  refine (icehouselaw02_num.calls 0 0 _ FN.out).mono ?_
  rintro e w8 ⟨rfl, hb⟩
  replace hb := Sn.drawn0_below hb
  have HD := Aside0.mk (Kd.C_below HCl.out hb)
  clear HCl
  have HCl := HD
  clear HD
  have HD := Aside0.mk (Kd.C_below HCa.out hb)
  clear HCa
  have HCa := HD
  clear HD
  have HD := Aside0.mk (Kd.C_below HCp.out hb)
  clear HCp
  have HCp := HD
  clear HD
  have HD := Aside0.mk (Kd.C_below HCc.out hb)
  clear HCc
  have HCc := HD
  clear HD
  have HD := Aside0.mk (HB.out.trans (hb.mono HB.out.size))
  clear HB
  have HB := HD
  clear HD
  have HD := Aside0.mk (HE.out.below hb)
  clear HE
  have HE := HD
  clear HD
  clear hb
  go_wp2_with fail
  refine (icehouselaw02_num.calls 0 0 _ FN.out).mono ?_
  rintro e w9 ⟨rfl, hb⟩
  replace hb := Sn.drawn0_below hb
  have HD := Aside0.mk (Kd.C_below HCl.out hb)
  clear HCl
  have HCl := HD
  clear HD
  have HD := Aside0.mk (Kd.C_below HCa.out hb)
  clear HCa
  have HCa := HD
  clear HD
  have HD := Aside0.mk (Kd.C_below HCp.out hb)
  clear HCp
  have HCp := HD
  clear HD
  have HD := Aside0.mk (Kd.C_below HCc.out hb)
  clear HCc
  have HCc := HD
  clear HD
  have HD := Aside0.mk (HB.out.trans (hb.mono HB.out.size))
  clear HB
  have HB := HD
  clear HD
  have HD := Aside0.mk (HE.out.below hb)
  clear HE
  have HE := HD
  clear HD
  clear hb
  go_wp2_with fail
  refine (icehouselaw02_Same.calls k Aa ca l Al cl l true _ HCa.out HKa.out HCl.out HKl.out FS.out).mono ?_
  rintro e w10 ⟨rfl, hb⟩
  replace hb := Sn.drawn0_below hb
  have HD := Aside0.mk (Kd.C_below HCl.out hb)
  clear HCl
  have HCl := HD
  clear HD
  have HD := Aside0.mk (Kd.C_below HCa.out hb)
  clear HCa
  have HCa := HD
  clear HD
  have HD := Aside0.mk (Kd.C_below HCp.out hb)
  clear HCp
  have HCp := HD
  clear HD
  have HD := Aside0.mk (Kd.C_below HCc.out hb)
  clear HCc
  have HCc := HD
  clear HD
  have HD := Aside0.mk (HB.out.trans (hb.mono HB.out.size))
  clear HB
  have HB := HD
  clear HD
  have HD := Aside0.mk (HE.out.below hb)
  clear HE
  have HE := HD
  clear HD
  clear hb
  go_wp2_with fail
  refine (icehouselaw02_Same.calls k Ac cc l Al cl l true _ HCc.out HKc.out HCl.out HKl.out FS.out).mono ?_
  rintro e w11 ⟨rfl, hb⟩
  replace hb := Sn.drawn0_below hb
  have HD := Aside0.mk (Kd.C_below HCl.out hb)
  clear HCl
  have HCl := HD
  clear HD
  have HD := Aside0.mk (Kd.C_below HCa.out hb)
  clear HCa
  have HCa := HD
  clear HD
  have HD := Aside0.mk (Kd.C_below HCp.out hb)
  clear HCp
  have HCp := HD
  clear HD
  have HD := Aside0.mk (Kd.C_below HCc.out hb)
  clear HCc
  have HCc := HD
  clear HD
  have HD := Aside0.mk (HB.out.trans (hb.mono HB.out.size))
  clear HB
  have HB := HD
  clear HD
  have HD := Aside0.mk (HE.out.below hb)
  clear HE
  have HE := HD
  clear HD
  clear hb
  go_wp2_with fail
  refine (icehouselaw02_knows.calls k true _ FK.out HE.out).mono ?_
  rintro e w12 ⟨rfl, hb⟩
  have HD := Aside0.mk (Kd.C_below HCl.out hb)
  clear HCl
  have HCl := HD
  clear HD
  have HD := Aside0.mk (Kd.C_below HCa.out hb)
  clear HCa
  have HCa := HD
  clear HD
  have HD := Aside0.mk (Kd.C_below HCp.out hb)
  clear HCp
  have HCp := HD
  clear HD
  have HD := Aside0.mk (Kd.C_below HCc.out hb)
  clear HCc
  have HCc := HD
  clear HD
  have HD := Aside0.mk (HB.out.trans (hb.mono HB.out.size))
  clear HB
  have HB := HD
  clear HD
  have HD := Aside0.mk (HE.out.below hb)
  clear HE
  have HE := HD
  clear HD
  clear hb
  go_wp2
  go_ret
  exact ⟨rfl, HB.out⟩
set_option maxHeartbeats 8000000 in
set_option maxRecDepth 100000 in
theorem back_nn (k : Nat) (Al : Option Addr) (cl : Nat) (l : List S47) (s more t pt : ByteArray) (eb : List Int) (w : World) (HCl : Aside0 (Kd.C k47 w Al l.length l)) (HKl : Aside0 (l.length ≤ cl)) (HE : Aside0 (Env w))
    (FK : Aside0 (icehouselaw02_knows.f k = some true)) (FQ : Aside0 (label_Quote.f s = some t)) (FR : Aside0 (label_Right.f k l = some false)) (FP : Aside0 (label_Print.f k l = some ⟨#[]⟩)) (ht : t.toList = [] ↔ True) (hte : t.toList.isEmpty = true) :
    Calls Tryz.prog 10 #[.slice Al l.length cl, .string s, .string more] w fun e w' => e = .returned (.bool true) ∧ Below w.heap.size w w' := by
  have HB := Aside0.mk (Below.refl w.heap.size w)
  have FN : Aside0 (icehouselaw02_num.f 0 = some 0) := ⟨rfl⟩
  go_enter Tryz.func10, Tryz.ntmps10
  go_wp2_with fail
  refine (label_Quote.calls s t _ FQ.out HE.out).mono ?_
  rintro e w1 ⟨rfl, hb⟩
  have HD := Aside0.mk (Kd.C_below HCl.out hb)
  clear HCl
  have HCl := HD
  clear HD
  have HD := Aside0.mk (HB.out.trans (hb.mono HB.out.size))
  clear HB
  have HB := HD
  clear HD
  have HD := Aside0.mk (HE.out.below hb)
  clear HE
  have HE := HD
  clear HD
  clear hb
  go_wp2_with fail
  refine (label_Right.calls k Al cl l false _ HCl.out HKl.out FR.out HE.out).mono ?_
  rintro e w2 ⟨rfl, hb⟩
  have HD := Aside0.mk (Kd.C_below HCl.out hb)
  clear HCl
  have HCl := HD
  clear HD
  have HD := Aside0.mk (HB.out.trans (hb.mono HB.out.size))
  clear HB
  have HB := HD
  clear HD
  have HD := Aside0.mk (HE.out.below hb)
  clear HE
  have HE := HD
  clear HD
  clear hb
  go_wp2_with fail
  refine (label_Print.calls k Al cl l ⟨#[]⟩ _ HCl.out HKl.out FP.out HE.out).mono ?_
  rintro e w3 ⟨rfl, hb⟩
  have HD := Aside0.mk (Kd.C_below HCl.out hb)
  clear HCl
  have HCl := HD
  clear HD
  have HD := Aside0.mk (HB.out.trans (hb.mono HB.out.size))
  clear HB
  have HB := HD
  clear HD
  have HD := Aside0.mk (HE.out.below hb)
  clear HE
  have HE := HD
  clear HD
  clear hb
  go_wp2_with fail
  refine (icehouselaw02_knows.calls k true _ FK.out HE.out).mono ?_
  rintro e w4 ⟨rfl, hb⟩
  have HD := Aside0.mk (Kd.C_below HCl.out hb)
  clear HCl
  have HCl := HD
  clear HD
  have HD := Aside0.mk (HB.out.trans (hb.mono HB.out.size))
  clear HB
  have HB := HD
  clear HD
  have HD := Aside0.mk (HE.out.below hb)
  clear HE
  have HE := HD
  clear HD
  clear hb
  go_wp2
  go_ret
  exact ⟨rfl, HB.out⟩
theorem walkK (Al : Option Addr) (cl : Nat) (l : List S47) (s more : ByteArray) (w : World) (hr : Kd.C k47 w Al l.length l) (hc : l.length ≤ cl) (hf : l.length ≤ 1048576 ∧ ∀ x ∈ l, x.f0.size ≤ 1048576 ∧ x.f1.size ≤ 1048576) (hs : s.size ≤ 1048576) (hm : more.size ≤ 1048576) (hE : Env w) :
    Calls Tryz.prog 10 #[.slice Al l.length cl, .string s, .string more] w fun e w' => e = .returned (.bool true) ∧ Below w.heap.size w w' := by
  obtain ⟨k, hk⟩ : ∃ k, k = 3000000 := ⟨_, rfl⟩
  have FK : Aside0 (icehouselaw02_knows.f k = some true) := ⟨Uk.knows_k _ (by omega)⟩
  have hq := Lp.quote_len s
  obtain ⟨t, ht⟩ : ∃ t : ByteArray, t = ⟨(Sq.quoteL s).toArray⟩ := ⟨_, rfl⟩
  have htl : t.toList = Sq.quoteL s := by rw [ht, Lib.toList_data]
  have hts : t.size = (Sq.quoteL s).length := by rw [ht, Lq.bs_size]
  have FQ : Aside0 (label_Quote.f s = some t) := ⟨by rw [ht]; exact if_pos (by show s.size ≤ _; omega)⟩
  have hrr := Lr.lright_eq l k (by omega) (fun x hx => by have := hf.2 x hx; omega) (by omega)
  have FS : Aside0 (icehouselaw02_Same.f k l l = some true) := ⟨by have := Lc.same_eq l l k (by omega) (by omega) (by omega); rw [Lc.good_ll.refl] at this; exact this⟩
  have hpn : Lr.rightB l = false → label_Print.f k l = some ⟨#[]⟩ := fun h => by
    unfold label_Print.f
    rw [hrr, h]
    rfl
  have hx1 : Lr.rightB l = true → ∀ A c w, Kd.C k47 w A l.length l → l.length ≤ c → Env w → Calls Tryz.prog 35 #[.slice A l.length c] w fun e w' => ∃ v, e = .returned (.tuple #[v, .int .i64 0]) ∧ Kd.R (Kd.int .u8) 5 w' w.heap.size (fun _ => True) v (Bw.encL l) ∧ Below w.heap.size w w' := fun h A c w a b e => by
    have := Bw.lbytes_calls A c l w a b hf.1 hf.2 e
    rw [h] at this
    exact this
  have hx2 : Lr.rightB l = true → ∀ A c w, (Kd.int .u8).C w A (Bw.encL l).length (Bw.encL l) → (Bw.encL l).length ≤ c → Env w → Calls Tryz.prog 38 #[.slice A (Bw.encL l).length c] w fun e w' => ∃ v, e = .returned (.tuple #[v, .int .i64 0]) ∧ Kd.R k47 47 w' w.heap.size (fun _ => True) v l ∧ Below w.heap.size w w' := fun h A c w a b e => by
    have := Rw.lread_calls A c (Bw.encL l) w a b (by have := Lz.encL_len l h; omega) (Lz.encL_byts l h) e
    rw [Lz.read_enc_l l h] at this
    exact this
  by_cases hv : Lib.validD s.data.toList = true
  · obtain ⟨q, hq2⟩ := Lz.quote_ne s hv
    have h1 : t.toList = [] ↔ False := by rw [htl, hq2]; simp
    have h2 : t.toList.isEmpty = false := by rw [htl, hq2]; rfl
    have h3 : (9223372036854775807 < t.size + more.size) = False := by simp; omega
    have FU : Aside0 (label_Unquote.f (t ++ more) = some (s, (t.size : Int), true)) := ⟨by
      have e : (t ++ more).data.toList = Sq.quoteL s ++ more.data.toList := by rw [Lp.app_list, ht]
      unfold label_Unquote.f
      rw [if_pos (by show (t ++ more).size ≤ _; rw [ByteArray.size_append]; omega), e, Lz.unq_quote s _ hv, hts]⟩
    cases hb : Lr.rightB l with
    | true =>
      obtain ⟨pt, hp1, hp2⟩ := Lz.parse_print l hb k (by omega)
      exact back_qr k Al cl l s more t pt (Bw.encL l) w ⟨hr⟩ ⟨hc⟩ ⟨hE⟩ FK FQ ⟨by rw [hrr, hb]⟩ ⟨hp1⟩ FU h1 h2 (by omega) h3 ⟨hp2⟩ FS ⟨hx1 hb⟩ ⟨hx2 hb⟩
    | false => exact back_qn k Al cl l s more t t [] w ⟨hr⟩ ⟨hc⟩ ⟨hE⟩ FK FQ ⟨by rw [hrr, hb]⟩ ⟨hpn hb⟩ FU h1 h2 (by omega) h3
  · have hq0 : Sq.quoteL s = [] := by unfold Sq.quoteL; rw [if_neg hv]
    have h1 : t.toList = [] ↔ True := by rw [htl, hq0]; simp
    have h2 : t.toList.isEmpty = true := by rw [htl, hq0]; rfl
    cases hb : Lr.rightB l with
    | true =>
      obtain ⟨pt, hp1, hp2⟩ := Lz.parse_print l hb k (by omega)
      exact back_nr k Al cl l s more t pt (Bw.encL l) w ⟨hr⟩ ⟨hc⟩ ⟨hE⟩ FK FQ ⟨by rw [hrr, hb]⟩ ⟨hp1⟩ h1 h2 ⟨hp2⟩ FS ⟨hx1 hb⟩ ⟨hx2 hb⟩
    | false => exact back_nn k Al cl l s more t t [] w ⟨hr⟩ ⟨hc⟩ ⟨hE⟩ FK FQ ⟨by rw [hrr, hb]⟩ ⟨hpn hb⟩ h1 h2
end Go.Proofs.YtgafnjgiikdofaaGreatDoor.Lk
