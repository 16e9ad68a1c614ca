/- LabelBytes: labels as bytes, bytes as labels, against the document's. -/
import Derived.Test.YtgafnjgiikdofaaGreatDoorRy
import Derived.Test.YtgafnjgiikdofaaGreatDoorBw
import Derived.Test.YtgafnjgiikdofaaGreatDoorLc
namespace Go.Proofs.YtgafnjgiikdofaaGreatDoor.Lb
set_option linter.unusedVariables false
set_option linter.unusedSimpArgs false
open Go.RowKit Go.Proofs.YtgafnjgiikdofaaGreatDoor.A Go.Proofs.YtgafnjgiikdofaaGreatDoor.R Go.Proofs.YtgafnjgiikdofaaGreatDoor.Sx Go.Proofs.YtgafnjgiikdofaaGreatDoor.Sc Go.Proofs.YtgafnjgiikdofaaGreatDoor.Lc Go.Proofs.YtgafnjgiikdofaaGreatDoor.Lr Go.Proofs.YtgafnjgiikdofaaGreatDoor.Bw Go.Proofs.YtgafnjgiikdofaaGreatDoor.Rw Go.Proofs.YtgafnjgiikdofaaGreatDoor.Ry Go.Proofs.YtgafnjgiikdofaaGreatDoor.Xt Go.Proofs.YtgafnjgiikdofaaGreatDoor.Xd Go.Proofs.YtgafnjgiikdofaaGreatDoor.Xc
open Go.Proofs.YtgafnjgiikdofaaGreatDoorW.PrintWords Go.Proofs.YtgafnjgiikdofaaGreatDoorW.PrintLast Go.Proofs.YtgafnjgiikdofaaGreatDoorW.PrintMore
theorem rbytes_is (n : Nat) (h : n ≤ 1048576) (k : Nat) (hk : 8 ≤ k) : icehouseref01_Bytes.f k (n : Int) = some (enc 7 (n : Int)) := by
  have := ref_bytes 7 k (n : Int) [] (by omega) (by omega) (by omega) (by omega) (by simp)
  simpa [icehouseref01_Bytes.f] using this
theorem rtextb_is (s : ByteArray) (h : s.size ≤ 1048576) (k : Nat) (hk : 8 ≤ k) : icehouseref01_TextBytes.f k s = some (eS s) := by
  unfold icehouseref01_TextBytes.f
  rw [rbytes_is s.size h k hk]
  have := enc_len 7 (s.size : Int)
  simp only [Option.bind_some]
  rw [if_pos (by omega)]
  rfl
theorem bytesOf_l (l : List S47) (hl : l.length ≤ 16) (hf : ∀ x ∈ l, x.f0.size ≤ 128 ∧ x.f1.size ≤ 128) : ∀ m k acc i, i + m = l.length → m + 9 ≤ k → acc.length ≤ 8 + i * 272 → icehouseref02_BytesOf.l0 k l acc (i : Int) = some (acc ++ ((l.drop i).map eX).flatten) := by
  intro m
  induction m with
  | zero =>
    intro k acc i h1 h2 h3
    obtain ⟨k, rfl⟩ : ∃ j, k = j + 1 := ⟨k - 1, by omega⟩
    rw [icehouseref02_BytesOf.l0, if_neg (by omega), List.drop_eq_nil_of_le (by omega)]
    simp
  | succ m ih =>
    intro k acc i h1 h2 h3
    obtain ⟨k, rfl⟩ : ∃ j, k = j + 1 := ⟨k - 1, by omega⟩
    have hw : wrap64 ((i : Int) + 1) = ((i + 1 : Nat) : Int) := w64' i (by omega)
    have hm := hf _ (rd_mem l i (by omega))
    have e0 := eS_len (rd_T47 l (i : Int)).f0
    have e1 := eS_len (rd_T47 l (i : Int)).f1
    have hi : i * 272 ≤ 16 * 272 := Nat.mul_le_mul_right _ (by omega)
    rw [icehouseref02_BytesOf.l0, if_pos (by omega), if_pos (by omega), rtextb_is _ (by omega) k (by omega)]
    simp only [Option.bind_some]
    rw [if_pos (by omega), rtextb_is _ (by omega) k (by omega)]
    simp only [Option.bind_some]
    rw [if_pos (by rw [List.length_append]; omega), hw, ih k _ (i + 1) (by omega) (by omega) (by rw [List.length_append, List.length_append, Nat.succ_mul]; omega)]
    have hd : (l.drop i).map eX = eX (rd_T47 l (i : Int)) :: (l.drop (i + 1)).map eX := by rw [rd_of l i (by omega), List.drop_eq_getElem_cons (by omega), List.map_cons]
    rw [hd]
    simp [eX, List.append_assoc]
theorem bytesOf_is (l : List S47) (hr : rightB l = true) (k : Nat) (hk : 40 ≤ k) : icehouseref02_BytesOf.f k l = some (encL l) := by
  have hs := Lp.right_small l hr
  have h16 := right_ends l _ _ hr
  unfold icehouseref02_BytesOf.f
  rw [rbytes_is l.length (by omega) k (by omega)]
  have := enc_len 7 (l.length : Int)
  have h := bytesOf_l l h16.2 hs l.length k (enc 7 (l.length : Int)) 0 (by omega) (by omega) (by omega)
  simpa [encL] using h
set_option maxHeartbeats 4000000 in
set_option maxRecDepth 100000 in
theorem rbytes_calls (A : Option Addr) (c : Nat) (l : List S47) (w : World) (hC : Kd.C k47 w A l.length l) (hc : l.length ≤ c) (hl : l.length ≤ 1048576) (hf : ∀ x ∈ l, x.f0.size ≤ 1048576 ∧ x.f1.size ≤ 1048576) :
    Calls Tryz.prog 37 #[.slice A l.length c] w fun e w' => ∃ v, e = .returned (.tuple #[v, .int .i64 (if rightB l = true then 0 else 30)]) ∧ Kd.R (Kd.int .u8) 5 w' w.heap.size (fun _ => True) v (if rightB l = true then encL l else []) ∧ Below w.heap.size w w' := by
  have hr := rright_eq l (l.length + 1048576 + 10) 1048576 (by omega) (by omega) hf (by omega)
  have HC := Aside0.mk hC
  have HK := Aside0.mk hc
  cases hb : rightB l with
  | false =>
    rw [hb] at hr
    have HR := Aside0.mk hr
    clear hr hf hb hC hc
    go_enter Tryz.func37, Tryz.ntmps37
    go_wp2_with fail
    refine (icehouseref02_Right.calls _ A c l false _ HC.out HK.out HR.out).mono ?_
    rintro e w1 ⟨rfl, hb⟩
    have HB := Aside0.mk hb
    clear hb
    go_wp2_with fail
    go_ret2
    exact ⟨_, rfl, Kd.R_nil _ _ _ _ _, HB.out⟩
  | true =>
    have HF := Aside0.mk (bytesOf_is l hb 40 (Nat.le_refl _))
    rw [hb] at hr
    have HR := Aside0.mk hr
    clear hr hf hb hC hc
    go_enter Tryz.func37, Tryz.ntmps37
    go_wp2_with fail
    refine (icehouseref02_Right.calls _ A c l true _ HC.out HK.out HR.out).mono ?_
    rintro e w1 ⟨rfl, hb⟩
    have HB := Aside0.mk hb
    have HC1 := Aside0.mk (Kd.C_below HC.out hb)
    clear hb
    go_wp2_with fail
    refine (icehouseref02_BytesOf.calls _ A c l _ _ HC1.out HK.out HF.out).mono ?_
    rintro e w2 ⟨v, rfl, hr2, hb2⟩
    have HR2 := Aside0.mk (Kd.R_lower hr2 HB.out.size)
    have HB2 := Aside0.mk (HB.out.trans (hb2.mono HB.out.size))
    clear hr2 hb2
    go_wp2
    go_ret2
    exact ⟨_, rfl, by simpa using HR2.out, HB2.out⟩
theorem wf8 {l : List Int} (h : ∀ n ∈ l, (Lit.int .u8 n).wf = true) : Byts l := by
  intro n hn
  have hw := h n hn
  have h1 : IntKind.u8.min = 0 := by decide
  have h2 : IntKind.u8.max = 255 := by decide
  simp [Lit.wf, h1, h2] at hw
  omega
theorem lent_C {w : World} {base : Nat} {A : Option Addr} {c : Nat} {l : List Int} (h : LentV w base A c l) : (Kd.int .u8).C w A l.length l ∧ l.length ≤ c := by
  obtain ⟨hc, hR⟩ := h
  have hn0 : (l ++ [77, 78]).length = l.length + 2 := by simp
  obtain ⟨_, _, hCx⟩ := Kd.R_reads' hR
  have hT := Kd.C_take (m := l.length) (xs := l ++ [77, 78]) hCx (by simp)
  have ht : (l ++ [77, 78]).take l.length = l := by simp
  rw [ht] at hT
  exact ⟨hT, by omega⟩
theorem lent_below {w w1 : World} {base : Nat} {A : Option Addr} {c : Nat} {l : List Int} (h : LentV w base A c l) (hb : Below w.heap.size w w1) : LentV w1 base A c l := ⟨h.1, Kd.R_below h.2 hb⟩
set_option maxHeartbeats 8000000 in
set_option maxRecDepth 100000 in
theorem walkB (Al : Option Addr) (cl : Nat) (l : List S47) (Ab : Option Addr) (cb : Nat) (bl : List Int) (w : World) (hr : Kd.C k47 w Al l.length l) (hc : l.length ≤ cl) (hf : l.length ≤ 1048576 ∧ ∀ x ∈ l, x.f0.size ≤ 1048576 ∧ x.f1.size ≤ 1048576) (hr1 : (Kd.int .u8).C w Ab bl.length bl) (hc1 : bl.length ≤ cb) (hl : bl.length ≤ 1048576) (hby : Byts bl) (hE : Env w) :
    Calls Tryz.prog 9 #[.slice Al l.length cl, .slice Ab bl.length cb] w fun e w' => e = .returned (.bool true) ∧ Below w.heap.size w w' := by
  obtain ⟨k, hk⟩ : ∃ k, k = 3000000 := ⟨_, rfl⟩
  have F0 := Aside0.mk hl
  have F1 := Aside0.mk (own_eq l (by omega))
  have F2 := Aside0.mk hf
  have F3 := Aside0.mk hby
  have hfit := readR_fit bl
  have hlen : (readL bl).1.length ≤ 17 := by unfold readL; split; exact hfit.1; simp
  have p5 := same_eq (readL bl).1 (readL bl).1 k (by omega) (by omega) (by omega)
  rw [good_ll.refl] at p5
  have F5 : Aside0 (icehouselaw02_Same.f k (readL bl).1 (readL bl).1 = some true) := ⟨p5⟩
  have F6 : Aside0 (icehouselaw02_num.f (readL bl).2 = some (readL bl).2) := ⟨rfl⟩
  have F7 : Aside0 (icehouselaw02_knows.f k = some true) := ⟨Uk.knows_k _ (by omega)⟩
  have lbytes_calls := fun Ax cx w a b c => lbytes_calls Ax cx l w a b hf.1 hf.2 c
  have rbytes_calls := fun Ax cx w a b => rbytes_calls Ax cx l w a b hf.1 hf.2
  have lread_calls := fun Ax cx w a b c => lread_calls Ax cx bl w a b (by omega) hby c
  have rread_calls := fun Ax cx w a b => rread_calls Ax cx bl w a b (by omega) hby
  generalize (if rightB l = true then (0 : Int) else 30) = ec at lbytes_calls rbytes_calls
  generalize (if rightB l = true then encL l else []) = eb at lbytes_calls rbytes_calls
  generalize (readL bl).1 = r1 at lread_calls rread_calls F5
  generalize (readL bl).2 = r2 at lread_calls rread_calls F6
  have F4 : Aside0 (icehouselaw02_num.f ec = some ec) := ⟨rfl⟩
  have HX1 := Aside0.mk lbytes_calls
  have HX2 := Aside0.mk rbytes_calls
  have HX3 := Aside0.mk lread_calls
  have HX4 := Aside0.mk rread_calls
  have HCl := Aside0.mk hr
  have HKl := Aside0.mk hc
  have HCb := Aside0.mk hr1
  have HKb := Aside0.mk hc1
  have HB := Aside0.mk (Below.refl w.heap.size w)
  have HE := Aside0.mk hE
  clear lbytes_calls rbytes_calls lread_calls rread_calls hk hr hc hf hr1 hc1 hl hby hE hfit hlen p5
  go_enter Tryz.func9, Tryz.ntmps9
  go_wp2_with fail
  refine (lent_is Ab cb bl _ HCb.out (by have := F0.out; omega)).mono ?_
  rintro e w0 ⟨Aw, cw, rfl, hL, hb⟩
  have HV := Aside0.mk hL
  obtain ⟨hw1, hw2⟩ := lent_C hL
  clear hL
  have HD := Aside0.mk (Kd.C_below HCl.out hb)
  clear HCl
  have HCl := HD
  clear HD
  have HD := Aside0.mk (Kd.C_below HCb.out hb)
  clear HCb
  have HCb := HD
  clear HD
  have HD := Aside0.mk (HB.out.trans (hb.mono HB.out.size))
  clear HB
  have HB := HD
  clear HD
  have HD := Aside0.mk (HE.out.below hb)
  clear HE
  have HE := HD
  clear HD
  clear hb
  have HCw := Aside0.mk hw1
  have HKw := Aside0.mk hw2
  clear hw1 hw2
  go_wp2_with fail
  refine (icehouselaw02_Own.calls Al cl l l _ HCl.out HKl.out F1.out).mono ?_
  rintro e w1 ⟨v0, rfl, hr, hb⟩
  obtain ⟨Ax, cx, rfl⟩ := Kd.R_slice hr
  obtain ⟨_, hk, hC⟩ := Kd.R_reads' hr
  have HD := Aside0.mk (Kd.C_below HCl.out hb)
  clear HCl
  have HCl := HD
  clear HD
  have HD := Aside0.mk (Kd.C_below HCb.out hb)
  clear HCb
  have HCb := HD
  clear HD
  have HD := Aside0.mk (Kd.C_below HCw.out hb)
  clear HCw
  have HCw := HD
  clear HD
  have HD := Aside0.mk (lent_below HV.out hb)
  clear HV
  have HV := HD
  clear HD
  have HD := Aside0.mk (HB.out.trans (hb.mono HB.out.size))
  clear HB
  have HB := HD
  clear HD
  have HD := Aside0.mk (HE.out.below hb)
  clear HE
  have HE := HD
  clear HD
  clear hb
  have HCx := Aside0.mk hC
  have HKx := Aside0.mk hk
  clear hr hC hk
  go_wp2_with fail
  refine (HX1.out Ax cx _ HCx.out HKx.out HE.out).mono ?_
  rintro e w2 ⟨v0, rfl, hr, hb⟩
  obtain ⟨Ap, cp, rfl⟩ := Kd.R_slice hr
  obtain ⟨_, hk, hC⟩ := Kd.R_reads' hr
  have HD := Aside0.mk (Kd.C_below HCl.out hb)
  clear HCl
  have HCl := HD
  clear HD
  have HD := Aside0.mk (Kd.C_below HCb.out hb)
  clear HCb
  have HCb := HD
  clear HD
  have HD := Aside0.mk (Kd.C_below HCw.out hb)
  clear HCw
  have HCw := HD
  clear HD
  have HD := Aside0.mk (Kd.C_below HCx.out hb)
  clear HCx
  have HCx := HD
  clear HD
  have HD := Aside0.mk (lent_below HV.out hb)
  clear HV
  have HV := HD
  clear HD
  have HD := Aside0.mk (HB.out.trans (hb.mono HB.out.size))
  clear HB
  have HB := HD
  clear HD
  have HD := Aside0.mk (HE.out.below hb)
  clear HE
  have HE := HD
  clear HD
  clear hb
  have HCp := Aside0.mk hC
  have HKp := Aside0.mk hk
  clear hr hC hk
  go_wp2_with fail
  refine (HX2.out Al cl _ HCl.out HKl.out).mono ?_
  rintro e w3 ⟨v0, rfl, hr, hb⟩
  obtain ⟨Aq, cq, rfl⟩ := Kd.R_slice hr
  obtain ⟨_, hk, hC⟩ := Kd.R_reads' hr
  have HD := Aside0.mk (Kd.C_below HCl.out hb)
  clear HCl
  have HCl := HD
  clear HD
  have HD := Aside0.mk (Kd.C_below HCb.out hb)
  clear HCb
  have HCb := HD
  clear HD
  have HD := Aside0.mk (Kd.C_below HCw.out hb)
  clear HCw
  have HCw := HD
  clear HD
  have HD := Aside0.mk (Kd.C_below HCx.out hb)
  clear HCx
  have HCx := HD
  clear HD
  have HD := Aside0.mk (Kd.C_below HCp.out hb)
  clear HCp
  have HCp := HD
  clear HD
  have HD := Aside0.mk (lent_below HV.out hb)
  clear HV
  have HV := HD
  clear HD
  have HD := Aside0.mk (HB.out.trans (hb.mono HB.out.size))
  clear HB
  have HB := HD
  clear HD
  have HD := Aside0.mk (HE.out.below hb)
  clear HE
  have HE := HD
  clear HD
  clear hb
  have HCq := Aside0.mk hC
  have HKq := Aside0.mk hk
  clear hr hC hk
  go_wp2_with fail
  refine (HX3.out Aw cw _ HCw.out HKw.out HE.out).mono ?_
  rintro e w4 ⟨v0, rfl, hr, hb⟩
  obtain ⟨Au, cu, rfl⟩ := Kd.R_slice hr
  obtain ⟨_, hk, hC⟩ := Kd.R_reads' hr
  have HD := Aside0.mk (Kd.C_below HCl.out hb)
  clear HCl
  have HCl := HD
  clear HD
  have HD := Aside0.mk (Kd.C_below HCb.out hb)
  clear HCb
  have HCb := HD
  clear HD
  have HD := Aside0.mk (Kd.C_below HCw.out hb)
  clear HCw
  have HCw := HD
  clear HD
  have HD := Aside0.mk (Kd.C_below HCx.out hb)
  clear HCx
  have HCx := HD
  clear HD
  have HD := Aside0.mk (Kd.C_below HCp.out hb)
  clear HCp
  have HCp := HD
  clear HD
  have HD := Aside0.mk (Kd.C_below HCq.out hb)
  clear HCq
  have HCq := HD
  clear HD
  have HD := Aside0.mk (lent_below HV.out hb)
  clear HV
  have HV := HD
  clear HD
  have HD := Aside0.mk (HB.out.trans (hb.mono HB.out.size))
  clear HB
  have HB := HD
  clear HD
  have HD := Aside0.mk (HE.out.below hb)
  clear HE
  have HE := HD
  clear HD
  clear hb
  have HCu := Aside0.mk hC
  have HKu := Aside0.mk hk
  clear hr hC hk
  go_wp2_with fail
  refine (HX4.out Ab cb _ HCb.out HKb.out).mono ?_
  rintro e w5 ⟨v0, rfl, hr, hb⟩
  obtain ⟨Av, cv, rfl⟩ := Kd.R_slice hr
  obtain ⟨_, hk, hC⟩ := Kd.R_reads' hr
  have HD := Aside0.mk (Kd.C_below HCl.out hb)
  clear HCl
  have HCl := HD
  clear HD
  have HD := Aside0.mk (Kd.C_below HCb.out hb)
  clear HCb
  have HCb := HD
  clear HD
  have HD := Aside0.mk (Kd.C_below HCw.out hb)
  clear HCw
  have HCw := HD
  clear HD
  have HD := Aside0.mk (Kd.C_below HCx.out hb)
  clear HCx
  have HCx := HD
  clear HD
  have HD := Aside0.mk (Kd.C_below HCp.out hb)
  clear HCp
  have HCp := HD
  clear HD
  have HD := Aside0.mk (Kd.C_below HCq.out hb)
  clear HCq
  have HCq := HD
  clear HD
  have HD := Aside0.mk (Kd.C_below HCu.out hb)
  clear HCu
  have HCu := HD
  clear HD
  have HD := Aside0.mk (lent_below HV.out hb)
  clear HV
  have HV := HD
  clear HD
  have HD := Aside0.mk (HB.out.trans (hb.mono HB.out.size))
  clear HB
  have HB := HD
  clear HD
  have HD := Aside0.mk (HE.out.below hb)
  clear HE
  have HE := HD
  clear HD
  clear hb
  have HCv := Aside0.mk hC
  have HKv := Aside0.mk hk
  clear hr hC hk
  have hcp := Kd.C_string (P := Tryz.prog) (c := cp) Tryz.underlying48 Tryz.underlying5 Tryz.underlying9 HCp.out
  have hcq := Kd.C_string (P := Tryz.prog) (c := cq) Tryz.underlying48 Tryz.underlying5 Tryz.underlying9 HCq.out
  go_wp2_with fail
  refine (icehouselaw02_num.calls ec ec _ F4.out).mono ?_
  rintro e w6 ⟨rfl, hb⟩
  replace hb := Sn.drawn0_below hb
  have HD := Aside0.mk (Kd.C_below HCl.out hb)
  clear HCl
  have HCl := HD
  clear HD
  have HD := Aside0.mk (Kd.C_below HCb.out hb)
  clear HCb
  have HCb := HD
  clear HD
  have HD := Aside0.mk (Kd.C_below HCw.out hb)
  clear HCw
  have HCw := HD
  clear HD
  have HD := Aside0.mk (Kd.C_below HCx.out hb)
  clear HCx
  have HCx := HD
  clear HD
  have HD := Aside0.mk (Kd.C_below HCp.out hb)
  clear HCp
  have HCp := HD
  clear HD
  have HD := Aside0.mk (Kd.C_below HCq.out hb)
  clear HCq
  have HCq := HD
  clear HD
  have HD := Aside0.mk (Kd.C_below HCu.out hb)
  clear HCu
  have HCu := HD
  clear HD
  have HD := Aside0.mk (Kd.C_below HCv.out hb)
  clear HCv
  have HCv := HD
  clear HD
  have HD := Aside0.mk (lent_below HV.out hb)
  clear HV
  have HV := HD
  clear HD
  have HD := Aside0.mk (HB.out.trans (hb.mono HB.out.size))
  clear HB
  have HB := HD
  clear HD
  have HD := Aside0.mk (HE.out.below hb)
  clear HE
  have HE := HD
  clear HD
  clear hb
  clear hcp hcq
  go_wp2_with fail
  refine (icehouselaw02_Same.calls k Au cu r1 Av cv r1 true _ HCu.out HKu.out HCv.out HKv.out F5.out).mono ?_
  rintro e w7 ⟨rfl, hb⟩
  replace hb := Sn.drawn0_below hb
  have HD := Aside0.mk (Kd.C_below HCl.out hb)
  clear HCl
  have HCl := HD
  clear HD
  have HD := Aside0.mk (Kd.C_below HCb.out hb)
  clear HCb
  have HCb := HD
  clear HD
  have HD := Aside0.mk (Kd.C_below HCw.out hb)
  clear HCw
  have HCw := HD
  clear HD
  have HD := Aside0.mk (Kd.C_below HCx.out hb)
  clear HCx
  have HCx := HD
  clear HD
  have HD := Aside0.mk (Kd.C_below HCp.out hb)
  clear HCp
  have HCp := HD
  clear HD
  have HD := Aside0.mk (Kd.C_below HCq.out hb)
  clear HCq
  have HCq := HD
  clear HD
  have HD := Aside0.mk (Kd.C_below HCu.out hb)
  clear HCu
  have HCu := HD
  clear HD
  have HD := Aside0.mk (Kd.C_below HCv.out hb)
  clear HCv
  have HCv := HD
  clear HD
  have HD := Aside0.mk (lent_below HV.out hb)
  clear HV
  have HV := HD
  clear HD
  have HD := Aside0.mk (HB.out.trans (hb.mono HB.out.size))
  clear HB
  have HB := HD
  clear HD
  have HD := Aside0.mk (HE.out.below hb)
  clear HE
  have HE := HD
  clear HD
  clear hb
  go_wp2_with fail
  refine (icehouselaw02_num.calls r2 r2 _ F6.out).mono ?_
  rintro e w8 ⟨rfl, hb⟩
  replace hb := Sn.drawn0_below hb
  have HD := Aside0.mk (Kd.C_below HCl.out hb)
  clear HCl
  have HCl := HD
  clear HD
  have HD := Aside0.mk (Kd.C_below HCb.out hb)
  clear HCb
  have HCb := HD
  clear HD
  have HD := Aside0.mk (Kd.C_below HCw.out hb)
  clear HCw
  have HCw := HD
  clear HD
  have HD := Aside0.mk (Kd.C_below HCx.out hb)
  clear HCx
  have HCx := HD
  clear HD
  have HD := Aside0.mk (Kd.C_below HCp.out hb)
  clear HCp
  have HCp := HD
  clear HD
  have HD := Aside0.mk (Kd.C_below HCq.out hb)
  clear HCq
  have HCq := HD
  clear HD
  have HD := Aside0.mk (Kd.C_below HCu.out hb)
  clear HCu
  have HCu := HD
  clear HD
  have HD := Aside0.mk (Kd.C_below HCv.out hb)
  clear HCv
  have HCv := HD
  clear HD
  have HD := Aside0.mk (lent_below HV.out hb)
  clear HV
  have HV := HD
  clear HD
  have HD := Aside0.mk (HB.out.trans (hb.mono HB.out.size))
  clear HB
  have HB := HD
  clear HD
  have HD := Aside0.mk (HE.out.below hb)
  clear HE
  have HE := HD
  clear HD
  clear hb
  go_wp2_with fail
  refine (stays_is Aw cw Ab cb bl _ _ HV.out HCb.out (by have := F0.out; omega)).mono ?_
  rintro e w90 ⟨rfl, nd, rfl⟩
  have HD := Aside0.mk (pw_below_drewN HB.out nd)
  have HE2 := Aside0.mk (HE.out.below (pw_below_drewN (Below.refl _ _) nd))
  go_wp2_with fail
  refine (icehouselaw02_knows.calls k true _ F7.out HE2.out).mono ?_
  rintro e w91 ⟨rfl, hb⟩
  have HD2 := Aside0.mk (HD.out.trans (hb.mono HD.out.size))
  go_wp2
  go_ret
  exact ⟨rfl, HD2.out⟩
end Go.Proofs.YtgafnjgiikdofaaGreatDoor.Lb
