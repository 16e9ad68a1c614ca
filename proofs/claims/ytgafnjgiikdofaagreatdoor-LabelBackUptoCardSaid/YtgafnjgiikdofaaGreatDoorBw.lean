/- Labels as bytes: Bytes of the program and of the document, walked. -/
import Derived.Test.YtgafnjgiikdofaaGreatDoorCc
import Derived.Test.YtgafnjgiikdofaaGreatDoorLp
import Derived.Test.YtgafnjgiikdofaaGreatDoorRo
import Derived.Test.YtgafnjgiikdofaaGreatDoorA7
namespace Go.Proofs.YtgafnjgiikdofaaGreatDoor.Bw
set_option linter.unusedVariables false
set_option linter.unusedSimpArgs false
open Go.RowKit Go.Proofs.YtgafnjgiikdofaaGreatDoorW.PrintWords Go.Proofs.YtgafnjgiikdofaaGreatDoorW.PrintLast Go.Proofs.YtgafnjgiikdofaaGreatDoorW.PrintMore
open Go.Proofs.YtgafnjgiikdofaaGreatDoor.A Go.Proofs.YtgafnjgiikdofaaGreatDoor.R Go.Proofs.YtgafnjgiikdofaaGreatDoor.Xc Go.Proofs.YtgafnjgiikdofaaGreatDoor.Xd Go.Proofs.YtgafnjgiikdofaaGreatDoor.Cc Go.Proofs.YtgafnjgiikdofaaGreatDoor.Lr Go.Proofs.YtgafnjgiikdofaaGreatDoor.Sx Go.Proofs.YtgafnjgiikdofaaGreatDoor.Sc
/-- a text as bytes -/
def eS (s : ByteArray) : List Int := enc 7 (s.size : Int) ++ bytesOf s
def eX (x : S47) : List Int := eS x.f0 ++ eS x.f1
/-- labels as bytes -/
def encL (l : List S47) : List Int := enc 7 (l.length : Int) ++ (l.map eX).flatten
theorem bytesOf_len (s : ByteArray) : (bytesOf s).length = s.size := by
  unfold bytesOf; rw [List.length_map, Array.length_toList]; rfl
theorem eS_len (s : ByteArray) : (eS s).length ≤ 8 + s.size := by
  unfold eS; rw [List.length_append, bytesOf_len]; have := enc_len 7 (s.size : Int); omega
theorem eX_len (x : S47) (B : Nat) (h : x.f0.size ≤ B ∧ x.f1.size ≤ B) : (eX x).length ≤ 16 + 2 * B := by
  unfold eX; rw [List.length_append]; have := eS_len x.f0; have := eS_len x.f1; omega
theorem text_is (s : ByteArray) (h : s.size ≤ 65536) : B.codec_Text.f 8 s = some (eS s, 0) := by
  unfold B.codec_Text.f B.codec_seven_int.f eS
  have hl := enc_len 7 (s.size : Int)
  rw [if_neg (by omega), seven_int 7 8 _ [] (by omega) (by omega) (by omega) (by simp), Option.bind_some, List.nil_append, if_pos (by omega)]
theorem flat_le' (l : List S47) (B : Nat) (hf : ∀ x ∈ l, x.f0.size ≤ B ∧ x.f1.size ≤ B) : ∀ k, ((l.take k).map eX).flatten.length ≤ k * (16 + 2 * B) := by
  intro k
  induction k with
  | zero => simp
  | succ k ih =>
    by_cases h : k < l.length
    · rw [List.take_succ_eq_append_getElem h, List.map_append, List.flatten_append, List.length_append, Nat.succ_mul]
      have := eX_len l[k] B (hf _ (List.getElem_mem h))
      simp only [List.map_cons, List.map_nil, List.flatten_cons, List.flatten_nil, List.append_nil]
      omega
    · rw [List.take_of_length_le (by omega)] at ih ⊢
      rw [Nat.succ_mul]; omega
set_option maxHeartbeats 4000000 in
set_option maxRecDepth 100000 in
theorem lbytes_calls (A : Option Addr) (c : Nat) (l : List S47) (w : World) (hC : k47.C w A l.length l) (hc : l.length ≤ c) (hl : l.length ≤ 1048576) (hf : ∀ x ∈ l, x.f0.size ≤ 1048576 ∧ x.f1.size ≤ 1048576) (hE : Env w) :
    Calls Tryz.prog 35 #[.slice A l.length c] w fun e w' => ∃ v, e = .returned (.tuple #[v, .int .i64 (if rightB l = true then 0 else 30)]) ∧ Kd.R (Kd.int .u8) 5 w' w.heap.size (fun _ => True) v (if rightB l = true then encL l else []) ∧ Below w.heap.size w w' := by
  have hr := lright_eq l (l.length + 1) (by omega) (fun x hx => by have := hf x hx; omega) (by omega)
  have HR := Aside0.mk hr
  have HC := Aside0.mk hC
  have HE := Aside0.mk hE
  have HK := Aside0.mk hc
  cases hb : rightB l with
  | false =>
    rw [hb] at hr
    clear hC hE
    have HR := Aside0.mk hr
    clear hr hf hb
    go_enter Tryz.func35, Tryz.ntmps35
    go_wp2_with fail
    refine (label_Right.calls _ A c l false _ HC.out HK.out HR.out HE.out).mono ?_
    rintro e w1 ⟨rfl, hb⟩
    have HB := Aside0.mk hb
    clear hb
    go_wp2_with fail
    go_ret2
    exact ⟨_, rfl, Kd.R_nil _ _ _ _ _, HB.out⟩
  | true =>
    have hs := Lp.right_small l hb
    have h16 := right_ends l _ _ hb
    rw [hb] at hr
    have HR := Aside0.mk hr
    have HS := Aside0.mk hs
    have FN : Aside0 (B.codec_Number.f 8 (l.length : Int) = some (enc 7 (l.length : Int), 0)) := ⟨by
      have := number_is (l.length : Int)
      rw [this, numB, if_pos (by omega)]⟩
    have EN := Aside0.mk (enc_len 7 (l.length : Int))
    obtain ⟨n, hn⟩ : ∃ n, n = l.length := ⟨_, rfl⟩
    have HN := Aside0.mk hn
    have H16 : n ≤ 16 := by omega
    rw [← hn] at HK HC FN HR EN hl ⊢
    clear hr hf hb hs h16 hC hE hc hn
    go_enter Tryz.func35, Tryz.ntmps35
    go_wp2_with fail
    refine (show Calls Tryz.prog 31 #[.slice A n c] w _ from by have := label_Right.calls (l.length + 1) A c l true w (by rw [← HN.out]; exact HC.out) (by rw [← HN.out]; exact HK.out) (by rw [← HN.out]; exact HR.out) HE.out; rw [← HN.out] at this; exact this).mono ?_
    rintro e w1 ⟨rfl, hb⟩
    have HB := Aside0.mk hb
    clear hb
    go_wp2_with fail
    refine (B.codec_Number.calls 8 (n : Int) _ _ _ FN.out).mono ?_
    rintro e w2 ⟨v2, rfl, hr2, hb2⟩
    have HR2 := Aside0.mk (Kd.R_lower hr2 HB.out.size)
    have HB2 := Aside0.mk (HB.out.trans (hb2.mono HB.out.size))
    clear hr2 hb2 HB
    go_wp2_with fail
    go_loopw [4, 23] (fun bv iv w' => ∃ j : Nat, j ≤ n ∧ iv = .int .i64 j ∧ Aside0 (Kd.R (Kd.int .u8) 5 w' w.heap.size (fun _ => True) bv (enc 7 (n : Int) ++ ((l.take j).map eX).flatten)) ∧ Aside0 (Below w.heap.size w w')) (fun _ iv _ => n - (intOf iv).toNat)
    case atStart => exact ⟨0, Nat.zero_le _, rfl, ⟨by simpa using HR2.out⟩, HB2⟩
    case round =>
      clear HR2 HB2
      obtain ⟨j, hj, rfl, HRJ, HBJ⟩ := hrel
      by_cases h1 : j < n
      · have hjl : j < l.length := by rw [← HN.out]; exact h1
        obtain ⟨ad, hA, q0, q1⟩ := Ro.el47 (Kd.C_below HC.out HBJ.out) j hjl
        have hxs := HS.out _ (List.getElem_mem hjl)
        have hfl := flat_le' l 128 HS.out j
        obtain ⟨x, hx⟩ : ∃ x, x = l[j] := ⟨_, rfl⟩
        rw [← hx] at q0 q1 hxs
        have HF : Aside0 (((l.take (j + 1)).map eX).flatten = ((l.take j).map eX).flatten ++ (eS x.f0 ++ eS x.f1)) := ⟨by
          rw [List.take_succ_eq_append_getElem hjl, List.map_append, List.flatten_append, ← hx]
          simp [eX]⟩
        obtain ⟨acc, hacc⟩ : ∃ acc, acc = enc 7 (n : Int) ++ ((l.take j).map eX).flatten := ⟨_, rfl⟩
        rw [← hacc] at HRJ
        have HAL : Aside0 (acc.length ≤ 16000) := ⟨by rw [hacc, List.length_append]; have := EN.out; have : j * (16 + 2 * 128) ≤ 16 * (16 + 2 * 128) := Nat.mul_le_mul_right _ (by omega); omega⟩
        have HAC := Aside0.mk hacc
        have F0 := Aside0.mk (text_is x.f0 (by omega))
        have F1 := Aside0.mk (text_is x.f1 (by omega))
        have L0 := Aside0.mk (eS_len x.f0)
        have L1 := Aside0.mk (eS_len x.f1)
        have HXS := Aside0.mk hxs
        subst hA
        clear hx hxs hfl hacc hjl
        go_upto_region 7 with fail
        obtain ⟨w3, hw3⟩ : ∃ w3, w3 = wr.alloc (.cells #[.string x.f0, .string x.f1] 47) := ⟨_, rfl⟩
        obtain ⟨g, hg⟩ : ∃ g, g = wr.heap.size := ⟨_, rfl⟩
        rw [← hw3, ← hg]
        have HX3 : Aside0 (w3.heap[g]? = some (.cells #[.string x.f0, .string x.f1] 47 (0, 0))) := ⟨by rw [hw3, hg]; exact blk_new _ _⟩
        have HR3 : Aside0 (Kd.R (Kd.int .u8) 5 w3 w.heap.size (fun _ => True) u4 acc) := ⟨by rw [hw3]; exact Kd.R_alloc HRJ.out _⟩
        have HB3 : Aside0 (Below w.heap.size w w3) := ⟨by rw [hw3]; exact below_alloc HBJ.out _⟩
        clear hw3 hg HRJ HBJ q0 q1
        have x0 := blk_cell HX3.out 0
        simp at x0
        go_wp2_with fail
        refine (B.codec_Text.calls 8 x.f0 _ _ _ F0.out).mono ?_
        rintro e w4 ⟨v4, rfl, hr4, hb4⟩
        have HR4 := Aside0.mk (Kd.R_below HR3.out hb4)
        have HX4 := Aside0.mk ((hb4.block g (blk_lt HX3.out)).trans HX3.out)
        obtain ⟨A4, c4, rfl, hc4, hC4⟩ := Kd.R_reads hr4
        have HC4 := Aside0.mk hC4
        have HB4 := Aside0.mk (HB3.out.trans (hb4.mono HB3.out.size))
        clear hr4 hb4 hC4 HR3 HX3 HB3 x0
        have x1 := blk_cell HX4.out 1
        simp at x1
        go_wp2_with fail
        refine (B.codec_Text.calls 8 x.f1 _ _ _ F1.out).mono ?_
        rintro e w5 ⟨v5, rfl, hr5, hb5⟩
        obtain ⟨A1, c1, hv1, hc1, hC1⟩ := Kd.R_reads (Kd.R_below HR4.out hb5)
        subst hv1
        have HC1 := Aside0.mk hC1
        have HC5 := Aside0.mk (Kd.C_below HC4.out hb5)
        obtain ⟨A5, c5, rfl, hc5, hC5⟩ := Kd.R_reads hr5
        have HC6 := Aside0.mk hC5
        have HB5 := Aside0.mk (HB4.out.trans (hb5.mono HB4.out.size))
        clear hr5 hb5 hC5 hC1 HR4 HX4 HB4 HC4 x1
        obtain ⟨n1, hn1⟩ : ∃ n1, n1 = acc.length := ⟨_, rfl⟩
        obtain ⟨n2, hn2⟩ : ∃ n2, n2 = (eS x.f0).length := ⟨_, rfl⟩
        obtain ⟨n3, hn3⟩ : ∃ n3, n3 = (eS x.f1).length := ⟨_, rfl⟩
        have hcat := concat3 w5 A1 A4 A5 c1 c4 c5 n1 n2 n3 acc (eS x.f0) (eS x.f1) hn1 hn2 hn3 (by omega) (by omega) (by omega) (by rw [hn1]; exact HC1.out) (by rw [hn2]; exact HC5.out) (by rw [hn3]; exact HC6.out) (by have := HAL.out; have := L0.out; have := L1.out; have := HXS.out; omega)
        rw [← hn1, ← hn2, ← hn3]
        have HCAT := Aside0.mk hcat
        clear hcat hn1 hn2 hn3 hc1 hc4 hc5
        go_wp2_with fail
        refine HCAT.out.mono ?_
        rintro e w6 ⟨v6, rfl, hr6, hb6⟩
        have hb56 := below_alloc HB5.out (.cells #[.slice A1 n1 c1, .slice A4 n2 c4, .slice A5 n3 c5] 48)
        have HR6 := Aside0.mk (Kd.R_lower hr6 hb56.size)
        have HB6 := Aside0.mk (hb56.trans (hb6.mono hb56.size))
        clear hr6 hb6 hb56 HCAT HB5 HC1 HC5 HC6
        go_wp2_with fail
        go_roundw
        case rel => exact ⟨j + 1, by omega, by go_num, ⟨by rw [HF.out, ← List.append_assoc, ← HAC.out, ← List.append_assoc]; exact HR6.out⟩, HB6⟩
        case measure => simp [intOf]; omega
      · go_wp2
        go_ret2
        refine ⟨_, rfl, ?_, HBJ.out⟩
        have := HRJ.out
        rw [List.take_of_length_le (by rw [← HN.out]; omega)] at this
        unfold encL
        rw [← HN.out]
        exact this
end Go.Proofs.YtgafnjgiikdofaaGreatDoor.Bw
