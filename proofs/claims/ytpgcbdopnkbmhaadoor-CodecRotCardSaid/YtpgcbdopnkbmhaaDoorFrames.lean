/- The law CodecFrames, walked: it answers true for any text, kind and bytes, where the table lies as its text lays it. -/
import Derived.Test.YtpgcbdopnkbmhaaDoorFm
import Derived.Test.YtpgcbdopnkbmhaaDoorKn
import Derived.Test.YtpgcbdopnkbmhaaDoorTb
namespace Go.Proofs.YtpgcbdopnkbmhaaDoor.Frames
set_option linter.unusedVariables false
open Go.RowKit Go.Proofs.YtpgcbdopnkbmhaaDoorW.PrintWords Go.Proofs.YtpgcbdopnkbmhaaDoorW.PrintLast Go.Proofs.YtpgcbdopnkbmhaaDoorW.PrintMore
open Go.Proofs.YtpgcbdopnkbmhaaDoor.A Go.Proofs.YtpgcbdopnkbmhaaDoor.Cn Go.Proofs.YtpgcbdopnkbmhaaDoor.Dn Go.Proofs.YtpgcbdopnkbmhaaDoor.Cr Go.Proofs.YtpgcbdopnkbmhaaDoor.Fr Go.Proofs.YtpgcbdopnkbmhaaDoor.Su Go.Proofs.YtpgcbdopnkbmhaaDoor.Le Go.Proofs.YtpgcbdopnkbmhaaDoor.Cc Go.Proofs.YtpgcbdopnkbmhaaDoor.Fm Go.Proofs.YtpgcbdopnkbmhaaDoor.Kn
/-- what Frame answers -/
def frameR (kind : Int) (b : List Int) : List Int × Int := if kind < 0 ∨ 255 < kind then ([], 1) else if 1048576 < b.length then ([], 6) else (frameB kind b, 0)
/-- what Text answers -/
def textR (s : ByteArray) : List Int × Int := if 65536 < s.size then ([], 6) else (enc 7 (s.size : Int) ++ bytesOf s, 0)
theorem frame_any (kind : Int) (A : Option Addr) (c : Nat) (b : List Int) (w : World) (hC : (Kd.int .u8).C w A b.length b) (hb : ∀ x ∈ b, 0 ≤ x ∧ x < 256) (hc : b.length ≤ c) (hT : Tab w) :
    Calls Tryd.prog 14 #[.int .i64 kind, .slice A b.length c] w fun e w' => ∃ v, e = .returned (.tuple #[v, .int .i64 (frameR kind b).2]) ∧ Kd.R (Kd.int .u8) 5 w' w.heap.size (fun _ => True) v (frameR kind b).1 ∧ Below w.heap.size w w' := by
  unfold frameR
  by_cases h : kind < 0 ∨ 255 < kind
  · rw [if_pos h]
    refine (frame_kind kind A c b.length w h).mono ?_
    rintro e w' ⟨rfl, rfl⟩
    exact ⟨_, rfl, Kd.R_nil _ _ _ _ _, Below.refl _ _⟩
  · rw [if_neg h]
    by_cases hl : 1048576 < b.length
    · rw [if_pos hl]
      refine (frame_long kind A c b.length w (by omega) (by omega) hl).mono ?_
      rintro e w' ⟨rfl, rfl⟩
      exact ⟨_, rfl, Kd.R_nil _ _ _ _ _, Below.refl _ _⟩
    · rw [if_neg hl]
      exact frame_ok kind A c b w hC hb hc (by omega) (by omega) (by omega) hT
theorem sum_k (k : Nat) (xs : List Int) (hb : ∀ c ∈ xs, 0 ≤ c ∧ c < 256) (hl : xs.length < 9223372036854775807) (hk : 10 * xs.length < k) : icehouseref01_Sum.f k xs = some (crc xs) := by
  have h := ref_sum xs hb hl xs.length 0 0xffffffff#32 k (by omega) hk
  rw [List.drop_zero] at h
  exact h
theorem ref_frame (kind : Int) (b : List Int) (hb : ∀ x ∈ b, 0 ≤ x ∧ x < 256) (hm : b.length ≤ 9223372036854775807) : icehouseref01_Frame.f (10 * b.length + 200) kind b = some (frameR kind b) := by
  unfold icehouseref01_Frame.f frameR
  by_cases h0 : kind < 0
  · rw [if_pos h0, if_pos (.inl h0)]; rfl
  · rw [if_neg h0]
    by_cases h1 : kind > 255
    · rw [if_pos (.inr h1), decide_eq_true h1]; rfl
    · rw [if_neg (by omega), decide_eq_false h1, show 10 * b.length + 200 = (10 * b.length + 199) + 1 from rfl]
      simp only [icehouseref01_Frame.j0]
      rw [if_neg (by simp)]
      by_cases hl : 1048576 < b.length
      · rw [if_pos (by omega), if_pos hl]
      · have he := enc_len 7 (b.length : Int)
        have hhl : (headB kind b).length ≤ 9 := by unfold headB; simp; omega
        have hS := sum_k (10 * b.length + 199) (headB kind b ++ b) (by
          intro x hx
          rcases List.mem_append.1 hx with h | h
          · exact head_byts kind b (by omega) x h
          · exact hb x h) (by simp; omega) (by simp; omega)
        have hR : icehouseref01_Bytes.f (10 * b.length + 199) (b.length : Int) = some (enc 7 (b.length : Int)) := by
          unfold icehouseref01_Bytes.f
          rw [ref_bytes 7 _ _ [] (by omega) (by omega) (by omega) (by omega) (by simp)]; rfl
        rw [if_neg (by omega), if_neg hl, Option.bind_some, hR, Option.bind_some]
        rw [show [kind % 256] ++ enc 7 (b.length : Int) = headB kind b from rfl]
        simp only [Option.bind_some, List.nil_append, List.length_nil, List.length_cons, List.length_append]
        rw [if_pos (by omega), if_pos (by omega), if_pos (by omega), hS, Option.bind_some, if_pos (by omega), if_pos (by omega), if_pos (by omega)]
        rfl
theorem text_any (s : ByteArray) (w : World) : Calls Tryd.prog 12 #[.string s] w fun e w' => ∃ v, e = .returned (.tuple #[v, .int .i64 (textR s).2]) ∧ Kd.R (Kd.int .u8) 5 w' w.heap.size (fun _ => True) v (textR s).1 ∧ Below w.heap.size w w' := by
  have hs : codec_Text.f 8 s = some (textR s) := by
    unfold codec_Text.f codec_seven_int.f textR
    by_cases h : 65536 < s.size
    · rw [if_pos (by omega), if_pos h]
    · have hl := enc_len 7 (s.size : Int)
      rw [if_neg (by omega), if_neg h, seven_int 7 8 _ [] (by omega) (by omega) (by omega) (by simp), Option.bind_some, List.nil_append, if_pos (by omega)]
  exact codec_Text.calls 8 s _ _ w hs
theorem ref_text (s : ByteArray) (w : World) : Calls Tryd.prog 13 #[.string s] w fun e w' => ∃ v, e = .returned (.tuple #[v, .int .i64 (textR s).2]) ∧ Kd.R (Kd.int .u8) 5 w' w.heap.size (fun _ => True) v (textR s).1 ∧ Below w.heap.size w w' := by
  have hs : icehouseref01_Text.f 8 s = some (textR s) := by
    unfold icehouseref01_Text.f icehouseref01_TextBytes.f icehouseref01_Bytes.f textR
    by_cases h : 65536 < s.size
    · rw [if_pos (by omega), if_pos h]
    · have hl := enc_len 7 (s.size : Int)
      rw [if_neg (by omega), if_neg h, ref_bytes 7 8 _ [] (by omega) (by omega) (by omega) (by omega) (by simp), Option.bind_some, List.nil_append, if_pos (by omega)]; rfl
  exact icehouseref01_Text.calls 8 s _ _ w hs
set_option maxHeartbeats 2000000 in
theorem walk (s : ByteArray) (kind : Int) (A : Option Addr) (c : Nat) (l : List Int) (w : World) (hC : (Kd.int .u8).C w A l.length l) (hb : ∀ x ∈ l, 0 ≤ x ∧ x < 256) (hc : l.length ≤ c) (hl : l.length ≤ 140737488351232) (hT : Tab w) :
    Calls Tryd.prog 4 #[.string s, .int .i64 kind, .slice A l.length c] w fun e w' => e = .returned (.bool true) ∧ Below w.heap.size w w' := by
  have HC := Aside0.mk hC
  have HT := Aside0.mk hT
  have HL := Aside0.mk (lent_is A c l w hC hl)
  have HBY := Aside0.mk hb
  obtain ⟨t1, t2, ht⟩ : ∃ t1 t2, textR s = (t1, t2) := ⟨_, _, rfl⟩
  obtain ⟨f1, f2, hf⟩ : ∃ f1 f2, frameR kind l = (f1, f2) := ⟨_, _, rfl⟩
  have HT1 := Aside0.mk (fun W => text_any s W)
  have HT2 := Aside0.mk (fun W => ref_text s W)
  rw [ht] at HT1 HT2
  have hrf := ref_frame kind l hb (by omega)
  rw [hf] at hrf
  have HRF := Aside0.mk hrf
  have HF := Aside0.mk hf
  clear hC hT hb ht hf hrf
  go_enter Tryd.func4, Tryd.ntmps4
  go_wp2_with fail
  refine HL.out.mono ?_
  rintro e w1 ⟨A', c', rfl, hlv, hb1⟩
  have HLV1 := Aside0.mk hlv
  have HB1 := Aside0.mk hb1
  clear hlv hb1
  go_wp2_with fail
  refine (HT1.out _).mono ?_
  rintro e w2 ⟨v2, rfl, hr2, hb2⟩
  have HR2 := Aside0.mk hr2
  have HLV2 := Aside0.mk (show LentV w2 w.heap.size A' c' l from ⟨HLV1.out.1, Kd.R_below HLV1.out.2 hb2⟩)
  have HB2 := Aside0.mk (below_step HB1.out hb2)
  clear hr2 hb2 HLV1
  go_wp2_with fail
  refine (HT2.out _).mono ?_
  rintro e w3 ⟨v3, rfl, hr3, hb3⟩
  have HR3 := Aside0.mk hr3
  have HR2a := Aside0.mk (Kd.R_below HR2.out hb3)
  have HLV3 := Aside0.mk (show LentV w3 w.heap.size A' c' l from ⟨HLV2.out.1, Kd.R_below HLV2.out.2 hb3⟩)
  have HB3 := Aside0.mk (below_step HB2.out hb3)
  clear hr3 hb3 HLV2
  have hlv := HLV3.out
  obtain ⟨hc', hR⟩ := hlv
  obtain ⟨_, _, hCx⟩ := Kd.R_reads' hR
  have hn0 : (l ++ [77, 78]).length = l.length + 2 := by simp
  rw [hn0] at hCx
  have hT' := Kd.C_take (m := l.length) (xs := l ++ [77, 78]) (by rw [hn0]; exact hCx) (by simp)
  have htk : (l ++ [77, 78]).take l.length = l := by simp
  rw [htk] at hT'
  have hfr := frame_any kind A' c' l w3 hT' HBY.out (by omega) (Fm.Tab_below HT.out HB3.out)
  rw [HF.out] at hfr
  have HFR := Aside0.mk hfr
  clear hR hCx hn0 hT' htk hfr hc'
  go_wp2_with fail
  refine HFR.out.mono ?_
  rintro e w4 ⟨v4, rfl, hr4, hb4⟩
  have HR4 := Aside0.mk hr4
  have HR2b := Aside0.mk (Kd.R_below HR2a.out hb4)
  have HR3b := Aside0.mk (Kd.R_below HR3.out hb4)
  have HLV4 := Aside0.mk (show LentV w4 w.heap.size A' c' l from ⟨HLV3.out.1, Kd.R_below HLV3.out.2 hb4⟩)
  have HB4 := Aside0.mk (below_step HB3.out hb4)
  clear hr4 hb4 HLV3
  go_wp2_with fail
  refine (icehouseref01_Frame.calls _ kind A c l _ _ w4 (Kd.C_below HC.out HB4.out) hc HRF.out).mono ?_
  rintro e w5 ⟨v5, rfl, hr5, hb5⟩
  have hcv1 := own_string (P := Tryd.prog) Tryd.underlying22 Tryd.underlying5 Tryd.underlying9 (Kd.own_of_R (Kd.R_below HR2b.out hb5))
  have hcv2 := own_string (P := Tryd.prog) Tryd.underlying22 Tryd.underlying5 Tryd.underlying9 (Kd.own_of_R (Kd.R_below HR3b.out hb5))
  have hcv3 := own_string (P := Tryd.prog) Tryd.underlying22 Tryd.underlying5 Tryd.underlying9 (Kd.own_of_R (Kd.R_below HR4.out hb5))
  have hcv4 := own_string (P := Tryd.prog) Tryd.underlying22 Tryd.underlying5 Tryd.underlying9 (Kd.own_of_R hr5)
  have HLV5 := Aside0.mk (show LentV w5 w.heap.size A' c' l from ⟨HLV4.out.1, Kd.R_below HLV4.out.2 hb5⟩)
  have HB5 := Aside0.mk (below_step HB4.out hb5)
  clear hr5 hb5 HLV4
  go_wp2_with fail
  refine (num_any _ _).mono ?_
  rintro e w' ⟨rfl, rfl⟩
  go_wp2_with fail
  refine (num_any _ _).mono ?_
  rintro e w' ⟨rfl, rfl⟩
  go_wp2_with fail
  refine (stays_is A' c' A c l w5 w.heap.size HLV5.out (Kd.C_below HC.out HB5.out) hl).mono ?_
  rintro e w' ⟨rfl, ⟨nd, rfl⟩⟩
  go_wp2_with fail
  refine (knows_true _).mono ?_
  rintro e w6 ⟨rfl, b6⟩
  have B6 := Aside0.mk b6
  clear b6
  go_wp2
  go_ret
  exact ⟨rfl, below_step (pw_below_drewN HB5.out nd) B6.out⟩
end Go.Proofs.YtpgcbdopnkbmhaaDoor.Frames
