/- What must come of codec, as the laws ask it first: 'knows' answers true. -/
import Derived.Test.YtpgcbdopnkbmhaaDoorCn
namespace Go.Proofs.YtpgcbdopnkbmhaaDoor.Kn
open Go.RowKit Go.Proofs.YtpgcbdopnkbmhaaDoorW.PrintWords Go.Proofs.YtpgcbdopnkbmhaaDoorW.PrintLast Go.Proofs.YtpgcbdopnkbmhaaDoorW.PrintMore
open Go.Proofs.YtpgcbdopnkbmhaaDoor.A Go.Proofs.YtpgcbdopnkbmhaaDoor.Cn
theorem e1 : codec_Number.f 5 300 = some ([172,2],0) := by decide +kernel
theorem e2 : codec_Signed.f 5 (-1) = some ([1],0) := by decide +kernel
theorem e3 : codec_Text.f 5 (⟨#[97, 98]⟩ : ByteArray) = some ([2,97,98],0) := by decide +kernel
theorem num_any (a : Int) (w : World) : Calls Tryd.prog 16 #[.int .i64 a] w fun e w' => e = .returned (.int .i64 a) ∧ w = w' := by
  go_enter Tryd.func16, Tryd.ntmps16
  go_wp2
  go_ret
  exact ⟨rfl, rfl⟩
set_option maxHeartbeats 1000000 in
theorem knows_true (w : World) : Calls Tryd.prog 11 #[] w fun e w' => e = .returned (.bool true) ∧ Below w.heap.size w w' := by
  go_enter Tryd.func11, Tryd.ntmps11
  go_wp2_with fail
  refine (codec_Number.calls 5 300 _ _ _ e1).mono ?_
  rintro e w1 ⟨v1, rfl, h1, b1⟩
  go_wp2_with fail
  refine (codec_Signed.calls 5 (-1) _ _ _ e2).mono ?_
  rintro e w2 ⟨v2, rfl, h2, b2⟩
  replace h1 := Kd.R_below h1 b2
  go_wp2_with fail
  refine (codec_Text.calls 5 (⟨#[97, 98]⟩ : ByteArray) _ _ _ e3).mono ?_
  rintro e w3 ⟨v3, rfl, h3, b3⟩
  replace h1 := Kd.R_below h1 b3
  replace h2 := Kd.R_below h2 b3
  have hcv1 := own_string (P := Tryd.prog) Tryd.underlying22 Tryd.underlying5 Tryd.underlying9 (Kd.own_of_R h1)
  have hcv2 := own_string (P := Tryd.prog) Tryd.underlying22 Tryd.underlying5 Tryd.underlying9 (Kd.own_of_R h2)
  have hcv3 := own_string (P := Tryd.prog) Tryd.underlying22 Tryd.underlying5 Tryd.underlying9 (Kd.own_of_R h3)
  have s1 : strOfNums [172, 2] = ⟨#[172, 2]⟩ := by decide +kernel
  have s2 : strOfNums [1] = ⟨#[1]⟩ := by decide +kernel
  have s3 : strOfNums [2, 97, 98] = ⟨#[2, 97, 98]⟩ := by decide +kernel
  rw [s1] at hcv1
  rw [s2] at hcv2
  rw [s3] at hcv3
  clear s1 s2 s3
  go_wp2_with fail
  refine (num_any _ _).mono ?_
  rintro e w' ⟨rfl, rfl⟩
  go_wp2_with fail
  refine (num_any _ _).mono ?_
  rintro e w' ⟨rfl, rfl⟩
  go_wp2_with fail
  refine (num_any _ _).mono ?_
  rintro e w' ⟨rfl, rfl⟩
  go_wp2
  go_ret
  exact ⟨rfl, below_step (below_step b1 b2) b3⟩
end Go.Proofs.YtpgcbdopnkbmhaaDoor.Kn
