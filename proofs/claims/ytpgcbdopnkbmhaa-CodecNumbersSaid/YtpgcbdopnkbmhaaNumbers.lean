/- The law CodecNumbers, walked: it answers true for every number. -/
import Derived.Test.YtpgcbdopnkbmhaaKn
import Derived.Outline
namespace Go.Proofs.Ytpgcbdopnkbmhaa.Numbers
open Go.RowKit Go.Proofs.YtpgcbdopnkbmhaaW.PrintWords Go.Proofs.YtpgcbdopnkbmhaaW.PrintLast Go.Proofs.YtpgcbdopnkbmhaaW.PrintMore
open Go.Proofs.Ytpgcbdopnkbmhaa.A Go.Proofs.Ytpgcbdopnkbmhaa.Cn Go.Proofs.Ytpgcbdopnkbmhaa.Kn
set_option maxHeartbeats 1000000 in
theorem walk (n : Int) (w : World) : Calls Try.prog 3 #[.int .i64 n] w fun e w' => e = .returned (.bool true) ∧ Below w.heap.size w w' := by
  obtain ⟨t1, t2, ht⟩ : ∃ t1 t2, numB n = (t1, t2) := ⟨_, _, rfl⟩
  obtain ⟨u1, u2, hu⟩ : ∃ u1 u2, sigB n = (u1, u2) := ⟨_, _, rfl⟩
  have E1 := Aside0.mk ((number_is n).trans (congrArg some ht))
  have E2 := Aside0.mk ((ref_number_is n).trans (congrArg some ht))
  have E3 := Aside0.mk ((signed_is n).trans (congrArg some hu))
  have E4 := Aside0.mk ((ref_signed_is n).trans (congrArg some hu))
  clear ht hu
  go_enter Try.func3, Try.ntmps3
  go_wp2_with fail
  refine (codec_Number.calls 8 n _ _ _ E1.out).mono ?_
  rintro e w1 ⟨v1, rfl, h1, b1⟩
  go_wp2_with fail
  refine (icehouseref01_Number.calls 8 n _ _ _ E2.out).mono ?_
  rintro e w2 ⟨v2, rfl, h2, b2⟩
  replace h1 := Kd.R_below h1 b2
  replace b1 := below_step b1 b2
  clear b2
  go_wp2_with fail
  refine (codec_Signed.calls 8 n _ _ _ E3.out).mono ?_
  rintro e w3 ⟨v3, rfl, h3, b3⟩
  replace h1 := Kd.R_below h1 b3
  replace h2 := Kd.R_below h2 b3
  replace b1 := below_step b1 b3
  clear b3
  go_wp2_with fail
  refine (icehouseref01_Signed.calls 9 n _ _ _ E4.out).mono ?_
  rintro e w4 ⟨v4, rfl, h4, b4⟩
  replace h1 := Kd.R_below h1 b4
  replace h2 := Kd.R_below h2 b4
  replace h3 := Kd.R_below h3 b4
  replace b1 := below_step b1 b4
  clear b4
  have hcv1 := own_string (P := Try.prog) Try.underlying22 Try.underlying5 Try.underlying9 (Kd.own_of_R h1)
  have hcv2 := own_string (P := Try.prog) Try.underlying22 Try.underlying5 Try.underlying9 (Kd.own_of_R h2)
  have hcv3 := own_string (P := Try.prog) Try.underlying22 Try.underlying5 Try.underlying9 (Kd.own_of_R h3)
  have hcv4 := own_string (P := Try.prog) Try.underlying22 Try.underlying5 Try.underlying9 (Kd.own_of_R h4)
  go_wp2_with fail
  refine (num_any _ _).mono ?_
  rintro e w' ⟨rfl, rfl⟩
  go_wp2_with fail
  refine (num_any _ _).mono ?_
  rintro e w' ⟨rfl, rfl⟩
  go_wp2_with fail
  refine (knows_true _).mono ?_
  rintro e w5 ⟨rfl, b5⟩
  go_wp2
  go_ret
  exact ⟨rfl, below_step b1 b5⟩
end Go.Proofs.Ytpgcbdopnkbmhaa.Numbers
