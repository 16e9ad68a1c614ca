/- The law CodecNil, walked: it answers true. -/
import Derived.Test.YtpgcbdopnkbmhaaNo
import Derived.Outline
namespace Go.Proofs.Ytpgcbdopnkbmhaa.Nil
open Go.RowKit Go.Proofs.YtpgcbdopnkbmhaaW.PrintWords Go.Proofs.YtpgcbdopnkbmhaaW.PrintLast Go.Proofs.YtpgcbdopnkbmhaaW.PrintMore
open Go.Proofs.Ytpgcbdopnkbmhaa.A Go.Proofs.Ytpgcbdopnkbmhaa.Cn Go.Proofs.Ytpgcbdopnkbmhaa.Kn Go.Proofs.Ytpgcbdopnkbmhaa.No
def Rel (w : World) (d i : Value) (w' : World) : Prop := Below w.heap.size w w' ∧ NoneD w' d ∧ ∃ k : Nat, k ≤ 2 ∧ i = .int .i64 k
set_option maxHeartbeats 1000000 in
theorem walk (w : World) : Calls Try.prog 4 #[] w fun e w' => e = .returned (.bool true) ∧ Below w.heap.size w w' := by
  go_enter Try.func4, Try.ntmps4
  go_wp2
  go_loopw [1, 2] (fun d i w' => Rel w d i w') (fun _ i _ => 2 - (intOf i).toNat)
  case atStart => exact ⟨Below.refl _ _, .inl rfl, 0, by omega, rfl⟩
  case round =>
    obtain ⟨hb, hn, k, hk, rfl⟩ := hrel
    have HB := Aside0.mk hb
    have HN := Aside0.mk hn
    clear hb hn
    by_cases hlt : k < 2
    · go_wp2_with fail
      refine (number0 _ _ HN.out).mono ?_
      rintro e w' ⟨rfl, rfl⟩
      go_wp2_with fail
      refine (signed0 _ _ HN.out).mono ?_
      rintro e w' ⟨rfl, rfl⟩
      go_wp2_with fail
      refine (left0 _ _ HN.out).mono ?_
      rintro e w' ⟨rfl, rfl⟩
      go_wp2_with fail
      refine (text0 _ _ HN.out).mono ?_
      rintro e w' ⟨rfl, rfl⟩
      go_wp2_with fail
      refine (err1 _ _ HN.out).mono ?_
      rintro e w' ⟨rfl, rfl⟩
      go_wp2_with fail
      refine (num_any _ _).mono ?_
      rintro e w' ⟨rfl, rfl⟩
      go_wp2_with fail
      refine (done1 _ _ HN.out).mono ?_
      rintro e w' ⟨rfl, rfl⟩
      go_wp2_with fail
      refine (num_any _ _).mono ?_
      rintro e w' ⟨rfl, rfl⟩
      go_wp2
      trace_state
      go_roundw
      case rel => exact ⟨below_alloc HB.out _, .inr ⟨_, rfl, by simp⟩, k + 1, by omega, by go_num⟩
      case measure => simp [intOf]; omega
    · go_wp2_with fail
      refine (knows_true _).mono ?_
      rintro e w5 ⟨rfl, b5⟩
      go_wp2
      go_ret
      exact ⟨rfl, below_step HB.out b5⟩
end Go.Proofs.Ytpgcbdopnkbmhaa.Nil
