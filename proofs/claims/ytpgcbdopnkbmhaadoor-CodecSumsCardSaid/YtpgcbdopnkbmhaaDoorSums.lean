/- The law CodecSums, walked: it answers true for all bytes, where the table lies as its text lays it. -/
import Derived.Test.YtpgcbdopnkbmhaaDoorLe
import Derived.Test.YtpgcbdopnkbmhaaDoorKn
import Derived.Test.YtpgcbdopnkbmhaaDoorTb
namespace Go.Proofs.YtpgcbdopnkbmhaaDoor.Sums
set_option linter.unusedVariables false
open Go.RowKit Go.Proofs.YtpgcbdopnkbmhaaDoorW.PrintWords Go.Proofs.YtpgcbdopnkbmhaaDoorW.PrintLast Go.Proofs.YtpgcbdopnkbmhaaDoorW.PrintMore
open Go.Proofs.YtpgcbdopnkbmhaaDoor.A Go.Proofs.YtpgcbdopnkbmhaaDoor.Cr Go.Proofs.YtpgcbdopnkbmhaaDoor.Fr Go.Proofs.YtpgcbdopnkbmhaaDoor.Su Go.Proofs.YtpgcbdopnkbmhaaDoor.Le Go.Proofs.YtpgcbdopnkbmhaaDoor.Kn
theorem Tab_below {w w1 : World} (h : Tab w) (hb : Below w.heap.size w w1) : Tab w1 := fun i hi => pw_cell_below hb (h i hi)
set_option maxHeartbeats 1000000 in
theorem walk (A : Option Addr) (c : Nat) (l : List Int) (w : World) (hC : (Kd.int .u8).C w A l.length l) (hb : ∀ x ∈ l, 0 ≤ x ∧ x < 256) (hc : l.length ≤ c) (hl : l.length ≤ 140737488351232) (hT : Tab w) :
    Calls Tryd.prog 3 #[.slice A l.length c] w fun e w' => e = .returned (.bool true) ∧ Below w.heap.size w w' := by
  have HC := Aside0.mk hC
  have HT := Aside0.mk hT
  have HL := Aside0.mk (lent_is A c l w hC hl)
  have HBY := Aside0.mk hb
  have HRS := Aside0.mk (ref_sum_is l hb (by omega))
  clear hC hT hb
  go_enter Tryd.func3, Tryd.ntmps3
  go_wp2_with fail
  refine HL.out.mono ?_
  rintro e w1 ⟨A', c', rfl, hlv, hb1⟩
  have HLV := Aside0.mk hlv
  have HB1 := Aside0.mk hb1
  obtain ⟨hc', hR⟩ := hlv
  obtain ⟨_, _, hCx⟩ := Kd.R_reads' hR
  have hn0 : (l ++ [77, 78]).length = l.length + 2 := by simp
  rw [hn0] at hCx
  have hT' := Kd.C_take (m := l.length) (xs := l ++ [77, 78]) (by rw [hn0]; exact hCx) (by simp)
  have ht : (l ++ [77, 78]).take l.length = l := by simp
  rw [ht] at hT'
  have HS := Aside0.mk (sum_is A' c' l w1 hT' HBY.out (Tab_below HT.out hb1))
  have HRR := Aside0.mk (icehouseref01_Sum.calls _ A c l _ w1 (Kd.C_below HC.out hb1) hc HRS.out)
  clear hR hCx hn0 hT' hb1 hc'
  go_wp2_with fail
  refine HS.out.mono ?_
  rintro e w' ⟨rfl, rfl⟩
  go_wp2_with fail
  refine HRR.out.mono ?_
  rintro e w' ⟨rfl, ⟨nd, rfl⟩⟩
  go_wp2_with fail
  refine (stays_is A' c' A c l (w1.drewN nd) w.heap.size ⟨HLV.out.1, Kd.R_drewN HLV.out.2 nd⟩ (Kd.C_drewN (Kd.C_below HC.out HB1.out) nd) hl).mono ?_
  rintro e w' ⟨rfl, ⟨nd2, rfl⟩⟩
  go_wp2_with fail
  refine (knows_true _).mono ?_
  rintro e w5 ⟨rfl, b5⟩
  have B5 := Aside0.mk b5
  clear b5
  go_wp2
  go_ret
  exact ⟨rfl, below_step (pw_below_drewN HB1.out (nd + nd2)) B5.out⟩
end Go.Proofs.YtpgcbdopnkbmhaaDoor.Sums
