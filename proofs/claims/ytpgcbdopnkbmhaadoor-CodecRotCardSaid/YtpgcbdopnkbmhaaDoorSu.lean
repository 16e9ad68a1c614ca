/- codec.Sum, walked: the sum of any bytes, where the table lies as its text lays it. -/
import Derived.Test.YtpgcbdopnkbmhaaDoorCr
import Derived.Test.YtpgcbdopnkbmhaaDoorFr
import Derived.Outline
namespace Go.Proofs.YtpgcbdopnkbmhaaDoor.Su
set_option linter.unusedVariables false
open Go.RowKit Go.Proofs.YtpgcbdopnkbmhaaDoorW.PrintWords Go.Proofs.YtpgcbdopnkbmhaaDoorW.PrintLast Go.Proofs.YtpgcbdopnkbmhaaDoorW.PrintMore
open Go.Proofs.YtpgcbdopnkbmhaaDoor.A Go.Proofs.YtpgcbdopnkbmhaaDoor.Cr Go.Proofs.YtpgcbdopnkbmhaaDoor.Fr
/-- the table's cells -/
def Tab (w : World) : Prop := ∀ i : Nat, i < 16 → w.cell? ⟨0, i, none⟩ = some (.int .u32 (tab.getD i 0))
theorem tab_range : ∀ i : Fin 16, 0 ≤ tab.getD i.val 0 ∧ tab.getD i.val 0 < 4294967296 := by decide +kernel
theorem get_byte {w : World} {A : Option Addr} {l : List Int} (h : (Kd.int .u8).C w A l.length l) (i : Nat) (hi : i < l.length) : ∃ ad, A = some ad ∧ w.cell? (ad.add i) = some (.int .u8 l[i]) := by
  obtain ⟨ad, e, hc⟩ := (Kd.reads_of_C (d := (0 : Int)) h).2.2 (by omega)
  exact ⟨ad, e, by rw [hc i hi]; simp [hi]⟩
/-- a look: the index, the cell -/
theorem look (w : World) (hT : Tab w) (c y : BitVec 32) : ∃ i t : Int, Go.bits .and .u32 (Go.bits .xor .u32 (I c) (I y)) 15 = i ∧ 0 ≤ i ∧ i < 16 ∧ w.cell? ⟨0, i.toNat, none⟩ = some (.int .u32 t) ∧ Go.bits .xor .u32 (I (c >>> 4)) t = I (half c y) := by
  have hi := and15_lt (c ^^^ y)
  refine ⟨I ((c ^^^ y) &&& 15#32), tab.getD ((c ^^^ y) &&& 15#32).toNat 0, ?_, ?_, ?_, ?_, ?_⟩
  · rw [xor_I, show (15 : Int) = I 15#32 from rfl, and_I]
  · exact (I_range _).1
  · unfold I; omega
  · have := hT _ hi
    unfold I
    rw [Int.toNat_natCast]
    exact this
  · have hr := tab_range ⟨_, hi⟩
    simp only at hr
    rw [I_of _ hr.1 hr.2, xor_I]
    rfl
set_option maxHeartbeats 2000000 in
theorem sum_is (A : Option Addr) (c0 : Nat) (xs : List Int) (w : World) (hC : (Kd.int .u8).C w A xs.length xs) (hb : ∀ c ∈ xs, 0 ≤ c ∧ c < 256) (hT : Tab w) :
    Calls Tryd.prog 8 #[.slice A xs.length c0] w fun e w' => e = .returned (.int .u32 (crc xs)) ∧ w = w' := by
  have hlm := Kd.C_max hC
  have HC := Aside0.mk hC
  have HT := Aside0.mk hT
  have HBY := Aside0.mk hb
  clear hC hT hb
  go_enter Tryd.func8, Tryd.ntmps8
  go_wp2
  go_loop [3, 8] (fun cv iv => ∃ (k : Nat), k ≤ xs.length ∧ iv = .int .i64 k ∧ cv = .int .u32 (I (reg 0xffffffff#32 (xs.take k)))) (fun _ iv => xs.length - (intOf iv).toNat)
  case atStart => exact ⟨0, Nat.zero_le _, rfl, rfl⟩
  case round =>
    obtain ⟨k, hk, rfl, rfl⟩ := hrel
    by_cases h1 : k < xs.length
    · obtain ⟨ad, rfl, hcell⟩ := get_byte HC.out k h1
      have hbi := HBY.out xs[k] (List.getElem_mem h1)
      have htake : reg 0xffffffff#32 (xs.take (k + 1)) = byte (reg 0xffffffff#32 (xs.take k)) (BitVec.ofInt 32 xs[k]) := by
        rw [List.take_succ_eq_append_getElem h1, reg_app]; rfl
      have hxI := I_of xs[k] hbi.1 (by omega)
      obtain ⟨x, hx⟩ : ∃ x, x = BitVec.ofInt 32 xs[k] := ⟨_, rfl⟩
      have hx256 : x.toNat < 256 := by rw [hx, BitVec.toNat_ofInt]; omega
      rw [← hx] at hxI htake
      rw [hxI] at hcell
      obtain ⟨c, hc⟩ : ∃ c, c = reg 0xffffffff#32 (xs.take k) := ⟨_, rfl⟩
      rw [← hc] at htake ⊢
      have HTK := Aside0.mk htake
      obtain ⟨i1, t1, e1, r1, r2, k1, g1⟩ := look w HT.out c x
      obtain ⟨i2, t2, e2, s1, s2, k2, g2⟩ := look w HT.out (half c x) (x >>> 4)
      have hsx : I x / (16 : Int) = I (x >>> 4) := shr_I x 4
      have hsc : I c / (16 : Int) = I (c >>> 4) := shr_I c 4
      have hsh : I (half c x) / (16 : Int) = I (half c x >>> 4) := shr_I _ 4
      have b1 := (I_range x).1
      have b2 : I x < 256 := by unfold I; omega
      have b3 := (I_range (x >>> 4)).1
      have b5 : I (x >>> 4) < 256 := by rw [← hsx]; omega
      have b4 := (I_range c).1
      have b6 := (I_range (half c x)).1
      have hend : half (half c x) (x >>> 4) = byte c x := (byte_is c x hx256).symm
      rw [hend] at g2
      rw [← htake] at g2
      rw [← hsx] at e2 b3 b5
      rw [← hsc] at g1
      rw [← hsh] at g2
      obtain ⟨X, hX⟩ : ∃ X, X = I x := ⟨_, rfl⟩
      obtain ⟨C, hCC⟩ : ∃ C, C = I c := ⟨_, rfl⟩
      obtain ⟨H, hH⟩ : ∃ H, H = I (half c x) := ⟨_, rfl⟩
      rw [← hX] at b1 b2 hcell e1 e2 b3 b5
      rw [← hCC] at b4 e1 g1 ⊢
      rw [← hH] at g1 e2 b6 g2
      obtain ⟨Y1, hY1⟩ : ∃ Y1, Go.bits .xor .u32 C X = Y1 := ⟨_, rfl⟩
      obtain ⟨Y2, hY2⟩ : ∃ Y2, Go.bits .xor .u32 H (X / 16) = Y2 := ⟨_, rfl⟩
      rw [hY1] at e1
      rw [hY2] at e2
      clear hX hCC hH hend hsx hsc hsh
      clear hxI htake hx hc hbi
      go_wp2
      go_round
      case rel => exact ⟨k + 1, by omega, by go_num, rfl⟩
      case measure => simp [intOf]; omega
    · have hk2 : xs.take k = xs := List.take_of_length_le (by omega)
      have hcr : Go.bits .xor .u32 IntKind.u32.max (I (reg 0xffffffff#32 xs)) = crc xs := by
        rw [show IntKind.u32.max = I 0xffffffff#32 from by decide +kernel, xor_I, BitVec.xor_comm]; rfl
      rw [hk2]
      obtain ⟨C, hCC⟩ : ∃ C, C = I (reg 0xffffffff#32 xs) := ⟨_, rfl⟩
      rw [← hCC] at hcr ⊢
      have hcc := (I_range (reg 0xffffffff#32 xs)).1
      rw [← hCC] at hcc
      have HCR := Aside0.mk hcr
      clear hCC hcr hk2
      go_wp2
      go_ret
      exact ⟨by first | rfl | exact congrArg (fun x => Ending.returned (.int .u32 x)) HCR.out, rfl⟩
end Go.Proofs.YtpgcbdopnkbmhaaDoor.Su
