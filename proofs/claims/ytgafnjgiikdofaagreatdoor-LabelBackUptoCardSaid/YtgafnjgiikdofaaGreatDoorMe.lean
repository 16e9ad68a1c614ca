/- Plain laws: UTF-8, Quote, Unquote; contracts of Sort and of the document's Quote. -/
import Derived.Test.YtgafnjgiikdofaaGreatDoorMa
import Derived.Lib.TrimU
import Derived.Lib.ValidU
import Derived.Test.YtgafnjgiikdofaaGreatDoorMc
import Derived.BigCall
import Derived.Deep.DeepMust
import Derived.Test.YtgafnjgiikdofaaGreatDoorMd
import Derived.Test.YtgafnjgiikdofaaGreatDoorSz
import Derived.Test.YtgafnjgiikdofaaGreatDoorLe
namespace Go.Proofs.YtgafnjgiikdofaaGreatDoor.Ut
set_option linter.unusedVariables false
set_option linter.unusedSimpArgs false
open Go.RowKit Go.Proofs.YtgafnjgiikdofaaGreatDoor.A
open Go.Proofs.YtgafnjgiikdofaaGreatDoorW.PrintWords Go.Proofs.YtgafnjgiikdofaaGreatDoorW.PrintLast Go.Proofs.YtgafnjgiikdofaaGreatDoorW.PrintMore
theorem get!_eq (s : ByteArray) (i : Nat) : s.get! i = s.data.toList.getD i 0 := by
  obtain ⟨d⟩ := s
  show d[i]! = d.toList.getD i 0
  by_cases h : i < d.size
  · rw [getElem!_pos d i h, List.getD_eq_getElem?_getD, List.getElem?_eq_getElem (by simpa using h)]
    rfl
  · rw [getElem!_neg d i h, List.getD_eq_getElem?_getD, List.getElem?_eq_none (by simpa using h)]
    rfl
theorem bt_eq (s : ByteArray) (i : Nat) : bt s (i : Int) = ((s.get! i).toNat : Int) := by
  rw [get!_eq]
  unfold bt
  split
  · rename_i h
    simp only [Int.toNat_natCast] at h ⊢
    rw [List.getD_eq_getElem?_getD, List.getElem?_eq_getElem (by rw [← Lib.size_eq]; exact h)]
    rfl
  · rename_i h
    simp only [Int.toNat_natCast] at h
    rw [List.getD_eq_getElem?_getD, List.getElem?_eq_none (by rw [← Lib.size_eq]; omega)]
    rfl
theorem decodeL_eq (l : List UInt8) : Lib.decodeL l = Lib.decodeN l.length (l.getD 0 0).toNat (l.getD 1 0).toNat (l.getD 2 0).toNat (l.getD 3 0).toNat := by
  unfold Lib.decodeL
  rw [Lib.decode_at]
  simp only [get!_eq, Nat.sub_zero, Nat.zero_add]
  rfl
theorem w64 {x : Int} (h0 : -4611686018427387904 ≤ x) (h1 : x ≤ 4611686018427387904) : wrap64 x = x := by unfold wrap64; omega
theorem rl_end (k : Nat) (s : ByteArray) (c n least i : Int) (h : n ≤ i) :
    icehouseref02_Rune.l0 (k + 1) s c n least i = some (if c < least ∨ 1114111 < c ∨ (55296 ≤ c ∧ c < 57344) then (0, 0) else (c, n)) := by
  simp only [icehouseref02_Rune.l0]
  rw [if_neg (by omega)]
  repeat' split
  all_goals first | rfl | (exfalso; omega)
theorem rl_bad (k : Nat) (s : ByteArray) (c n least : Int) (i : Nat) (h : (i : Int) < n) (hs : i < s.size) (hb : (s.get! i).toNat < 128 ∨ 192 ≤ (s.get! i).toNat) :
    icehouseref02_Rune.l0 (k + 1) s c n least i = some (0, 0) := by
  simp only [icehouseref02_Rune.l0, bt_eq]
  rw [if_pos h, if_pos (by omega), if_pos (by omega)]
  rcases hb with hb | hb
  · rw [if_pos (by omega)]
  · rw [if_neg (by omega), if_pos (by omega)]
theorem rl_step (k : Nat) (s : ByteArray) (c n least : Int) (i : Nat) (h : (i : Int) < n) (hs : i < s.size) (hn : n ≤ 4) (hc0 : 0 ≤ c) (hc1 : c ≤ 1099511627776) (hb : 128 ≤ (s.get! i).toNat ∧ (s.get! i).toNat < 192) :
    icehouseref02_Rune.l0 (k + 1) s c n least i = icehouseref02_Rune.l0 k s (64 * c + (s.get! i).toNat - 128) n least (i + 1 : Nat) := by
  simp only [icehouseref02_Rune.l0, bt_eq]
  rw [if_pos h, if_pos (by omega), if_pos (by omega), if_neg (by omega), if_neg (by omega)]
  rw [w64 (x := 64 * c) (by omega) (by omega), w64 (x := ((s.get! i).toNat : Int)) (by omega) (by omega), w64 (x := 64 * c + ((s.get! i).toNat : Int)) (by omega) (by omega), w64 (x := 64 * c + ((s.get! i).toNat : Int) - 128) (by omega) (by omega), w64 (x := (i : Int) + 1) (by omega) (by omega)]
  rfl
/-- what the document's Rune answers of what the decoder answers -/
def runeV (d : Nat × Nat) : Int × Int := if d.1 = 65533 ∧ d.2 = 1 then (0, 0) else ((d.1 : Int), (d.2 : Int))
set_option maxHeartbeats 4000000 in
theorem rune_is (s : ByteArray) (h : 0 < s.size) (k : Nat) : icehouseref02_Rune.f (k + 8) s = some (runeV (Utf8.decode s 0)) := by
  rw [Lib.decode_at]
  simp only [Nat.sub_zero, Nat.zero_add]
  have hb0 := (s.get! 0).toNat_lt
  have hb1 := (s.get! 1).toNat_lt
  have hb2 := (s.get! 2).toNat_lt
  have hb3 := (s.get! 3).toNat_lt
  have e0 : bt s 0 = ((s.get! 0).toNat : Int) := bt_eq s 0
  unfold icehouseref02_Rune.f
  rw [if_neg (by omega), if_pos (by omega), e0, w64 (x := ((s.get! 0).toNat : Int)) (by omega) (by omega)]
  obtain ⟨n, hn⟩ : ∃ n, n = s.size := ⟨_, rfl⟩
  by_cases c1 : (s.get! 0).toNat < 128
  · rw [if_pos (by omega)]
    unfold Lib.decodeN runeV
    rw [if_pos c1]
    rw [if_neg (by simp only; omega)]
    rfl
  rw [if_neg (by omega)]
  have key2 : ∀ (m c0 least : Int) (kk : Nat), (s.size : Int) < m → icehouseref02_Rune.j2 (kk + 1) s c0 m least = some (0, 0) := by
    intro m c0 least kk hm
    simp only [icehouseref02_Rune.j2]
    rw [if_pos hm]
  have key3 : ∀ (m c0 least : Int) (kk : Nat), m ≤ s.size → icehouseref02_Rune.j2 (kk + 1) s c0 m least = icehouseref02_Rune.l0 kk s c0 m least ((1 : Nat) : Int) := by
    intro m c0 least kk hm
    simp only [icehouseref02_Rune.j2]
    rw [if_neg (by omega)]
    rfl
  have j0t : ∀ (c : Int) (kk : Nat), icehouseref02_Rune.j0 (kk + 1) s c true = icehouseref02_Rune.j2 kk s (wrap64 (c - 192)) 2 128 := fun c kk => by simp only [icehouseref02_Rune.j0, if_true]
  have j0f : ∀ (c : Int) (kk : Nat), icehouseref02_Rune.j0 (kk + 1) s c false = if c ≥ 224 then icehouseref02_Rune.j1 kk s c (decide (c < 240)) else icehouseref02_Rune.j1 kk s c false := fun c kk => by
    simp only [icehouseref02_Rune.j0]; rfl
  have j1t : ∀ (c : Int) (kk : Nat), icehouseref02_Rune.j1 (kk + 1) s c true = icehouseref02_Rune.j2 kk s (wrap64 (c - 224)) 3 2048 := fun c kk => by simp only [icehouseref02_Rune.j1, if_true]
  have j1f : ∀ (c : Int) (kk : Nat), icehouseref02_Rune.j1 (kk + 1) s c false = if c ≥ 240 then (if c < 248 then icehouseref02_Rune.j2 kk s (wrap64 (c - 240)) 4 65536 else some (0, 0)) else some (0, 0) := fun c kk => by
    simp only [icehouseref02_Rune.j1]; rfl
  by_cases c2 : 192 ≤ (s.get! 0).toNat
  · rw [if_pos (by omega)]
    by_cases c3 : (s.get! 0).toNat < 224
    · rw [show decide (((s.get! 0).toNat : Int) < 224) = true from decide_eq_true (by omega), show k + 8 = k + 7 + 1 from rfl, j0t, w64 (by omega) (by omega)]
      by_cases hn : s.size < 2
      · rw [show k + 7 = k + 6 + 1 from rfl, key2 _ _ _ _ (by omega)]
        rw [show Lib.decodeN s.size (s.get! 0).toNat (s.get! 1).toNat (s.get! 2).toNat (s.get! 3).toNat = (65533, 1) from by unfold Lib.decodeN; rw [if_neg c1, if_neg (by omega), if_neg (by omega), if_neg (by omega)]]
        rfl
      rw [show k + 7 = k + 6 + 1 from rfl, key3 _ _ _ _ (by omega)]
      by_cases h1 : 128 ≤ (s.get! 1).toNat ∧ (s.get! 1).toNat < 192
      · rw [show k + 6 = k + 5 + 1 from rfl, rl_step (k + 5) s _ _ _ 1 (by omega) (by omega) (by omega) (by omega) (by omega) h1]
        rw [show k + 5 = k + 4 + 1 from rfl, rl_end _ _ _ _ _ _ (by omega)]
        have e : (64 * (((s.get! 0).toNat : Int) - 192) + ((s.get! 1).toNat : Int) - 128) = (((s.get! 0).toNat % 32 * 64 + (s.get! 1).toNat % 64 : Nat) : Int) := by omega
        rw [e]
        by_cases hq : (s.get! 0).toNat % 32 * 64 + (s.get! 1).toNat % 64 ≥ 128
        · rw [show Lib.decodeN s.size (s.get! 0).toNat (s.get! 1).toNat (s.get! 2).toNat (s.get! 3).toNat = ((s.get! 0).toNat % 32 * 64 + (s.get! 1).toNat % 64, 2) from by unfold Lib.decodeN; rw [if_neg c1, if_pos (by omega), if_pos hq]]
          unfold runeV
          rw [if_neg (by omega), if_neg (by simp only; omega)]
          rfl
        · rw [show Lib.decodeN s.size (s.get! 0).toNat (s.get! 1).toNat (s.get! 2).toNat (s.get! 3).toNat = (65533, 1) from by unfold Lib.decodeN; rw [if_neg c1, if_pos (by omega), if_neg hq]]
          rw [if_pos (by omega)]
          rfl
      · rw [show k + 6 = k + 5 + 1 from rfl, rl_bad (k + 5) s _ _ _ 1 (by omega) (by omega) (by omega)]
        rw [show Lib.decodeN s.size (s.get! 0).toNat (s.get! 1).toNat (s.get! 2).toNat (s.get! 3).toNat = (65533, 1) from by unfold Lib.decodeN; rw [if_neg c1, if_neg (by omega), if_neg (by omega), if_neg (by omega)]]
        rfl
    rw [show decide (((s.get! 0).toNat : Int) < 224) = false from decide_eq_false (by omega), show k + 8 = k + 7 + 1 from rfl, j0f, if_pos (by omega)]
    by_cases c4 : (s.get! 0).toNat < 240
    · rw [show decide (((s.get! 0).toNat : Int) < 240) = true from decide_eq_true (by omega), show k + 7 = k + 6 + 1 from rfl, j1t, w64 (by omega) (by omega)]
      by_cases hn : s.size < 3
      · rw [show k + 6 = k + 5 + 1 from rfl, key2 _ _ _ _ (by omega)]
        rw [show Lib.decodeN s.size (s.get! 0).toNat (s.get! 1).toNat (s.get! 2).toNat (s.get! 3).toNat = (65533, 1) from by unfold Lib.decodeN; rw [if_neg c1, if_neg (by omega), if_neg (by omega), if_neg (by omega)]]
        rfl
      rw [show k + 6 = k + 5 + 1 from rfl, key3 _ _ _ _ (by omega)]
      by_cases h1 : 128 ≤ (s.get! 1).toNat ∧ (s.get! 1).toNat < 192
      · rw [show k + 5 = k + 4 + 1 from rfl, rl_step (k + 4) s _ _ _ 1 (by omega) (by omega) (by omega) (by omega) (by omega) h1]
        by_cases h2 : 128 ≤ (s.get! 2).toNat ∧ (s.get! 2).toNat < 192
        · rw [show k + 4 = k + 3 + 1 from rfl, rl_step (k + 3) s _ _ _ 2 (by omega) (by omega) (by omega) (by omega) (by omega) h2]
          rw [show k + 3 = k + 2 + 1 from rfl, rl_end _ _ _ _ _ _ (by omega)]
          have e : (64 * (64 * (((s.get! 0).toNat : Int) - 224) + ((s.get! 1).toNat : Int) - 128) + ((s.get! 2).toNat : Int) - 128) = (((s.get! 0).toNat % 16 * 4096 + (s.get! 1).toNat % 64 * 64 + (s.get! 2).toNat % 64 : Nat) : Int) := by omega
          rw [e]
          by_cases hq : (s.get! 0).toNat % 16 * 4096 + (s.get! 1).toNat % 64 * 64 + (s.get! 2).toNat % 64 ≥ 2048 ∧ ((s.get! 0).toNat % 16 * 4096 + (s.get! 1).toNat % 64 * 64 + (s.get! 2).toNat % 64 < 55296 ∨ (57344 ≤ (s.get! 0).toNat % 16 * 4096 + (s.get! 1).toNat % 64 * 64 + (s.get! 2).toNat % 64 ∧ (s.get! 0).toNat % 16 * 4096 + (s.get! 1).toNat % 64 * 64 + (s.get! 2).toNat % 64 ≤ 1114111))
          · rw [show Lib.decodeN s.size (s.get! 0).toNat (s.get! 1).toNat (s.get! 2).toNat (s.get! 3).toNat = ((s.get! 0).toNat % 16 * 4096 + (s.get! 1).toNat % 64 * 64 + (s.get! 2).toNat % 64, 3) from by unfold Lib.decodeN; rw [if_neg c1, if_neg (by omega), if_pos (by omega), if_pos hq]]
            unfold runeV
            rw [if_neg (by omega), if_neg (by simp only; omega)]
            rfl
          · rw [show Lib.decodeN s.size (s.get! 0).toNat (s.get! 1).toNat (s.get! 2).toNat (s.get! 3).toNat = (65533, 1) from by unfold Lib.decodeN; rw [if_neg c1, if_neg (by omega), if_pos (by omega), if_neg hq]]
            rw [if_pos (by omega)]
            rfl
        · rw [show k + 4 = k + 3 + 1 from rfl, rl_bad (k + 3) s _ _ _ 2 (by omega) (by omega) (by omega)]
          rw [show Lib.decodeN s.size (s.get! 0).toNat (s.get! 1).toNat (s.get! 2).toNat (s.get! 3).toNat = (65533, 1) from by unfold Lib.decodeN; rw [if_neg c1, if_neg (by omega), if_neg (by omega), if_neg (by omega)]]
          rfl
      · rw [show k + 5 = k + 4 + 1 from rfl, rl_bad (k + 4) s _ _ _ 1 (by omega) (by omega) (by omega)]
        rw [show Lib.decodeN s.size (s.get! 0).toNat (s.get! 1).toNat (s.get! 2).toNat (s.get! 3).toNat = (65533, 1) from by unfold Lib.decodeN; rw [if_neg c1, if_neg (by omega), if_neg (by omega), if_neg (by omega)]]
        rfl
    rw [show decide (((s.get! 0).toNat : Int) < 240) = false from decide_eq_false (by omega), show k + 7 = k + 6 + 1 from rfl, j1f, if_pos (by omega)]
    by_cases c5 : (s.get! 0).toNat < 248
    · rw [if_pos (by omega), w64 (by omega) (by omega)]
      by_cases hn : s.size < 4
      · rw [show k + 6 = k + 5 + 1 from rfl, key2 _ _ _ _ (by omega)]
        rw [show Lib.decodeN s.size (s.get! 0).toNat (s.get! 1).toNat (s.get! 2).toNat (s.get! 3).toNat = (65533, 1) from by unfold Lib.decodeN; rw [if_neg c1, if_neg (by omega), if_neg (by omega), if_neg (by omega)]]
        rfl
      rw [show k + 6 = k + 5 + 1 from rfl, key3 _ _ _ _ (by omega)]
      by_cases h1 : 128 ≤ (s.get! 1).toNat ∧ (s.get! 1).toNat < 192
      · rw [show k + 5 = k + 4 + 1 from rfl, rl_step (k + 4) s _ _ _ 1 (by omega) (by omega) (by omega) (by omega) (by omega) h1]
        by_cases h2 : 128 ≤ (s.get! 2).toNat ∧ (s.get! 2).toNat < 192
        · rw [show k + 4 = k + 3 + 1 from rfl, rl_step (k + 3) s _ _ _ 2 (by omega) (by omega) (by omega) (by omega) (by omega) h2]
          by_cases h3 : 128 ≤ (s.get! 3).toNat ∧ (s.get! 3).toNat < 192
          · rw [show k + 3 = k + 2 + 1 from rfl, rl_step (k + 2) s _ _ _ 3 (by omega) (by omega) (by omega) (by omega) (by omega) h3]
            rw [show k + 2 = k + 1 + 1 from rfl, rl_end _ _ _ _ _ _ (by omega)]
            have e : (64 * (64 * (64 * (((s.get! 0).toNat : Int) - 240) + ((s.get! 1).toNat : Int) - 128) + ((s.get! 2).toNat : Int) - 128) + ((s.get! 3).toNat : Int) - 128) = (((s.get! 0).toNat % 8 * 262144 + (s.get! 1).toNat % 64 * 4096 + (s.get! 2).toNat % 64 * 64 + (s.get! 3).toNat % 64 : Nat) : Int) := by omega
            rw [e]
            by_cases hq : (s.get! 0).toNat % 8 * 262144 + (s.get! 1).toNat % 64 * 4096 + (s.get! 2).toNat % 64 * 64 + (s.get! 3).toNat % 64 ≥ 65536 ∧ ((s.get! 0).toNat % 8 * 262144 + (s.get! 1).toNat % 64 * 4096 + (s.get! 2).toNat % 64 * 64 + (s.get! 3).toNat % 64 < 55296 ∨ (57344 ≤ (s.get! 0).toNat % 8 * 262144 + (s.get! 1).toNat % 64 * 4096 + (s.get! 2).toNat % 64 * 64 + (s.get! 3).toNat % 64 ∧ (s.get! 0).toNat % 8 * 262144 + (s.get! 1).toNat % 64 * 4096 + (s.get! 2).toNat % 64 * 64 + (s.get! 3).toNat % 64 ≤ 1114111))
            · rw [show Lib.decodeN s.size (s.get! 0).toNat (s.get! 1).toNat (s.get! 2).toNat (s.get! 3).toNat = ((s.get! 0).toNat % 8 * 262144 + (s.get! 1).toNat % 64 * 4096 + (s.get! 2).toNat % 64 * 64 + (s.get! 3).toNat % 64, 4) from by unfold Lib.decodeN; rw [if_neg c1, if_neg (by omega), if_neg (by omega), if_pos (by omega), if_pos hq]]
              unfold runeV
              rw [if_neg (by omega), if_neg (by simp only; omega)]
              rfl
            · rw [show Lib.decodeN s.size (s.get! 0).toNat (s.get! 1).toNat (s.get! 2).toNat (s.get! 3).toNat = (65533, 1) from by unfold Lib.decodeN; rw [if_neg c1, if_neg (by omega), if_neg (by omega), if_pos (by omega), if_neg hq]]
              rw [if_pos (by omega)]
              rfl
          · rw [show k + 3 = k + 2 + 1 from rfl, rl_bad (k + 2) s _ _ _ 3 (by omega) (by omega) (by omega)]
            rw [show Lib.decodeN s.size (s.get! 0).toNat (s.get! 1).toNat (s.get! 2).toNat (s.get! 3).toNat = (65533, 1) from by unfold Lib.decodeN; rw [if_neg c1, if_neg (by omega), if_neg (by omega), if_neg (by omega)]]
            rfl
        · rw [show k + 4 = k + 3 + 1 from rfl, rl_bad (k + 3) s _ _ _ 2 (by omega) (by omega) (by omega)]
          rw [show Lib.decodeN s.size (s.get! 0).toNat (s.get! 1).toNat (s.get! 2).toNat (s.get! 3).toNat = (65533, 1) from by unfold Lib.decodeN; rw [if_neg c1, if_neg (by omega), if_neg (by omega), if_neg (by omega)]]
          rfl
      · rw [show k + 5 = k + 4 + 1 from rfl, rl_bad (k + 4) s _ _ _ 1 (by omega) (by omega) (by omega)]
        rw [show Lib.decodeN s.size (s.get! 0).toNat (s.get! 1).toNat (s.get! 2).toNat (s.get! 3).toNat = (65533, 1) from by unfold Lib.decodeN; rw [if_neg c1, if_neg (by omega), if_neg (by omega), if_neg (by omega)]]
        rfl
    · rw [if_neg (by omega)]
      rw [show Lib.decodeN s.size (s.get! 0).toNat (s.get! 1).toNat (s.get! 2).toNat (s.get! 3).toNat = (65533, 1) from by unfold Lib.decodeN; rw [if_neg c1, if_neg (by omega), if_neg (by omega), if_neg (by omega)]]
      rfl
  · rw [if_neg (by omega), show k + 8 = k + 7 + 1 from rfl, j0f, if_neg (by omega), show k + 7 = k + 6 + 1 from rfl, j1f, if_neg (by omega)]
    rw [show Lib.decodeN s.size (s.get! 0).toNat (s.get! 1).toNat (s.get! 2).toNat (s.get! 3).toNat = (65533, 1) from by unfold Lib.decodeN; rw [if_neg c1, if_neg (by omega), if_neg (by omega), if_neg (by omega)]]
    rfl
theorem extract_list (s : ByteArray) (k : Nat) : (s.extract k s.size).data.toList = s.data.toList.drop k := by
  rw [ByteArray.data_extract, Array.toList_extract, List.extract_eq_take_drop]
  apply List.take_of_length_le
  rw [List.length_drop, Lib.size_eq]
  exact Nat.le_refl _
theorem decodeL_of (s : ByteArray) : Utf8.decode s 0 = Lib.decodeL s.data.toList := rfl
theorem decodeN_le_n (n b0 b1 b2 b3 : Nat) (hn : 1 ≤ n) : (Lib.decodeN n b0 b1 b2 b3).2 ≤ n := by
  unfold Lib.decodeN
  repeat' split
  all_goals (simp only; omega)
theorem decodeL_le (l : List UInt8) (h : l ≠ []) : (Lib.decodeL l).2 ≤ l.length := by
  rw [decodeL_eq]
  exact decodeN_le_n _ _ _ _ _ (List.length_pos_iff.2 h)
theorem validGo_fuel : ∀ (n m : Nat) (l : List UInt8), l.length ≤ n → l.length ≤ m → Lib.validGoD n l = Lib.validGoD m l
  | 0, m, l, hn, _ => by
    have : l = [] := List.eq_nil_of_length_eq_zero (by omega)
    subst this
    cases m <;> simp [Lib.validGoD]
  | n + 1, m, l, hn, hm => by
    by_cases h : l = []
    · subst h
      cases m <;> simp [Lib.validGoD]
    · obtain ⟨m', rfl⟩ : ∃ m', m = m' + 1 := ⟨m - 1, by have := List.length_pos_iff.2 h; omega⟩
      unfold Lib.validGoD
      rw [if_neg h, if_neg h]
      have hw := Lib.decodeL_width l
      have := List.length_pos_iff.2 h
      rw [validGo_fuel n m' (l.drop (Lib.decodeL l).2) (by rw [List.length_drop]; omega) (by rw [List.length_drop]; omega)]
theorem valid_nil : Lib.validD [] = true := rfl
theorem valid_step (l : List UInt8) (h : l ≠ []) : Lib.validD l = if (Lib.decodeL l).1 = 65533 ∧ (Lib.decodeL l).2 = 1 then false else Lib.validD (l.drop (Lib.decodeL l).2) := by
  have hl := List.length_pos_iff.2 h
  have hw := Lib.decodeL_width l
  unfold Lib.validD
  obtain ⟨n, hn⟩ : ∃ n, l.length = n + 1 := ⟨l.length - 1, by omega⟩
  rw [hn]
  conv => lhs; unfold Lib.validGoD
  rw [if_neg h]
  rw [validGo_fuel n (l.drop (Lib.decodeL l).2).length _ (by rw [List.length_drop]; omega) (Nat.le_refl _)]
theorem good_is : ∀ (m k : Nat) (s : ByteArray), s.size ≤ m → m + 9 ≤ k → icehouseref02_Good.l0 k s = some (Lib.validD s.data.toList)
  | m, 0, s, _, hk => by omega
  | m, k + 1, s, hm, hk => by
    by_cases h0 : s.size = 0
    · simp only [icehouseref02_Good.l0]
      rw [if_neg (by omega)]
      have : s.data.toList = [] := List.eq_nil_of_length_eq_zero (by rw [← Lib.size_eq]; exact h0)
      rw [this, valid_nil]
    · simp only [icehouseref02_Good.l0]
      have hne : s.data.toList ≠ [] := by
        intro h; apply h0; rw [Lib.size_eq, h]; rfl
      obtain ⟨k', rfl⟩ : ∃ k', k = k' + 8 := ⟨k - 8, by omega⟩
      rw [if_pos (by omega), rune_is s (by omega) k', valid_step _ hne, decodeL_of]
      have hw := Lib.decodeL_width s.data.toList
      have hle := decodeL_le s.data.toList hne
      rw [← Lib.size_eq] at hle
      obtain ⟨m', rfl⟩ : ∃ m', m = m' + 1 := ⟨m - 1, by omega⟩
      simp only [Option.bind_some]
      unfold runeV
      by_cases hb : (Lib.decodeL s.data.toList).1 = 65533 ∧ (Lib.decodeL s.data.toList).2 = 1
      · rw [if_pos hb, if_pos hb]
        rfl
      · rw [if_neg hb, if_neg hb]
        simp only
        rw [if_neg (by omega), if_pos (by omega), if_pos (by omega), Int.toNat_natCast]
        rw [good_is m' (k' + 8) _ (by rw [ByteArray.size_extract]; omega) (by omega), extract_list]
theorem good_f (k : Nat) (s : ByteArray) (h : s.size + 9 ≤ k) : icehouseref02_Good.f k s = some (Lib.validD s.data.toList) := good_is s.size k s (Nat.le_refl _) h
theorem enc_is (c : Nat) (h : c < 55296 ∨ (57344 ≤ c ∧ c ≤ 1114111)) : Utf8.encode (c : Int) =
    if c < 128 then ⟨#[UInt8.ofNat c]⟩ else if c < 2048 then ⟨#[UInt8.ofNat (192 + c / 64), UInt8.ofNat (128 + c % 64)]⟩
    else if c < 65536 then ⟨#[UInt8.ofNat (224 + c / 4096), UInt8.ofNat (128 + c / 64 % 64), UInt8.ofNat (128 + c % 64)]⟩
    else ⟨#[UInt8.ofNat (240 + c / 262144), UInt8.ofNat (128 + c / 4096 % 64), UInt8.ofNat (128 + c / 64 % 64), UInt8.ofNat (128 + c % 64)]⟩ := by
  have hv : Utf8.valid (c : Int) = true := by
    unfold Utf8.valid
    simp
    omega
  unfold Utf8.encode
  simp only [hv, if_true, Int.toNat_natCast]
theorem u8 (x : UInt8) (n : Nat) (h : n = x.toNat) : UInt8.ofNat n = x := by subst h; simp
set_option maxHeartbeats 1000000 in
set_option maxRecDepth 100000 in
/-- a rune that was read stands there as it is written -/
theorem enc_dec (l : List UInt8) (hl : l ≠ []) (c n : Nat) (hd : Lib.decodeL l = (c, n)) (hok : ¬ (c = 65533 ∧ n = 1)) :
    (Utf8.encode (c : Int)).data.toList = l.take n ∧ (c < 128 → n = 1) ∧ (128 ≤ c → ∀ b ∈ l.take n, 128 ≤ b.toNat) ∧ c = (if c < 128 then (l.getD 0 0).toNat else c) := by
  rw [decodeL_eq] at hd
  have hb0 := (l.getD 0 0).toNat_lt
  have hb1 := (l.getD 1 0).toNat_lt
  have hb2 := (l.getD 2 0).toNat_lt
  have hb3 := (l.getD 3 0).toNat_lt
  unfold Lib.decodeN at hd
  split at hd
  · rename_i h0
    simp only [Prod.mk.injEq] at hd
    obtain ⟨rfl, rfl⟩ := hd
    obtain ⟨x, t, rfl⟩ := List.exists_cons_of_ne_nil hl
    simp only [List.getD_cons_zero] at *
    rw [enc_is _ (by omega), if_pos h0]
    refine ⟨by simp, fun _ => by trivial, fun h => by omega, by rw [if_pos h0]⟩
  · split at hd
    · rename_i h0 h1
      split at hd
      · rename_i hq
        simp only [Prod.mk.injEq] at hd
        obtain ⟨rfl, rfl⟩ := hd
        obtain ⟨x, t, rfl⟩ := List.exists_cons_of_ne_nil hl
        cases t with
        | nil => simp at h1
        | cons y t =>
          simp only [List.getD_cons_zero, List.getD_cons_succ] at *
          obtain ⟨h1a, _, h1b⟩ := h1
          rw [enc_is _ (by omega), if_neg (by omega), if_pos (by omega)]
          refine ⟨?_, fun h => by omega, fun _ b hb => ?_, by rw [if_neg (by omega)]⟩
          · show [UInt8.ofNat _, UInt8.ofNat _] = [x, y]
            rw [u8 x _ (by omega), u8 y _ (by omega)]
          · simp only [List.take_succ_cons, List.take_zero, List.mem_cons, List.not_mem_nil, or_false] at hb
            rcases hb with rfl | rfl <;> omega
      · simp only [Prod.mk.injEq] at hd
        obtain ⟨rfl, rfl⟩ := hd
        exact absurd ⟨rfl, rfl⟩ hok
    · split at hd
      · rename_i h0 h0' h1
        split at hd
        · rename_i hq
          simp only [Prod.mk.injEq] at hd
          obtain ⟨rfl, rfl⟩ := hd
          obtain ⟨x, t, rfl⟩ := List.exists_cons_of_ne_nil hl
          have hln : 3 ≤ (x :: t).length := by omega
          obtain ⟨y, t, rfl⟩ := List.exists_cons_of_ne_nil (l := t) (by rintro rfl; simp at hln)
          obtain ⟨z, t, rfl⟩ := List.exists_cons_of_ne_nil (l := t) (by rintro rfl; simp at hln)
          · simp only [List.getD_cons_zero, List.getD_cons_succ] at *
            obtain ⟨h1a, ⟨_, h1b⟩, _, h1c⟩ := h1
            rw [enc_is _ (by omega), if_neg (by omega), if_neg (by omega), if_pos (by omega)]
            refine ⟨?_, fun h => by omega, fun _ b hb => ?_, by rw [if_neg (by omega)]⟩
            · show [UInt8.ofNat _, UInt8.ofNat _, UInt8.ofNat _] = [x, y, z]
              rw [u8 x _ (by omega), u8 y _ (by omega), u8 z _ (by omega)]
            · simp only [List.take_succ_cons, List.take_zero, List.mem_cons, List.not_mem_nil, or_false] at hb
              rcases hb with rfl | rfl | rfl <;> omega
        · simp only [Prod.mk.injEq] at hd
          obtain ⟨rfl, rfl⟩ := hd
          exact absurd ⟨rfl, rfl⟩ hok
      · split at hd
        · rename_i h0 h0' h0'' h1
          split at hd
          · rename_i hq
            simp only [Prod.mk.injEq] at hd
            obtain ⟨rfl, rfl⟩ := hd
            obtain ⟨x, t, rfl⟩ := List.exists_cons_of_ne_nil hl
            have hln : 4 ≤ (x :: t).length := by omega
            obtain ⟨y, t, rfl⟩ := List.exists_cons_of_ne_nil (l := t) (by rintro rfl; simp at hln)
            obtain ⟨z, t, rfl⟩ := List.exists_cons_of_ne_nil (l := t) (by rintro rfl; simp at hln)
            obtain ⟨v, t, rfl⟩ := List.exists_cons_of_ne_nil (l := t) (by rintro rfl; simp at hln)
            · simp only [List.getD_cons_zero, List.getD_cons_succ] at *
              obtain ⟨h1a, ⟨_, h1b⟩, ⟨_, h1c⟩, _, h1d⟩ := h1
              rw [enc_is _ (by omega), if_neg (by omega), if_neg (by omega), if_neg (by omega)]
              refine ⟨?_, fun h => by omega, fun _ b hb => ?_, by rw [if_neg (by omega)]⟩
              · show [UInt8.ofNat _, UInt8.ofNat _, UInt8.ofNat _, UInt8.ofNat _] = [x, y, z, v]
                rw [u8 x _ (by omega), u8 y _ (by omega), u8 z _ (by omega), u8 v _ (by omega)]
              · simp only [List.take_succ_cons, List.take_zero, List.mem_cons, List.not_mem_nil, or_false] at hb
                rcases hb with rfl | rfl | rfl | rfl <;> omega
          · simp only [Prod.mk.injEq] at hd
            obtain ⟨rfl, rfl⟩ := hd
            exact absurd ⟨rfl, rfl⟩ hok
        · simp only [Prod.mk.injEq] at hd
          obtain ⟨rfl, rfl⟩ := hd
          exact absurd ⟨rfl, rfl⟩ hok
end Go.Proofs.YtgafnjgiikdofaaGreatDoor.Ut
namespace Go.Proofs.YtgafnjgiikdofaaGreatDoor.Rq
set_option linter.unusedVariables false
set_option linter.unusedSimpArgs false
open Go.Proofs.YtgafnjgiikdofaaGreatDoorW.PrintWords Go.Proofs.YtgafnjgiikdofaaGreatDoorW.PrintLast Go.Proofs.YtgafnjgiikdofaaGreatDoorW.PrintMore
open Go.Shelf Go.RowKit Go.Proofs.YtgafnjgiikdofaaGreatDoor.A Go.Proofs.YtgafnjgiikdofaaGreatDoor.Sb Go.Proofs.YtgafnjgiikdofaaGreatDoor.Sf
/-- a byte as the document quotes it -/
def rqB (c : UInt8) : List UInt8 :=
  if c.toNat = 34 ∨ c.toNat = 92 then [92, c] else if c.toNat = 10 then [92, 110]
  else if c.toNat < 32 ∨ c.toNat = 127 then [92, 117, 123] ++ (strOfNums (hexL c.toNat)).data.toList ++ [125] else [c]
end Go.Proofs.YtgafnjgiikdofaaGreatDoor.Rq
namespace Go.Proofs.YtgafnjgiikdofaaGreatDoor.Uq
set_option linter.unusedVariables false
set_option linter.unusedSimpArgs false
open Go.RowKit Go.Proofs.YtgafnjgiikdofaaGreatDoor.A Go.Proofs.YtgafnjgiikdofaaGreatDoor.Ut Go.Proofs.YtgafnjgiikdofaaGreatDoor.Sq Go.Proofs.YtgafnjgiikdofaaGreatDoor.Sm Go.Proofs.YtgafnjgiikdofaaGreatDoor.Rq Go.Proofs.YtgafnjgiikdofaaGreatDoor.Sf
theorem mark_low (c : Nat) (h : c < 128) : markL c = rqB (UInt8.ofNat c) := by
  have ht : (UInt8.ofNat c).toNat = c := by simp; omega
  unfold markL markB rqB
  rw [ht]
  rw [enc_is c (by omega), if_pos h]
  by_cases h1 : c = 34 ∨ c = 92
  · rw [if_pos (by omega), if_pos h1]
    rfl
  · rw [if_neg (by omega), if_neg h1]
    by_cases h2 : c = 10
    · rw [if_pos (by omega), if_pos h2]
    · rw [if_neg (by omega), if_neg h2]
      by_cases h3 : c < 32 ∨ c = 127
      · rw [if_pos (by omega), if_pos h3]
        rw [ByteArray.data_append, ByteArray.data_append, Array.toList_append, Array.toList_append]
      · rw [if_neg (by omega), if_neg h3]
theorem mark_high (c : Nat) (h : 128 ≤ c) : markL c = (Utf8.encode (c : Int)).data.toList := by
  unfold markL markB
  rw [if_neg (by omega), if_neg (by omega), if_neg (by omega)]
theorem rqB_high (b : UInt8) (h : 128 ≤ b.toNat) : rqB b = [b] := by
  unfold rqB
  rw [if_neg (by omega), if_neg (by omega), if_neg (by omega)]
theorem flat_high : ∀ l : List UInt8, (∀ b ∈ l, 128 ≤ b.toNat) → l.flatMap rqB = l
  | [], _ => rfl
  | b :: l, h => by
    rw [List.flatMap_cons, rqB_high b (h b (by simp)), flat_high l (fun x hx => h x (by simp [hx]))]
    rfl
/-- a rune of good text: its mark is its bytes' -/
theorem mark_is (l : List UInt8) (hl : l ≠ []) (hok : ¬ ((Lib.decodeL l).1 = 65533 ∧ (Lib.decodeL l).2 = 1)) :
    markL (Lib.decodeL l).1 = (l.take (Lib.decodeL l).2).flatMap rqB := by
  obtain ⟨h1, h2, h3, h4⟩ := enc_dec l hl (Lib.decodeL l).1 (Lib.decodeL l).2 rfl hok
  by_cases hc : (Lib.decodeL l).1 < 128
  · rw [h2 hc]
    rw [if_pos hc] at h4
    obtain ⟨x, t, rfl⟩ := List.exists_cons_of_ne_nil hl
    simp only [List.getD_cons_zero] at h4
    rw [mark_low _ hc, h4]
    simp
  · rw [mark_high _ (by omega), h1, flat_high _ (h3 (by omega))]
theorem dec_at (s : ByteArray) (pos : Nat) (h : pos < s.size) : Utf8.decode s pos = Lib.decodeL (s.data.toList.drop pos) := by
  rw [Lib.decode_at, decodeL_eq]
  simp only [get!_eq, List.length_drop, Lib.size_eq]
  simp only [List.getD_eq_getElem?_getD, List.getElem?_drop, Nat.add_zero]
theorem quote_flat : ∀ (f : Nat) (s : ByteArray) (pos : Nat), s.size ≤ pos + f → Lib.validD (s.data.toList.drop pos) = true →
    quoteFrom s f pos = (s.data.toList.drop pos).flatMap rqB
  | 0, s, pos, h, _ => by
    rw [List.drop_eq_nil_of_le (by rw [← Lib.size_eq]; omega)]
    rfl
  | f + 1, s, pos, h, hv => by
    unfold quoteFrom
    by_cases hp : pos < s.size
    · rw [if_pos hp, dec_at s pos hp]
      have hne : s.data.toList.drop pos ≠ [] := by
        intro e
        have := congrArg List.length e
        rw [List.length_drop, ← Lib.size_eq] at this
        simp at this
        omega
      rw [valid_step _ hne] at hv
      split at hv
      · cases hv
      · rename_i hok
        have hw := Lib.decodeL_width (s.data.toList.drop pos)
        rw [List.drop_drop] at hv
        rw [quote_flat f s _ (by omega) hv, mark_is _ hne hok, ← List.drop_drop, ← List.flatMap_append, List.take_append_drop]
    · rw [if_neg hp, List.drop_eq_nil_of_le (by rw [← Lib.size_eq]; omega)]
      rfl
/-- Quote: the program's and the document's -/
theorem quote_eq (s : ByteArray) : quoteL s = if Lib.validD s.data.toList then 34 :: (s.data.toList.flatMap rqB ++ [34]) else [] := by
  unfold quoteL
  split
  · rename_i h
    rw [quote_flat s.size s 0 (by omega) (by simpa using h)]
    simp
  · rfl
end Go.Proofs.YtgafnjgiikdofaaGreatDoor.Uq
namespace Go.Proofs.YtgafnjgiikdofaaGreatDoor.R
set_option linter.unusedVariables false
set_option linter.unusedSimpArgs false
open Go.Proofs.YtgafnjgiikdofaaGreatDoorW.PrintWords Go.Proofs.YtgafnjgiikdofaaGreatDoorW.PrintLast Go.Proofs.YtgafnjgiikdofaaGreatDoorW.PrintMore
open Go.Shelf Go.RowKit Go.Proofs.YtgafnjgiikdofaaGreatDoor.A Go.Proofs.YtgafnjgiikdofaaGreatDoor.Sn Go.Proofs.YtgafnjgiikdofaaGreatDoor.Sv Go.Proofs.YtgafnjgiikdofaaGreatDoor.Sw Go.Proofs.YtgafnjgiikdofaaGreatDoor.Sq Go.Proofs.YtgafnjgiikdofaaGreatDoor.Sx Go.Proofs.YtgafnjgiikdofaaGreatDoor.So Go.Proofs.YtgafnjgiikdofaaGreatDoor.Sy Go.Proofs.YtgafnjgiikdofaaGreatDoor.Ss
def label_Sort.f (l : List S47) : Option (List S47 × Int) := if l.length ≤ 19 then (match label_Right.f (l.length + 2) (sortL l) with | some true => some (sortL l, 0) | some false => some ([], 30) | none => none) else if l.length ≤ 1048576 ∧ (l.all fun x => decide (x.f0.size ≤ 17592186044416)) = true then some ([], 30) else none
set_option maxHeartbeats 1000000 in
theorem sort_long (A0 : Option Addr) (c0 : Nat) (l0 : List S47) (w : World) (hr0 : Kd.C k47 w A0 l0.length l0) (hc0 : l0.length ≤ c0) (h19 : 19 < l0.length) (hm : l0.length ≤ 1048576) (hf : ∀ x ∈ l0, x.f0.size ≤ 17592186044416) (hE : Env w) :
    Calls Tryz.prog 23 #[.slice A0 l0.length c0] w fun e w' => e = .returned (.tuple #[.slice none 0 0, .int .i64 30]) ∧ Below w.heap.size w w' := by
  have hcl := clone_calls A0 c0 l0 w hr0 hc0 hm
  have HE := Aside0.mk hE
  have HL := Aside0.mk h19
  have HM := Aside0.mk hm
  have HF := Aside0.mk hf
  obtain ⟨n, hn⟩ : ∃ n, n = l0.length := ⟨_, rfl⟩
  rw [← hn] at hcl ⊢
  have HN := Aside0.mk hn
  clear hr0 hc0 h19 hm hf hE hn
  go_enter Tryz.func23, Tryz.ntmps23
  go_wp2_with fail
  refine hcl.mono ?_
  rintro e w1 ⟨v1, rfl, ho1, hb1⟩
  obtain ⟨A, c, hv⟩ := Kd.R_slice ho1
  subst hv
  have hso := Sz.sort_long_calls A c w.heap.size l0 w w1 (by have := HL.out; omega) (by have := HM.out; omega) hb1 ho1
  rw [← HN.out] at hso
  have HB1 := Aside0.mk hb1
  clear hcl ho1 hb1
  rw [← HN.out]
  go_wp2_with fail
  refine hso.mono ?_
  rintro e w2 ⟨rfl, t, hp, ho2, hb2⟩
  have htl := hp.length_eq
  have HB2 := Aside0.mk hb2
  obtain ⟨hln, hlc, hC⟩ := Kd.R_reads' ho2
  have hr : label_Right.f (t.length + 2) t = some false := by
    rw [Lr.lright_eq t _ (by have := HM.out; omega) (fun x hx => HF.out x (hp.mem_iff.1 hx)) (by omega), Lr.right_long t (by have := HL.out; omega)]
  have hrc := label_Right.calls (t.length + 2) A c t false w2 hC (by omega) hr (HE.out.below HB2.out)
  rw [htl, ← HN.out] at hrc hlc
  clear hC hln hlc hr ho2 hb2 hso htl hp
  go_wp2_with fail
  refine hrc.mono ?_
  rintro e w3 ⟨rfl, hb3⟩
  have HB3 := Aside0.mk hb3
  clear hrc hb3
  go_wp2_with fail
  go_ret2
  exact ⟨rfl, HB2.out.trans (HB3.out.mono HB2.out.size)⟩
set_option maxHeartbeats 1000000 in
theorem label_Sort.calls (A0 : Option Addr) (c0 : Nat) (l0 : List S47) (r1 : List S47) (r2 : Int) (w : World) (hr0 : Kd.C k47 w A0 l0.length l0) (hc0 : l0.length ≤ c0) (h : label_Sort.f l0 = some (r1, r2)) (hE : Env w) :
    Calls Tryz.prog 23 #[.slice A0 l0.length c0] w fun e w' => ∃ v0_ : Value, e = .returned (.tuple #[v0_, .int .i64 r2]) ∧ Kd.R k47 47 w' w.heap.size (fun _ => True) v0_ r1 ∧ Below w.heap.size w w' := by
  unfold label_Sort.f at h
  split at h
  · rename_i hl
    have hcl := clone_calls A0 c0 l0 w hr0 hc0 (by omega)
    have HE := Aside0.mk hE
    have HS := Aside0.mk h
    have HL := Aside0.mk hl
    obtain ⟨n, hn⟩ : ∃ n, n = l0.length := ⟨_, rfl⟩
    rw [← hn] at hcl ⊢
    clear hr0 hc0 h hl hE hn
    go_enter Tryz.func23, Tryz.ntmps23
    go_wp2_with fail
    refine hcl.mono ?_
    rintro e w1 ⟨v1, rfl, ho1, hb1⟩
    obtain ⟨A, c, hv⟩ := Kd.R_slice ho1
    subst hv
    have hso := sort_calls A c w.heap.size l0 w w1 HL.out hb1 ho1
    have HB1 := Aside0.mk hb1
    clear hcl ho1 hb1
    go_wp2_with fail
    refine hso.mono ?_
    rintro e w2 ⟨rfl, ho2, hb2⟩
    have HO2 := Aside0.mk ho2
    have HB2 := Aside0.mk hb2
    obtain ⟨hln, hlc, hC⟩ := Kd.R_reads' ho2
    clear hso ho2 hb2
    have h := HS.out
    cases hr : label_Right.f (l0.length + 2) (sortL l0) with
    | none => rw [hr] at h; cases h
    | some b =>
      rw [hr] at h
      have hrc := label_Right.calls (l0.length + 2) A c (sortL l0) b w2 hC (by rw [sortL_len] at *; omega) hr (HE.out.below HB2.out)
      rw [sortL_len] at hrc
      obtain ⟨n, hn⟩ : ∃ n, n = l0.length := ⟨_, rfl⟩
      rw [← hn] at hrc hlc ⊢
      have HN := Aside0.mk hn
      clear hC hln hlc hr hn
      cases b with
      | true =>
        simp only [Option.some.injEq, Prod.mk.injEq] at h
        obtain ⟨rfl, rfl⟩ := h
        go_wp2_with fail
        refine hrc.mono ?_
        rintro e w3 ⟨rfl, hb3⟩
        have HB3 := Aside0.mk hb3
        clear hrc hb3
        go_wp2_with fail
        go_ret2
        refine ⟨_, rfl, Kd.R_below ?_ HB3.out, HB2.out.trans (HB3.out.mono HB2.out.size)⟩
        have := HO2.out
        rw [← HN.out] at this
        exact this
      | false =>
        simp only [Option.some.injEq, Prod.mk.injEq] at h
        obtain ⟨rfl, rfl⟩ := h
        go_wp2_with fail
        refine hrc.mono ?_
        rintro e w3 ⟨rfl, hb3⟩
        have HB3 := Aside0.mk hb3
        clear hrc hb3
        go_wp2_with fail
        go_ret2
        exact ⟨_, rfl, Kd.R_nil _ _ _ _ _, HB2.out.trans (HB3.out.mono HB2.out.size)⟩
  · split at h
    · rename_i h19 hl
      obtain ⟨rfl, rfl⟩ := Prod.mk.inj (Option.some.inj h)
      refine (sort_long A0 c0 l0 w hr0 hc0 (by omega) hl.1 (fun x hx => of_decide_eq_true (List.all_eq_true.1 hl.2 x hx)) hE).mono ?_
      rintro e w' ⟨rfl, hb⟩
      exact ⟨_, rfl, Kd.R_nil _ _ _ _ _, hb⟩
    · cases h
def icehouseref02_Quote.f (s : ByteArray) : Option ByteArray := if Fit s then some (if Lib.validD s.data.toList then ⟨(34 :: (s.data.toList.flatMap Go.Proofs.YtgafnjgiikdofaaGreatDoor.Rq.rqB ++ [34])).toArray⟩ else ⟨#[]⟩) else none
end Go.Proofs.YtgafnjgiikdofaaGreatDoor.R
