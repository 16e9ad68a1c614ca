/- The stable sort of any number of labels comes to an end, and there are as many labels behind it. -/
import Derived.Test.YtgafnjgiikdofaaGreatDoorMd
import Derived.Shelf.SlSortCmp.KitK
import Derived.Sort.WalkB2
import Derived.Sort.WalkB12
import Derived.Deep.LoopGhost
import Derived.Deep.DeepCutAuto
import Derived.Deep.CutBlock
namespace Go.Proofs.YtgafnjgiikdofaaGreatDoor.Sz
set_option linter.unusedVariables false
set_option linter.unusedSimpArgs false
open Go.Shelf Go.RowKit Go.Sort Go.Lib Go.Proofs.YtgafnjgiikdofaaGreatDoorW.PrintWords Go.Proofs.YtgafnjgiikdofaaGreatDoorW.PrintLast Go.Proofs.YtgafnjgiikdofaaGreatDoorW.PrintMore
open Go.Proofs.YtgafnjgiikdofaaGreatDoor.A Go.Proofs.YtgafnjgiikdofaaGreatDoor.Ss Go.Proofs.YtgafnjgiikdofaaGreatDoor.Sy
/-- what is asked of the program: three bodies, six types -/
structure LZ (P : Program) (k : Nat) : Prop where
  mixed : P.follows .mixedOrders = true
  f156 : P.funcs[156]? = some Tryz.f156
  f127 : P.funcs[127]? = some Tryz.f127
  e156 : ∀ args w, (callFunc 156 args).run P w = .ok (.enter 156 args) w
  e144 : ∀ args w, (callFunc 144 args).run P w = .ok (.enter 144 args) w
  e127 : ∀ args w, (callFunc 127 args).run P w = .ok (.enter 127 args) w
  aE : ∀ w, (isAgg 47).run P w = .ok true w
  zE : ∀ w, (Go.sizeOf 47).run P w = .ok k w
  t0 : P.underlying 0 = some (TypeDesc.tuple #[])
  a0 : ∀ w, (isAgg 0).run P w = .ok false w
  z0 : ∀ w, (Go.sizeOf 0).run P w = .ok 1 w
  v0 : ∀ w, (zeroValue 0).run P w = .ok (Value.tuple #[]) w
  t3 : P.underlying 3 = some (TypeDesc.int IntKind.i64)
  a3 : ∀ w, (isAgg 3).run P w = .ok false w
  z3 : ∀ w, (Go.sizeOf 3).run P w = .ok 1 w
  v3 : ∀ w, (zeroValue 3).run P w = .ok (Value.int .i64 0) w
  t4 : P.underlying 4 = some (TypeDesc.bool)
  a4 : ∀ w, (isAgg 4).run P w = .ok false w
  z4 : ∀ w, (Go.sizeOf 4).run P w = .ok 1 w
  v4 : ∀ w, (zeroValue 4).run P w = .ok (Value.bool false) w
  t27 : P.underlying 27 = some (TypeDesc.slice 47)
  a27 : ∀ w, (isAgg 27).run P w = .ok false w
  z27 : ∀ w, (Go.sizeOf 27).run P w = .ok 1 w
  v27 : ∀ w, (zeroValue 27).run P w = .ok (Value.slice none 0 0) w
  t90 : P.underlying 90 = some (TypeDesc.func #[47, 47] #[3] false)
  a90 : ∀ w, (isAgg 90).run P w = .ok false w
  z90 : ∀ w, (Go.sizeOf 90).run P w = .ok 1 w
  v90 : ∀ w, (zeroValue 90).run P w = .ok (Value.nilFunc) w
  t119 : P.underlying 119 = some (TypeDesc.int IntKind.u64)
  a119 : ∀ w, (isAgg 119).run P w = .ok false w
  z119 : ∀ w, (Go.sizeOf 119).run P w = .ok 1 w
  v119 : ∀ w, (zeroValue 119).run P w = .ok (Value.int .u64 0) w
theorem lz : LZ Tryz.prog 2 := {
  mixed := by kernel_rfl
  f156 := Tryz.func156
  f127 := Tryz.func127
  e156 := enters_of Tryz.func156 (by kernel_rfl) rfl
  e144 := enters_of Tryz.func144 (by kernel_rfl) rfl
  e127 := enters_of Tryz.func127 (by kernel_rfl) rfl
  aE := Tryz.isAgg47
  zE := Tryz.sizeOf47
  t0 := Tryz.underlying0
  a0 := Tryz.isAgg0
  z0 := Tryz.sizeOf0
  v0 := Tryz.zeroValue0
  t3 := Tryz.underlying3
  a3 := Tryz.isAgg3
  z3 := Tryz.sizeOf3
  v3 := Tryz.zeroValue3
  t4 := Tryz.underlying4
  a4 := Tryz.isAgg4
  z4 := Tryz.sizeOf4
  v4 := Tryz.zeroValue4
  t27 := Tryz.underlying27
  a27 := Tryz.isAgg27
  z27 := Tryz.sizeOf27
  v27 := Tryz.zeroValue27
  t90 := Tryz.underlying90
  a90 := Tryz.isAgg90
  z90 := Tryz.sizeOf90
  v90 := Tryz.zeroValue90
  t119 := Tryz.underlying119
  a119 := Tryz.isAgg119
  z119 := Tryz.sizeOf119
  v119 := Tryz.zeroValue119 }
/-- a world of the sort's: the row has as many labels -/
def SA (k : Nat) (w0 : World) (blk off n : Nat) (d0 : Array S47) (W : World) : Prop := ∃ dk : Array S47, PermIn 0 n d0 dk ∧ SWK cells2 k w0 blk off dk W
theorem i64_eq {a b : Int} (h : a = b) : (Value.int .i64 a) = .int .i64 b := by rw [h]
variable {P : Program}
set_option maxHeartbeats 4000000 in
set_option maxRecDepth 1000000 in
theorem swap_calls {k : Nat} (L : LZ P k) (g : Nat) (cb : Array Value) (blk off cap n a b m : Nat) (d0 : Array S47) (w0 w : World) (R : RowK cells2 k w0 blk off d0) (hs : d0.size = n) (S : SA k w0 blk off n d0 w) (ha : a + m ≤ n) (hb : b + m ≤ n) (hsz : n < 4611686018427387904) :
    Calls P 156 #[.slice (some ⟨blk, off, none⟩) n cap, .int .i64 a, .int .i64 b, .int .i64 m, .func (.func g) #[] cb] w fun e w' => e = .returned (.tuple #[]) ∧ SA k w0 blk off n d0 w' := by
  have mixed := L.mixed; have t0 := L.t0; have a0 := L.a0; have z0 := L.z0; have v0 := L.v0; have t3 := L.t3; have a3 := L.a3; have z3 := L.z3; have v3 := L.v3; have t4 := L.t4; have a4 := L.a4; have z4 := L.z4; have v4 := L.v4; have t27 := L.t27; have a27 := L.a27; have z27 := L.z27; have v27 := L.v27; have t90 := L.t90; have a90 := L.a90; have z90 := L.z90; have v90 := L.v90; have t119 := L.t119; have a119 := L.a119; have z119 := L.z119; have v119 := L.v119; have aE := L.aE; have zE := L.zE; have e156 := L.e156; have e144 := L.e144; have e127 := L.e127
  have S0 : Aside (SA k w0 blk off n d0 w) := S
  have FG := L.f156
  clear S L
  go_enter FG, Tryz.ntmps156
  go_wp2
  go_loopg [10] m (fun gg s wr => ∃ i : Nat, s = .int .i64 i ∧ i ≤ m ∧ m - i ≤ gg ∧ Aside (SA k w0 blk off n d0 wr))
  case atStart => exact ⟨0, rfl, Nat.zero_le _, Nat.le_refl _, S0⟩
  case round =>
    clear S0
    obtain ⟨i, rfl, him, hg, S1⟩ := hrel
    by_cases hlt : i < m
    · obtain ⟨dk, hp, S1⟩ := S1.out
      have hdk : dk.size = n := hp.1.trans hs
      have S1 : Aside (SWK cells2 k w0 blk off dk wr) := S1
      go_wp2_with fail
      have ea : ((a : Int) + (i : Int)).toNat = a + i := by omega
      have pa : (0 : Int) ≤ (a : Int) + (i : Int) := by omega
      have ba : (a : Int) + (i : Int) < (n : Int) := by omega
      have ra : IntKind.i64.wrap ((a : Int) + (i : Int)) = (a : Int) + (i : Int) := by rw [IntKind.wrap_i64]; omega
      have ec : ((b : Int) + (i : Int)).toNat = b + i := by omega
      have pc : (0 : Int) ≤ (b : Int) + (i : Int) := by omega
      have bc : (b : Int) + (i : Int) < (n : Int) := by omega
      have rc : IntKind.i64.wrap ((b : Int) + (i : Int)) = (b : Int) + (i : Int) := by rw [IntKind.wrap_i64]; omega
      have S2 : Aside (SWK cells2 k w0 blk off (swp dk (a + i) (b + i)) ((wr.drew.setCells blk (off + (a + i) * k) (cells2 dk[b + i]!)).setCells blk (off + (b + i) * k) (cells2 dk[a + i]!))) := S1.out.swapped R (a + i) (b + i) (by omega) (by omega)
      have l44a := S1.out.ld1 R (by omega) P (a + i) (by omega)
      have l44b := S1.out.ld1 R (by omega) P (b + i) (by omega)
      have s44a := S1.out.st1 R (by omega) P (a + i) (by omega) dk[b + i]!
      have s44b := S1.out.st2 R (by omega) P (a + i) (b + i) (by omega) (by omega) dk[b + i]! dk[a + i]!
      have n44a : (cells2 dk[a + i]!).length = k := R.hk _
      have n44b : (cells2 dk[b + i]!).length = k := R.hk _
      generalize cells2 dk[a + i]! = cI44 at S2 l44a s44b n44a
      generalize cells2 dk[b + i]! = cJ44 at S2 l44b s44a s44b n44b
      clear S1
      go_wp2_with fail
      go_big_region_o
      clear l44a l44b s44a s44b
      generalize (wr.drew.setCells blk (off + (a + i) * k) cJ44).setCells blk (off + (b + i) * k) cI44 = w2 at S2 ⊢
      have S3 : Aside (SA k w0 blk off n d0 w2) := ⟨_, permIn_trans _ _ _ 0 n hp (swp_permIn dk 0 n (a + i) (b + i) (by omega) (by omega) (by omega) (by omega) (by omega)), S2.out⟩
      clear S2 ea pa ba ra ec pc bc rc
      go_wp2
      go_roundg (m - (i + 1))
      case measure => omega
      case rel => exact ⟨i + 1, by go_num, by omega, Nat.le_refl _, S3⟩
    · go_wp2
      go_end0
      exact ⟨rfl, S1.out⟩
set_option maxHeartbeats 4000000 in
set_option maxRecDepth 1000000 in
theorem rotate_calls (g : Nat) (cb : Array Value) (blk off cap n a m b : Nat) (d0 : Array S47) (w0 w : World) (R : RowK cells2 2 w0 blk off d0) (hs : d0.size = n) (S : SA 2 w0 blk off n d0 w) (ham : a < m) (hmb : m < b) (hb : b ≤ n) (hsz : n < 4611686018427387904) :
    Calls Tryz.prog 144 #[.slice (some ⟨blk, off, none⟩) n cap, .int .i64 a, .int .i64 m, .int .i64 b, .func (.func g) #[] cb] w fun e w' => e = .returned (.tuple #[]) ∧ SA 2 w0 blk off n d0 w' := by
  have S0 : Aside (SA 2 w0 blk off n d0 w) := S
  clear S
  go_enter Tryz.func144, Tryz.ntmps144
  go_wp2
  go_loopg [10, 11] (b - a) (fun gg s1 s2 wr => ∃ i j : Nat, s1 = .int .i64 i ∧ s2 = .int .i64 j ∧ 1 ≤ i ∧ 1 ≤ j ∧ i + a ≤ m ∧ m + j ≤ b ∧ i + j ≤ gg ∧ Aside (SA 2 w0 blk off n d0 wr))
  case atStart => exact ⟨m - a, b - m, i64_eq (by omega), i64_eq (by omega), by omega, by omega, by omega, by omega, by omega, S0⟩
  case round =>
    clear S0
    obtain ⟨i, j, rfl, rfl, hi, hj, him, hjm, hg, S1⟩ := hrel
    obtain ⟨q, hq⟩ : ∃ q : Nat, (m : Int) - (i : Int) = (q : Int) := ⟨m - i, by omega⟩
    rcases Nat.lt_trichotomy i j with hlt | heq | hgt
    · obtain ⟨q2, hq2⟩ : ∃ q : Nat, (m : Int) + (j : Int) - (i : Int) = (q : Int) := ⟨m + j - i, by omega⟩
      have hne : ((i : Int) == (j : Int)) = false := by simp; omega
      have hne' : ((i : Int) != (j : Int)) = true := by simp; omega
      have hng : ¬ (j : Int) < (i : Int) := by omega
      go_wp2_with fail
      refine (swap_calls lz g cb blk off cap n q q2 i d0 w0 _ R hs S1.out (by omega) (by omega) hsz).mono ?_
      rintro e w2 ⟨rfl, hw2⟩
      have S3 : Aside (SA 2 w0 blk off n d0 w2) := hw2
      clear hw2
      go_wp2
      go_roundg (i + (j - i))
      case measure => omega
      case rel => exact ⟨i, j - i, rfl, i64_eq (by omega), by omega, by omega, by omega, by omega, Nat.le_refl _, S3⟩
    · subst heq
      go_wp2_with fail
      refine (swap_calls lz g cb blk off cap n q m i d0 w0 _ R hs S1.out (by omega) (by omega) hsz).mono ?_
      rintro e w2 ⟨rfl, hw2⟩
      have S3 : Aside (SA 2 w0 blk off n d0 w2) := hw2
      clear hw2
      go_wp2
      go_end0
      exact ⟨rfl, S3.out⟩
    · have hne : ((i : Int) == (j : Int)) = false := by simp; omega
      have hne' : ((i : Int) != (j : Int)) = true := by simp; omega
      have hng : (j : Int) < (i : Int) := by omega
      go_wp2_with fail
      refine (swap_calls lz g cb blk off cap n q m j d0 w0 _ R hs S1.out (by omega) (by omega) hsz).mono ?_
      rintro e w2 ⟨rfl, hw2⟩
      have S3 : Aside (SA 2 w0 blk off n d0 w2) := hw2
      clear hw2
      go_wp2
      go_roundg (i - j + j)
      case measure => omega
      case rel => exact ⟨i - j, j, i64_eq (by omega), rfl, by omega, by omega, by omega, by omega, Nat.le_refl _, S3⟩
set_option maxHeartbeats 16000000 in
set_option maxRecDepth 1000000 in
theorem merge_one {k : Nat} (L : LZ P k) (g : Nat) (cb : Array Value) (blk off cap n : Nat) (d0 : Array S47) (w0 : World) (R : RowK cells2 k w0 blk off d0) (hs : d0.size = n) (hsz : n < 4611686018427387904) (eg : ∀ args w, (callFunc g args).run P w = .ok (.enter g args) w) (hcmp : CmpLays P g cb cells2 k cfN blk off d0.size w0) (a m b : Nat) (w : World) (S : SA k w0 blk off n d0 w) (ham : a < m) (h1 : m ≤ a + 1) (hmb : m < b) (hb : b ≤ n) :
    Calls P 127 #[.slice (some ⟨blk, off, none⟩) n cap, .int .i64 a, .int .i64 m, .int .i64 b, .func (.func g) #[] cb] w fun e w' => e = .returned (.tuple #[]) ∧ SA k w0 blk off n d0 w' := by
  have mixed := L.mixed; have t0 := L.t0; have a0 := L.a0; have z0 := L.z0; have v0 := L.v0; have t3 := L.t3; have a3 := L.a3; have z3 := L.z3; have v3 := L.v3; have t4 := L.t4; have a4 := L.a4; have z4 := L.z4; have v4 := L.v4; have t27 := L.t27; have a27 := L.a27; have z27 := L.z27; have v27 := L.v27; have t90 := L.t90; have a90 := L.a90; have z90 := L.z90; have v90 := L.v90; have t119 := L.t119; have a119 := L.a119; have z119 := L.z119; have v119 := L.v119; have aE := L.aE; have zE := L.zE; have e156 := L.e156; have e144 := L.e144; have e127 := L.e127
  have S0 : Aside (SA k w0 blk off n d0 w) := S
  have HC : Aside (CmpLays P g cb cells2 k cfN blk off d0.size w0) := hcmp
  have FG := L.f127
  clear S L hcmp
  have hd : (m : Int) - (a : Int) = 1 := by omega
  go_enter FG, Tryz.ntmps127
  go_wp2
  clear hd
  go_loopg [10, 11] n (fun gg s1 s2 wr => ∃ i j : Nat, s1 = .int .i64 i ∧ s2 = .int .i64 j ∧ m ≤ i ∧ i ≤ j ∧ j ≤ b ∧ j - i ≤ gg ∧ Aside (SA k w0 blk off n d0 wr))
  case atStart => exact ⟨m, b, rfl, rfl, Nat.le_refl _, by omega, Nat.le_refl _, by omega, S0⟩
  case round =>
    clear S0
    obtain ⟨i, j, rfl, rfl, hi, hij, hj, hg, S1⟩ := hrel
    by_cases hlt : i < j
    · obtain ⟨h, hh⟩ : ∃ h : Nat, ((i : Int) + (j : Int)) / 2 = (h : Int) := ⟨(i + j) / 2, by omega⟩
      obtain ⟨dk, hp, S1⟩ := S1.out
      have hdk : dk.size = n := hp.1.trans hs
      have S1 : Aside (SWK cells2 k w0 blk off dk wr) := S1
      have ea : ((h : Int)).toNat = h := by omega
      have pa : (0 : Int) ≤ (h : Int) := by omega
      have ba : (h : Int) < (n : Int) := by omega
      have ra : IntKind.i64.wrap ((h : Int)) = (h : Int) := by rw [IntKind.wrap_i64]; omega
      have ec : ((a : Int)).toNat = a := by omega
      have pc : (0 : Int) ≤ (a : Int) := by omega
      have bc : (a : Int) < (n : Int) := by omega
      have rc : IntKind.i64.wrap ((a : Int)) = (a : Int) := by rw [IntKind.wrap_i64]; omega
      obtain ⟨x24, hx24⟩ : ∃ x, x = dk[h]! := ⟨_, rfl⟩
      obtain ⟨y24, hy24⟩ : ∃ x, x = dk[a]! := ⟨_, rfl⟩
      have l24a := S1.out.ld R (by omega) P (h) (by omega)
      have l24b := S1.out.ld R (by omega) P (a) (by omega)
      rw [← hx24] at l24a
      rw [← hy24] at l24b
      have hc24 := S1.out.cmp HC.out (by omega) x24 y24
      clear hx24 hy24
      by_cases hv24 : cfN x24 y24 < 0
      · have hd24 : decide (cfN x24 y24 < 0) = true := decide_eq_true hv24
        go_wp2_with fail
        go_quiet_grown (first | (go_at_fn g; refine Calls.grown_of (hc24 _ _)))
        have S3 : Aside (SA k w0 blk off n d0 (grow (wr.drewN nq) osq)) := ⟨dk, hp, S1.out.grown nq osq⟩
        clear l24a l24b hc24 S1 ea pa ba ra ec pc bc rc hv24 hd24
        generalize grow (wr.drewN nq) osq = w2 at S3 ⊢
        clear nq osq
        go_wp2
        go_roundg (j - (h + 1))
        case measure => omega
        case rel => exact ⟨h + 1, j, by go_num, rfl, by omega, by omega, by omega, Nat.le_refl _, S3⟩
      · have hd24 : decide (cfN x24 y24 < 0) = false := decide_eq_false hv24
        go_wp2_with fail
        go_quiet_grown (first | (go_at_fn g; refine Calls.grown_of (hc24 _ _)))
        have S3 : Aside (SA k w0 blk off n d0 (grow (wr.drewN nq) osq)) := ⟨dk, hp, S1.out.grown nq osq⟩
        clear l24a l24b hc24 S1 ea pa ba ra ec pc bc rc hv24 hd24
        generalize grow (wr.drewN nq) osq = w2 at S3 ⊢
        clear nq osq
        go_wp2
        go_roundg (h - i)
        case measure => omega
        case rel => exact ⟨i, h, rfl, rfl, by omega, by omega, by omega, Nat.le_refl _, S3⟩
    · go_wp2
      obtain ⟨wo, rfl⟩ : ∃ wo : World, wo = wr := ⟨_, rfl⟩
      obtain ⟨e, he⟩ : ∃ e : Nat, (i : Int) - 1 = (e : Int) := ⟨i - 1, by omega⟩
      have hen : i = e + 1 := by omega
      subst hen
      clear he
      go_loopg [13] n (fun gg s wr => ∃ q : Nat, s = .int .i64 q ∧ a ≤ q ∧ e - q ≤ gg ∧ Aside (SA k w0 blk off n d0 wr))
      case atStart => exact ⟨a, rfl, Nat.le_refl _, by omega, S1⟩
      case round =>
        clear S1
        obtain ⟨q, rfl, haq, hgq, S1⟩ := hrel
        by_cases hq : q < e
        · obtain ⟨dk, hp, S1⟩ := S1.out
          have hdk : dk.size = n := hp.1.trans hs
          have S1 : Aside (SWK cells2 k w0 blk off dk wr) := S1
          have hqz : (q : Int) < (e : Int) := by omega
          go_wp2_with fail
          have ea : ((q : Int)).toNat = q := by omega
          have pa : (0 : Int) ≤ (q : Int) := by omega
          have ba : (q : Int) < (n : Int) := by omega
          have ra : IntKind.i64.wrap ((q : Int)) = (q : Int) := by rw [IntKind.wrap_i64]; omega
          have ec : ((q : Int) + 1).toNat = q + 1 := by omega
          have pc : (0 : Int) ≤ (q : Int) + 1 := by omega
          have bc : (q : Int) + 1 < (n : Int) := by omega
          have rc : IntKind.i64.wrap ((q : Int) + 1) = (q : Int) + 1 := by rw [IntKind.wrap_i64]; omega
          have S2 : Aside (SWK cells2 k w0 blk off (swp dk (q) (q + 1)) ((wr.drew.setCells blk (off + (q) * k) (cells2 dk[q + 1]!)).setCells blk (off + (q + 1) * k) (cells2 dk[q]!))) := S1.out.swapped R (q) (q + 1) (by omega) (by omega)
          have l44a := S1.out.ld1 R (by omega) P (q) (by omega)
          have l44b := S1.out.ld1 R (by omega) P (q + 1) (by omega)
          have s44a := S1.out.st1 R (by omega) P (q) (by omega) dk[q + 1]!
          have s44b := S1.out.st2 R (by omega) P (q) (q + 1) (by omega) (by omega) dk[q + 1]! dk[q]!
          have n44a : (cells2 dk[q]!).length = k := R.hk _
          have n44b : (cells2 dk[q + 1]!).length = k := R.hk _
          generalize cells2 dk[q]! = cI44 at S2 l44a s44b n44a
          generalize cells2 dk[q + 1]! = cJ44 at S2 l44b s44a s44b n44b
          clear S1
          go_wp2_with fail
          go_big_region_o
          clear l44a l44b s44a s44b
          generalize (wr.drew.setCells blk (off + (q) * k) cJ44).setCells blk (off + (q + 1) * k) cI44 = w2 at S2 ⊢
          have S3 : Aside (SA k w0 blk off n d0 w2) := ⟨_, permIn_trans _ _ _ 0 n hp (swp_permIn dk 0 n (q) (q + 1) (by omega) (by omega) (by omega) (by omega) (by omega)), S2.out⟩
          clear S2 ea pa ba ra ec pc bc rc
          go_wp2
          go_roundg (e - (q + 1))
          case measure => omega
          case rel => exact ⟨q + 1, by go_num, by omega, Nat.le_refl _, S3⟩
        · have hqz : ¬ (q : Int) < (e : Int) := by omega
          go_wp2
          (try simp only [Exit.inBlock, Exit.then]); refine bodyPost_ret (results_none rfl _ _ _) rfl ?_
          exact ⟨rfl, S1.out⟩
set_option maxHeartbeats 16000000 in
set_option maxRecDepth 1000000 in
theorem merge_last {k : Nat} (L : LZ P k) (g : Nat) (cb : Array Value) (blk off cap n : Nat) (d0 : Array S47) (w0 : World) (R : RowK cells2 k w0 blk off d0) (hs : d0.size = n) (hsz : n < 4611686018427387904) (eg : ∀ args w, (callFunc g args).run P w = .ok (.enter g args) w) (hcmp : CmpLays P g cb cells2 k cfN blk off d0.size w0) (a m b : Nat) (w : World) (S : SA k w0 blk off n d0 w) (h1 : ¬ m = a + 1) (ham : a < m) (hmb : m < b) (hbm : b ≤ m + 1) (hb : b ≤ n) :
    Calls P 127 #[.slice (some ⟨blk, off, none⟩) n cap, .int .i64 a, .int .i64 m, .int .i64 b, .func (.func g) #[] cb] w fun e w' => e = .returned (.tuple #[]) ∧ SA k w0 blk off n d0 w' := by
  have mixed := L.mixed; have t0 := L.t0; have a0 := L.a0; have z0 := L.z0; have v0 := L.v0; have t3 := L.t3; have a3 := L.a3; have z3 := L.z3; have v3 := L.v3; have t4 := L.t4; have a4 := L.a4; have z4 := L.z4; have v4 := L.v4; have t27 := L.t27; have a27 := L.a27; have z27 := L.z27; have v27 := L.v27; have t90 := L.t90; have a90 := L.a90; have z90 := L.z90; have v90 := L.v90; have t119 := L.t119; have a119 := L.a119; have z119 := L.z119; have v119 := L.v119; have aE := L.aE; have zE := L.zE; have e156 := L.e156; have e144 := L.e144; have e127 := L.e127
  have S0 : Aside (SA k w0 blk off n d0 w) := S
  have HC : Aside (CmpLays P g cb cells2 k cfN blk off d0.size w0) := hcmp
  have FG := L.f127
  clear S L hcmp
  have hd : (b : Int) - (m : Int) = 1 := by omega
  have hne : ((m : Int) - (a : Int) == 1) = false := by simp; omega
  go_enter FG, Tryz.ntmps127
  go_wp2
  clear hd hne
  go_loopg [14, 15] n (fun gg s1 s2 wr => ∃ i j : Nat, s1 = .int .i64 i ∧ s2 = .int .i64 j ∧ a ≤ i ∧ i ≤ j ∧ j ≤ m ∧ j - i ≤ gg ∧ Aside (SA k w0 blk off n d0 wr))
  case atStart => exact ⟨a, m, rfl, rfl, Nat.le_refl _, by omega, Nat.le_refl _, by omega, S0⟩
  case round =>
    clear S0
    obtain ⟨i, j, rfl, rfl, hi, hij, hj, hg, S1⟩ := hrel
    by_cases hlt : i < j
    · obtain ⟨h, hh⟩ : ∃ h : Nat, ((i : Int) + (j : Int)) / 2 = (h : Int) := ⟨(i + j) / 2, by omega⟩
      obtain ⟨dk, hp, S1⟩ := S1.out
      have hdk : dk.size = n := hp.1.trans hs
      have S1 : Aside (SWK cells2 k w0 blk off dk wr) := S1
      have ea : ((m : Int)).toNat = m := by omega
      have pa : (0 : Int) ≤ (m : Int) := by omega
      have ba : (m : Int) < (n : Int) := by omega
      have ra : IntKind.i64.wrap ((m : Int)) = (m : Int) := by rw [IntKind.wrap_i64]; omega
      have ec : ((h : Int)).toNat = h := by omega
      have pc : (0 : Int) ≤ (h : Int) := by omega
      have bc : (h : Int) < (n : Int) := by omega
      have rc : IntKind.i64.wrap ((h : Int)) = (h : Int) := by rw [IntKind.wrap_i64]; omega
      obtain ⟨x24, hx24⟩ : ∃ x, x = dk[m]! := ⟨_, rfl⟩
      obtain ⟨y24, hy24⟩ : ∃ x, x = dk[h]! := ⟨_, rfl⟩
      have l24a := S1.out.ld R (by omega) P (m) (by omega)
      have l24b := S1.out.ld R (by omega) P (h) (by omega)
      rw [← hx24] at l24a
      rw [← hy24] at l24b
      have hc24 := S1.out.cmp HC.out (by omega) x24 y24
      clear hx24 hy24
      by_cases hv24 : cfN x24 y24 < 0
      · have hd24 : decide (cfN x24 y24 < 0) = true := decide_eq_true hv24
        go_wp2_with fail
        go_quiet_grown (first | (go_at_fn g; refine Calls.grown_of (hc24 _ _)))
        have S3 : Aside (SA k w0 blk off n d0 (grow (wr.drewN nq) osq)) := ⟨dk, hp, S1.out.grown nq osq⟩
        clear l24a l24b hc24 S1 ea pa ba ra ec pc bc rc hv24 hd24
        generalize grow (wr.drewN nq) osq = w2 at S3 ⊢
        clear nq osq
        go_wp2
        go_roundg (h - i)
        case measure => omega
        case rel => exact ⟨i, h, rfl, rfl, by omega, by omega, by omega, Nat.le_refl _, S3⟩
      · have hd24 : decide (cfN x24 y24 < 0) = false := decide_eq_false hv24
        go_wp2_with fail
        go_quiet_grown (first | (go_at_fn g; refine Calls.grown_of (hc24 _ _)))
        have S3 : Aside (SA k w0 blk off n d0 (grow (wr.drewN nq) osq)) := ⟨dk, hp, S1.out.grown nq osq⟩
        clear l24a l24b hc24 S1 ea pa ba ra ec pc bc rc hv24 hd24
        generalize grow (wr.drewN nq) osq = w2 at S3 ⊢
        clear nq osq
        go_wp2
        go_roundg (j - (h + 1))
        case measure => omega
        case rel => exact ⟨h + 1, j, by go_num, rfl, by omega, by omega, by omega, Nat.le_refl _, S3⟩
    · go_wp2
      obtain ⟨wo, rfl⟩ : ∃ wo : World, wo = wr := ⟨_, rfl⟩
      go_loopg [17] n (fun gg s wr => ∃ q : Nat, s = .int .i64 q ∧ q ≤ m ∧ i ≤ q ∧ q - i ≤ gg ∧ Aside (SA k w0 blk off n d0 wr))
      case atStart => exact ⟨m, rfl, Nat.le_refl _, by omega, by omega, S1⟩
      case round =>
        clear S1
        obtain ⟨q, rfl, haq, hiq, hgq, S1⟩ := hrel
        by_cases hq : i < q
        · obtain ⟨dk, hp, S1⟩ := S1.out
          have hdk : dk.size = n := hp.1.trans hs
          have S1 : Aside (SWK cells2 k w0 blk off dk wr) := S1
          have hqz : (i : Int) < (q : Int) := by omega
          go_wp2_with fail
          have ea : ((q : Int)).toNat = q := by omega
          have pa : (0 : Int) ≤ (q : Int) := by omega
          have ba : (q : Int) < (n : Int) := by omega
          have ra : IntKind.i64.wrap ((q : Int)) = (q : Int) := by rw [IntKind.wrap_i64]; omega
          have ec : ((q : Int) - 1).toNat = q - 1 := by omega
          have pc : (0 : Int) ≤ (q : Int) - 1 := by omega
          have bc : (q : Int) - 1 < (n : Int) := by omega
          have rc : IntKind.i64.wrap ((q : Int) - 1) = (q : Int) - 1 := by rw [IntKind.wrap_i64]; omega
          have S2 : Aside (SWK cells2 k w0 blk off (swp dk (q) (q - 1)) ((wr.drew.setCells blk (off + (q) * k) (cells2 dk[q - 1]!)).setCells blk (off + (q - 1) * k) (cells2 dk[q]!))) := S1.out.swapped R (q) (q - 1) (by omega) (by omega)
          have l44a := S1.out.ld1 R (by omega) P (q) (by omega)
          have l44b := S1.out.ld1 R (by omega) P (q - 1) (by omega)
          have s44a := S1.out.st1 R (by omega) P (q) (by omega) dk[q - 1]!
          have s44b := S1.out.st2 R (by omega) P (q) (q - 1) (by omega) (by omega) dk[q - 1]! dk[q]!
          have n44a : (cells2 dk[q]!).length = k := R.hk _
          have n44b : (cells2 dk[q - 1]!).length = k := R.hk _
          generalize cells2 dk[q]! = cI44 at S2 l44a s44b n44a
          generalize cells2 dk[q - 1]! = cJ44 at S2 l44b s44a s44b n44b
          clear S1
          go_wp2_with fail
          go_big_region_o
          clear l44a l44b s44a s44b
          generalize (wr.drew.setCells blk (off + (q) * k) cJ44).setCells blk (off + (q - 1) * k) cI44 = w2 at S2 ⊢
          have S3 : Aside (SA k w0 blk off n d0 w2) := ⟨_, permIn_trans _ _ _ 0 n hp (swp_permIn dk 0 n (q) (q - 1) (by omega) (by omega) (by omega) (by omega) (by omega)), S2.out⟩
          clear S2 ea pa ba ra ec pc bc rc
          go_wp2
          go_roundg (q - 1 - i)
          case measure => omega
          case rel => exact ⟨q - 1, i64_eq (by omega), by omega, by omega, Nat.le_refl _, S3⟩
        · have hqz : ¬ (i : Int) < (q : Int) := by omega
          go_wp2
          (try simp only [Exit.inBlock, Exit.then]); refine bodyPost_ret (results_none rfl _ _ _) rfl ?_
          exact ⟨rfl, S1.out⟩
end Go.Proofs.YtgafnjgiikdofaaGreatDoor.Sz
