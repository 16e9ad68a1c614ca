/- The stable sort of any number of labels comes to an end, and there are as many labels behind it: symMerge, stable. -/
import Derived.Test.YtgafnjgiikdofaaGreatDoorSza
import Derived.Shelf.SlSortCmp.KitK
import Derived.Sort.WalkB2
import Derived.Sort.WalkB12
import Derived.Deep.LoopGhost
import Derived.Deep.DeepCutAuto
import Derived.Deep.CutBlock
namespace Go.Proofs.YtgafnjgiikdofaaGreatDoor.Sz
set_option linter.unusedVariables false
set_option linter.unusedSimpArgs false
open Go.Shelf Go.RowKit Go.Sort Go.Lib Go.Proofs.YtgafnjgiikdofaaGreatDoorW.PrintWords Go.Proofs.YtgafnjgiikdofaaGreatDoorW.PrintLast Go.Proofs.YtgafnjgiikdofaaGreatDoorW.PrintMore
open Go.Proofs.YtgafnjgiikdofaaGreatDoor.A Go.Proofs.YtgafnjgiikdofaaGreatDoor.Ss Go.Proofs.YtgafnjgiikdofaaGreatDoor.Sy
variable {P : Program}
set_option maxHeartbeats 32000000 in
set_option maxRecDepth 1000000 in
theorem merge_calls {k : Nat} (L : LZ P k) (g : Nat) (cb : Array Value) (blk off cap n : Nat) (d0 : Array S47) (w0 : World) (R : RowK cells2 k w0 blk off d0) (hs : d0.size = n) (hsz : n < 4611686018427387904) (eg : ∀ args w, (callFunc g args).run P w = .ok (.enter g args) w) (hcmp : CmpLays P g cb cells2 k cfN blk off d0.size w0) (hrot : ∀ (a m b : Nat) (w : World), SA k w0 blk off n d0 w → a < m → m < b → b ≤ n → Calls P 144 #[.slice (some ⟨blk, off, none⟩) n cap, .int .i64 a, .int .i64 m, .int .i64 b, .func (.func g) #[] cb] w fun e w' => e = .returned (.tuple #[]) ∧ SA k w0 blk off n d0 w') : ∀ (N a m b : Nat) (w : World), b - a < N → SA k w0 blk off n d0 w → a < m → m < b → b ≤ n →
    Calls P 127 #[.slice (some ⟨blk, off, none⟩) n cap, .int .i64 a, .int .i64 m, .int .i64 b, .func (.func g) #[] cb] w fun e w' => e = .returned (.tuple #[]) ∧ SA k w0 blk off n d0 w' := by
  intro N
  induction N with
  | zero => intro a m b w h; omega
  | succ N ih =>
    intro a m b w hN S ham hmb hb
    by_cases h1 : m ≤ a + 1
    · exact merge_one L g cb blk off cap n d0 w0 R hs hsz eg hcmp a m b w S ham h1 hmb hb
    by_cases h2 : b ≤ m + 1
    · exact merge_last L g cb blk off cap n d0 w0 R hs hsz eg hcmp a m b w S (by omega) ham hmb h2 hb
    have mixed := L.mixed; have t0 := L.t0; have a0 := L.a0; have z0 := L.z0; have v0 := L.v0; have t3 := L.t3; have a3 := L.a3; have z3 := L.z3; have v3 := L.v3; have t4 := L.t4; have a4 := L.a4; have z4 := L.z4; have v4 := L.v4; have t27 := L.t27; have a27 := L.a27; have z27 := L.z27; have v27 := L.v27; have t90 := L.t90; have a90 := L.a90; have z90 := L.z90; have v90 := L.v90; have t119 := L.t119; have a119 := L.a119; have z119 := L.z119; have v119 := L.v119; have aE := L.aE; have zE := L.zE; have e156 := L.e156; have e144 := L.e144; have e127 := L.e127
    have S0 : Aside (SA k w0 blk off n d0 w) := S
    have HC : Aside (CmpLays P g cb cells2 k cfN blk off d0.size w0) := hcmp
    have IH : Aside _ := ih
    have ROT : Aside _ := hrot
    have FG := L.f127
    clear S L hcmp ih hrot
    have hne1 : ((m : Int) - (a : Int) == 1) = false := by simp; omega
    have hne2 : ((b : Int) - (m : Int) == 1) = false := by simp; omega
    obtain ⟨mid, hmid⟩ : ∃ mid : Nat, ((a : Int) + (b : Int)) / 2 = (mid : Int) := ⟨(a + b) / 2, by omega⟩
    have hm1 : 2 * mid ≤ a + b := by omega
    have hm2 : a + b ≤ 2 * mid + 1 := by omega
    go_enter FG, Tryz.ntmps127
    go_upto_if 140 with (fail)
    clear hne1 hne2 hmid
    go_cut [20, 21] (fun v20 v21 wc => ∃ s0 r0 : Nat, v20 = .int .i64 s0 ∧ v21 = .int .i64 r0 ∧ a ≤ s0 ∧ s0 ≤ r0 ∧ r0 ≤ mid ∧ r0 ≤ m ∧ mid + m ≤ s0 + b ∧ Aside (SA k w0 blk off n d0 wc))
    case first =>
      as_aux_lemma =>
      by_cases hm : mid < m
      · have hmz : (mid : Int) < (m : Int) := by omega
        go_wp2
        go_meet
        case rel => exact ⟨mid + m - b, mid, i64_eq (by omega), rfl, by omega, by omega, by omega, by omega, by omega, S0⟩
      · have hmz : ¬ (mid : Int) < (m : Int) := by omega
        go_wp2
        go_meet
        case rel => exact ⟨a, m, rfl, rfl, by omega, by omega, by omega, by omega, by omega, S0⟩
    case rest =>
      as_aux_lemma =>
      clear S0
      obtain ⟨s0, r0, rfl, rfl, k1, k2, k3, k4, k5, S0⟩ := hcut
      go_wp2
      go_loopg [20, 21] n (fun gg s1 s2 wr => ∃ i j : Nat, s1 = .int .i64 i ∧ s2 = .int .i64 j ∧ s0 ≤ i ∧ i ≤ j ∧ j ≤ r0 ∧ j - i ≤ gg ∧ Aside (SA k w0 blk off n d0 wr))
      case atStart => exact ⟨s0, r0, rfl, rfl, Nat.le_refl _, by omega, Nat.le_refl _, by omega, S0⟩
      case round =>
        clear S0
        obtain ⟨i, j, rfl, rfl, hi, hij, hj, hg, S1⟩ := hrel
        by_cases hlt : i < j
        · obtain ⟨h, hh⟩ : ∃ h : Nat, ((i : Int) + (j : Int)) / 2 = (h : Int) := ⟨(i + j) / 2, by omega⟩
          obtain ⟨q, hq⟩ : ∃ q : Nat, (mid : Int) + (m : Int) - 1 - (h : Int) = (q : Int) := ⟨mid + m - h - 1, by omega⟩
          obtain ⟨dk, hp, S1⟩ := S1.out
          have hdk : dk.size = n := hp.1.trans hs
          have S1 : Aside (SWK cells2 k w0 blk off dk wr) := S1
          have ea : ((q : Int)).toNat = q := by omega
          have pa : (0 : Int) ≤ (q : Int) := by omega
          have ba : (q : Int) < (n : Int) := by omega
          have ra : IntKind.i64.wrap ((q : Int)) = (q : Int) := by rw [IntKind.wrap_i64]; omega
          have ec : ((h : Int)).toNat = h := by omega
          have pc : (0 : Int) ≤ (h : Int) := by omega
          have bc : (h : Int) < (n : Int) := by omega
          have rc : IntKind.i64.wrap ((h : Int)) = (h : Int) := by rw [IntKind.wrap_i64]; omega
          obtain ⟨x24, hx24⟩ : ∃ x, x = dk[q]! := ⟨_, rfl⟩
          obtain ⟨y24, hy24⟩ : ∃ x, x = dk[h]! := ⟨_, rfl⟩
          have l24a := S1.out.ld R (by omega) P (q) (by omega)
          have l24b := S1.out.ld R (by omega) P (h) (by omega)
          rw [← hx24] at l24a
          rw [← hy24] at l24b
          have hc24 := S1.out.cmp HC.out (by omega) x24 y24
          clear hx24 hy24
          by_cases hv24 : cfN x24 y24 < 0
          · have hd24 : decide (cfN x24 y24 < 0) = true := decide_eq_true hv24
            go_wp2_with fail
            go_quiet_grown (first | (go_at_fn g; refine Calls.grown_of (hc24 _ _)))
            have S3 : Aside (SA k w0 blk off n d0 (grow (wr.drewN nq) osq)) := ⟨dk, hp, S1.out.grown nq osq⟩
            clear l24a l24b hc24 S1 ea pa ba ra ec pc bc rc hv24 hd24
            generalize grow (wr.drewN nq) osq = w2 at S3 ⊢
            clear nq osq
            go_wp2
            go_roundg (h - i)
            case measure => omega
            case rel => exact ⟨i, h, rfl, rfl, by omega, by omega, by omega, Nat.le_refl _, S3⟩
          · have hd24 : decide (cfN x24 y24 < 0) = false := decide_eq_false hv24
            go_wp2_with fail
            go_quiet_grown (first | (go_at_fn g; refine Calls.grown_of (hc24 _ _)))
            have S3 : Aside (SA k w0 blk off n d0 (grow (wr.drewN nq) osq)) := ⟨dk, hp, S1.out.grown nq osq⟩
            clear l24a l24b hc24 S1 ea pa ba ra ec pc bc rc hv24 hd24
            generalize grow (wr.drewN nq) osq = w2 at S3 ⊢
            clear nq osq
            go_wp2
            go_roundg (j - (h + 1))
            case measure => omega
            case rel => exact ⟨h + 1, j, by go_num, rfl, by omega, by omega, by omega, Nat.le_refl _, S3⟩
        · obtain ⟨en, hen⟩ : ∃ en : Nat, (mid : Int) + (m : Int) - (i : Int) = (en : Int) := ⟨mid + m - i, by omega⟩
          have he1 : en + i ≤ mid + m := by omega
          have he2 : mid + m ≤ en + i := by omega
          go_upto_region 39 with fail
          clear hen
          go_upto_region 39 with fail
          go_cut [185] (fun vb wc => vb = .bool (decide (i < m) && decide (m < en)) ∧ Aside (SA k w0 blk off n d0 wc))
          case first =>
            as_aux_lemma =>
            by_cases hA : i < m
            · have hAz : (i : Int) < (m : Int) := by omega
              by_cases hB : m < en
              · have hBz : (m : Int) < (en : Int) := by omega
                go_wp2
                go_meet
                case rel => exact ⟨by simp [hA, hB], S1⟩
              · have hBz : ¬ (m : Int) < (en : Int) := by omega
                go_wp2
                go_meet
                case rel => exact ⟨by simp [hA, hB], S1⟩
            · have hAz : ¬ (i : Int) < (m : Int) := by omega
              go_wp2
              go_meet
              case rel => exact ⟨by simp [hA], S1⟩
          case rest =>
            as_aux_lemma =>
            clear S1
            obtain ⟨rfl, S1⟩ := hcut
            obtain ⟨bb, hbb⟩ : ∃ bb, bb = (decide (i < m) && decide (m < en)) := ⟨_, rfl⟩
            rw [← hbb]
            have HBB : Aside (bb = (decide (i < m) && decide (m < en))) := hbb
            clear hbb
            go_upto_if 185 with (fail)
            go_cut [25] (fun v25 wc => Aside (SA k w0 blk off n d0 wc))
            case first =>
              as_aux_lemma =>
              cases bb with
              | true =>
                obtain ⟨hA, hB⟩ : i < m ∧ m < en := by simpa using HBB.out
                go_wp2_with fail
                refine (ROT.out i m en _ S1.out hA hB (by omega)).mono ?_
                rintro e w2 ⟨rfl, hw2⟩
                have S3 : Aside (SA k w0 blk off n d0 w2) := hw2
                clear hw2 S1 hA hB
                go_wp2
                go_meet
                case rel => exact S3
              | false =>
                go_wp2
                go_meet
                case rel => exact S1
            case rest =>
              as_aux_lemma =>
              clear S1 HBB
              have S1 := hcut
              clear hcut
              go_upto_region 41 with fail
              go_cut [199] (fun vb wc => vb = .bool (decide (a < i) && decide (i < mid)) ∧ Aside (SA k w0 blk off n d0 wc))
              case first =>
                as_aux_lemma =>
                by_cases hA : a < i
                · have hAz : (a : Int) < (i : Int) := by omega
                  by_cases hB : i < mid
                  · have hBz : (i : Int) < (mid : Int) := by omega
                    go_wp2
                    go_meet
                    case rel => exact ⟨by simp [hA, hB], S1⟩
                  · have hBz : ¬ (i : Int) < (mid : Int) := by omega
                    go_wp2
                    go_meet
                    case rel => exact ⟨by simp [hA, hB], S1⟩
                · have hAz : ¬ (a : Int) < (i : Int) := by omega
                  go_wp2
                  go_meet
                  case rel => exact ⟨by simp [hA], S1⟩
              case rest =>
                as_aux_lemma =>
                clear S1
                obtain ⟨rfl, S1⟩ := hcut
                obtain ⟨bb, hbb⟩ : ∃ bb, bb = (decide (a < i) && decide (i < mid)) := ⟨_, rfl⟩
                rw [← hbb]
                have HBB : Aside (bb = (decide (a < i) && decide (i < mid))) := hbb
                clear hbb
                go_upto_if 199 with (fail)
                go_cut [25] (fun v25 wc => Aside (SA k w0 blk off n d0 wc))
                case first =>
                  as_aux_lemma =>
                  cases bb with
                  | true =>
                    obtain ⟨hA, hB⟩ : a < i ∧ i < mid := by simpa using HBB.out
                    go_wp2_with fail
                    refine (IH.out a i mid _ (by omega) S1.out hA hB (by omega)).mono ?_
                    rintro e w2 ⟨rfl, hw2⟩
                    have S3 : Aside (SA k w0 blk off n d0 w2) := hw2
                    clear hw2 S1 hA hB
                    go_wp2
                    go_meet
                    case rel => exact S3
                  | false =>
                    go_wp2
                    go_meet
                    case rel => exact S1
                case rest =>
                  as_aux_lemma =>
                  clear S1 HBB
                  have S1 := hcut
                  clear hcut
                  go_upto_region 43 with fail
                  go_cut [213] (fun vb wc => vb = .bool (decide (mid < en) && decide (en < b)) ∧ Aside (SA k w0 blk off n d0 wc))
                  case first =>
                    as_aux_lemma =>
                    by_cases hA : mid < en
                    · have hAz : (mid : Int) < (en : Int) := by omega
                      by_cases hB : en < b
                      · have hBz : (en : Int) < (b : Int) := by omega
                        go_wp2
                        go_meet
                        case rel => exact ⟨by simp [hA, hB], S1⟩
                      · have hBz : ¬ (en : Int) < (b : Int) := by omega
                        go_wp2
                        go_meet
                        case rel => exact ⟨by simp [hA, hB], S1⟩
                    · have hAz : ¬ (mid : Int) < (en : Int) := by omega
                      go_wp2
                      go_meet
                      case rel => exact ⟨by simp [hA], S1⟩
                  case rest =>
                    as_aux_lemma =>
                    clear S1
                    obtain ⟨rfl, S1⟩ := hcut
                    obtain ⟨bb, hbb⟩ : ∃ bb, bb = (decide (mid < en) && decide (en < b)) := ⟨_, rfl⟩
                    rw [← hbb]
                    have HBB : Aside (bb = (decide (mid < en) && decide (en < b))) := hbb
                    clear hbb
                    cases bb with
                    | true =>
                      obtain ⟨hA, hB⟩ : mid < en ∧ en < b := by simpa using HBB.out
                      go_wp2_with fail
                      refine (IH.out mid en b _ (by omega) S1.out hA hB (by omega)).mono ?_
                      rintro e w2 ⟨rfl, hw2⟩
                      have S3 : Aside (SA k w0 blk off n d0 w2) := hw2
                      clear hw2 S1 hA hB
                      go_wp2
                      go_end0
                      exact ⟨rfl, S3.out⟩
                    | false =>
                      go_wp2
                      go_end0
                      exact ⟨rfl, S1.out⟩
theorem ins_w (blk off cap n a b : Nat) (d0 : Array S47) (w0 w : World) (R : RowK cells2 2 w0 blk off d0) (hs : d0.size = n) (S : SA 2 w0 blk off n d0 w) (hab : a ≤ b) (hb : b ≤ n) (hsz : n < 4611686018427387904) :
    Calls Tryz.prog 126 #[.slice (some ⟨blk, off, none⟩) n cap, .int .i64 a, .int .i64 b, .func (.func 64) #[] #[]] w fun e w' => e = .returned (.tuple #[]) ∧ SA 2 w0 blk off n d0 w' := by
  obtain ⟨dk, hp, S⟩ := S
  have hdk : dk.size = n := hp.1.trans hs
  have h := ins_calls blk off cap a b dk w (S.holds R.hblk R.hH (by omega)) (S.lt R.hblk) hab (by omega) (by omega)
  rw [hdk] at h
  refine h.mono ?_
  rintro e w' ⟨rfl, q, os, rfl⟩
  have hi := (insertionSort_holds cfN_swo dk a b hab (by omega)).1
  exact ⟨rfl, _, permIn_trans _ _ _ 0 n hp (permIn_mono _ _ a b 0 n (Nat.zero_le _) hb (by omega) hi), S.on R.hblk q _ os hi.1⟩
theorem cmp_lays (blk off : Nat) (d0 : Array S47) (w0 : World) : CmpLays Tryz.prog 64 #[] cells2 2 cfN blk off d0.size w0 := fun _ _ _ _ x y => order_is x y _
theorem merge_w (blk off cap n a m b : Nat) (d0 : Array S47) (w0 w : World) (R : RowK cells2 2 w0 blk off d0) (hs : d0.size = n) (S : SA 2 w0 blk off n d0 w) (ham : a < m) (hmb : m < b) (hb : b ≤ n) (hsz : n < 4611686018427387904) :
    Calls Tryz.prog 127 #[.slice (some ⟨blk, off, none⟩) n cap, .int .i64 a, .int .i64 m, .int .i64 b, .func (.func 64) #[] #[]] w fun e w' => e = .returned (.tuple #[]) ∧ SA 2 w0 blk off n d0 w' :=
  merge_calls lz 64 #[] blk off cap n d0 w0 R hs hsz eg64 (cmp_lays blk off d0 w0) (fun a m b w S h1 h2 h3 => rotate_calls 64 #[] blk off cap n a m b d0 w0 w R hs S h1 h2 h3 hsz) _ a m b w (Nat.lt_succ_self _) S ham hmb hb
set_option maxHeartbeats 8000000 in
set_option maxRecDepth 1000000 in
theorem stable_w (blk off cap n : Nat) (d0 : Array S47) (w0 w : World) (R : RowK cells2 2 w0 blk off d0) (hs : d0.size = n) (S : SA 2 w0 blk off n d0 w) (hsz : n < 1152921504606846976) :
    Calls Tryz.prog 100 #[.slice (some ⟨blk, off, none⟩) n cap, .int .i64 n, .func (.func 64) #[] #[]] w fun e w' => e = .returned (.tuple #[]) ∧ SA 2 w0 blk off n d0 w' := by
  have S0 : Aside (SA 2 w0 blk off n d0 w) := S
  clear S
  go_enter Tryz.func100, Tryz.ntmps100
  go_wp2_with fail
  go_loopg [7, 8] n (fun gg s1 s2 wr => ∃ a : Nat, s1 = .int .i64 a ∧ s2 = .int .i64 ((a + 20 : Nat) : Int) ∧ a ≤ n ∧ n - a ≤ gg ∧ Aside (SA 2 w0 blk off n d0 wr))
  case atStart => exact ⟨0, rfl, i64_eq (by omega), Nat.zero_le _, Nat.le_refl _, S0⟩
  case round =>
    clear S0
    obtain ⟨a, rfl, rfl, han, hg, S1⟩ := hrel
    by_cases hle : a + 20 ≤ n
    · have hlz : ((a + 20 : Nat) : Int) ≤ (n : Int) := by omega
      obtain ⟨b, hb1, hb2⟩ : ∃ b, b ≤ a + 20 ∧ a + 20 ≤ b := ⟨a + 20, by omega, by omega⟩
      obtain rfl : b = a + 20 := by omega
      generalize hbe : a + 20 = b at hlz hle ⊢
      have HBE : Aside (a + 20 = b) := hbe
      clear hbe hb1 hb2
      go_wp2_with fail
      refine (ins_w blk off cap n a b d0 w0 _ R hs S1.out (by have := HBE.out; omega) hle (by omega)).mono ?_
      rintro e w2 ⟨rfl, hw2⟩
      have S3 : Aside (SA 2 w0 blk off n d0 w2) := hw2
      clear hw2
      go_wp2
      go_roundg (n - b)
      case measure => have := HBE.out; omega
      case rel => exact ⟨b, rfl, i64_eq (by omega), hle, Nat.le_refl _, S3⟩
    · have hlz : ¬ ((a + 20 : Nat) : Int) ≤ (n : Int) := by omega
      go_wp2_with fail
      refine (ins_w blk off cap n a n d0 w0 _ R hs S1.out han (Nat.le_refl _) (by omega)).mono ?_
      rintro e w2 ⟨rfl, hw2⟩
      have S3 : Aside (SA 2 w0 blk off n d0 w2) := hw2
      clear hw2 S1 hlz hle hg han
      go_wp2_with fail
      go_loopg [6, 7, 8, 9] n (fun gg s6 s7 s8 s9 wr => ∃ k : Nat, s6 = .int .i64 k ∧ 20 ≤ k ∧ k ≤ 2 * n + 20 ∧ n - k ≤ gg ∧ Aside (SA 2 w0 blk off n d0 wr))
      case atStart => exact ⟨20, rfl, Nat.le_refl _, by omega, by omega, S3⟩
      case round =>
        clear S3
        obtain ⟨k, rfl, hk1, hk2, hg, S1⟩ := hrel
        by_cases hkn : k < n
        · have hkz : (k : Int) < (n : Int) := by omega
          obtain ⟨k2, hk3, hk4⟩ : ∃ k2, k2 ≤ 2 * k ∧ 2 * k ≤ k2 := ⟨2 * k, by omega, by omega⟩
          have hkk : 2 * (k : Int) = (k2 : Int) := by omega
          go_wp2_with fail
          obtain ⟨wo, rfl⟩ : ∃ wo : World, wo = wr := ⟨_, rfl⟩
          go_loopg [7, 8] n (fun gg2 s1 s2 wr2 => ∃ p q : Nat, s1 = .int .i64 p ∧ s2 = .int .i64 q ∧ q ≤ p + k2 ∧ p + k2 ≤ q ∧ p ≤ n ∧ n - p ≤ gg2 ∧ Aside (SA 2 w0 blk off n d0 wr2))
          case atStart => exact ⟨0, k2, rfl, rfl, by omega, by omega, Nat.zero_le _, Nat.le_refl _, S1⟩
          case round =>
            clear S1
            obtain ⟨p, q, rfl, rfl, hq1, hq2, hpn, hg2, S2⟩ := hrel
            obtain ⟨pm, hpm⟩ : ∃ pm : Nat, (p : Int) + (k : Int) = (pm : Int) := ⟨p + k, by omega⟩
            by_cases hqn : q ≤ n
            · have hqz : (q : Int) ≤ (n : Int) := by omega
              go_wp2_with fail
              refine (merge_w blk off cap n p pm q d0 w0 _ R hs S2.out (by omega) (by omega) hqn (by omega)).mono ?_
              rintro e w3 ⟨rfl, hw3⟩
              have S3 : Aside (SA 2 w0 blk off n d0 w3) := hw3
              clear hw3
              go_wp2
              go_roundg (n - q)
              case measure => omega
              case rel => exact ⟨q, q + k2, rfl, i64_eq (by omega), by omega, by omega, hqn, Nat.le_refl _, S3⟩
            · have hqz : ¬ (q : Int) ≤ (n : Int) := by omega
              by_cases hpmn : pm < n
              · have hpz : (pm : Int) < (n : Int) := by omega
                go_wp2_with fail
                refine (merge_w blk off cap n p pm n d0 w0 _ R hs S2.out (by omega) hpmn (Nat.le_refl _) (by omega)).mono ?_
                rintro e w3 ⟨rfl, hw3⟩
                have S3 : Aside (SA 2 w0 blk off n d0 w3) := hw3
                clear hw3
                go_wp2
                go_roundg (n - k2)
                case measure => omega
                case rel => exact ⟨k2, i64_eq (by omega), by omega, by omega, Nat.le_refl _, S3⟩
              · have hpz : ¬ (pm : Int) < (n : Int) := by omega
                go_wp2
                go_roundg (n - k2)
                case measure => omega
                case rel => exact ⟨k2, i64_eq (by omega), by omega, by omega, Nat.le_refl _, S2⟩
        · have hkz : ¬ (k : Int) < (n : Int) := by omega
          go_wp2
          go_end0
          exact ⟨rfl, S1.out⟩
theorem sortf_w (blk off cap n : Nat) (d0 : Array S47) (w0 w : World) (R : RowK cells2 2 w0 blk off d0) (hs : d0.size = n) (S : SA 2 w0 blk off n d0 w) (hsz : n < 1152921504606846976) :
    Calls Tryz.prog 63 #[.slice (some ⟨blk, off, none⟩) n cap, .func (.func 64) #[] #[]] w fun e w' => e = .returned (.tuple #[]) ∧ SA 2 w0 blk off n d0 w' := by
  have hi := stable_w blk off cap n d0 w0 w R hs S hsz
  have HI := Aside0.mk hi
  clear hi S R
  go_enter Tryz.func63, Tryz.ntmps63
  go_wp2_with fail
  refine HI.out.mono ?_
  rintro e w' ⟨rfl, hw'⟩
  have HW := Aside0.mk hw'
  clear hw' HI
  go_wp2_with fail
  go_end0
  exact ⟨rfl, HW.out⟩
theorem sort_long_calls (A : Option Addr) (cap base : Nat) (l : List S47) (w0 w : World) (hn : 0 < l.length) (hl : l.length < 1152921504606846976) (hb0 : Below base w0 w)
    (hR : k47.R 47 w base (fun _ => True) (.slice A l.length cap) l) :
    Calls Tryz.prog 63 #[.slice A l.length cap, .func (.func 64) #[] #[]] w fun e w' => e = .returned (.tuple #[]) ∧ ∃ t : List S47, t.Perm l ∧
      k47.R 47 w' base (fun _ => True) (.slice A t.length cap) t ∧ Below base w0 w' := by
  obtain ⟨A', c', hA, hC⟩ : ∃ gb c', A = some (⟨gb, 0, none⟩ : Addr) ∧ c' = cap := by
    obtain ⟨h0, inner, hrow, hr⟩ := hR
    rcases hrow.2 with ⟨hv, h⟩ | ⟨g, cap', cur, hv, _⟩
    · omega
    · injection hv with hv1 _ _
      exact ⟨g, cap, hv1, rfl⟩
  subst hA
  obtain ⟨_, _, hC⟩ := Kd.R_reads' hR
  obtain ⟨_, _, hlt, cur, hcur⟩ := R_sorted (n := 0) (os := #[]) (d := l.toArray) (by simp) hn hR
  have hH := holds_of hcur hC
  have h := sortf_w A' 0 cap l.length l.toArray w w ⟨cells2_len, cells2_one, hH, hlt⟩ (by simp) ⟨l.toArray, permIn_refl _ _ _, SWK.start hH⟩ hl
  refine Calls.mono h ?_
  rintro e w' ⟨rfl, dk, hp, n, os, rfl⟩
  have hd : dk.size = l.length := by have := hp.1; simpa using this
  obtain ⟨hR', hbg, _, _⟩ := R_sorted (n := n) (os := os) hd hn hR
  refine ⟨rfl, dk.toList, ?_, hR', hb0.trans (below_sortedK _ hbg hlt)⟩
  have h3 := hp.2.2
  have e2 : (l.toArray.extract 0 l.length).toList = l := by simp
  have e1 : (dk.extract 0 l.length).toList = dk.toList := by rw [← hd]; simp
  rw [e1, e2] at h3
  exact h3
end Go.Proofs.YtgafnjgiikdofaaGreatDoor.Sz
