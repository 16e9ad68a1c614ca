/- codec.Frame, walked: the frame around some bytes. -/
import Derived.Test.YtpgcbdopnkbmhaaDoorCc
import Derived.Test.YtpgcbdopnkbmhaaDoorDn
namespace Go.Proofs.YtpgcbdopnkbmhaaDoor.Fm
set_option linter.unusedVariables false
open Go.RowKit Go.Proofs.YtpgcbdopnkbmhaaDoorW.PrintWords Go.Proofs.YtpgcbdopnkbmhaaDoorW.PrintLast Go.Proofs.YtpgcbdopnkbmhaaDoorW.PrintMore
open Go.Proofs.YtpgcbdopnkbmhaaDoor.A Go.Proofs.YtpgcbdopnkbmhaaDoor.Cn Go.Proofs.YtpgcbdopnkbmhaaDoor.Dn Go.Proofs.YtpgcbdopnkbmhaaDoor.Cr Go.Proofs.YtpgcbdopnkbmhaaDoor.Fr Go.Proofs.YtpgcbdopnkbmhaaDoor.Su Go.Proofs.YtpgcbdopnkbmhaaDoor.Le Go.Proofs.YtpgcbdopnkbmhaaDoor.Cc
/-- kind and length -/
def headB (kind : Int) (b : List Int) : List Int := [kind % 256] ++ enc 7 (b.length : Int)
/-- a sum's four bytes, the highest first -/
def four (c : Int) : List Int := [c / 16777216 % 256, c / 65536 % 256, c / 256 % 256, c % 256]
/-- the frame around some bytes -/
def frameB (kind : Int) (b : List Int) : List Int := [165] ++ headB kind b ++ four (crc (headB kind b ++ b)) ++ b
/-- a block of rows, read -/
theorem rows_C {w : World} {b : Nat} {T : TypeId} {cs : List Value} {l : List (List Int)} (h : w.heap[b]? = some (.cells cs.toArray T (0, 0))) (hm : l.length ≤ 9223372036854775807)
    (hk : ∀ (i : Nat) (x : List Int), l[i]? = some x → ∃ B c, cs[i]? = some (.slice B x.length c) ∧ x.length ≤ c ∧ (Kd.int .u8).C w B x.length x) : (Kd.slice 5 (Kd.int .u8)).C w (some ⟨b, 0, none⟩) l.length l := by
  refine ⟨rfl, hm, fun _ => ⟨_, rfl, fun j p hj => ?_⟩⟩
  obtain ⟨B, c, hc, hl, hC⟩ := hk j p hj
  refine ⟨[.slice B p.length c], rfl, ⟨B, c, rfl, hl, hC⟩, fun i u hu => ?_⟩
  cases i with
  | zero =>
    have : Value.slice B p.length c = u := by simpa using hu
    subst this
    have hs : (Kd.slice 5 (Kd.int .u8)).sz = 1 := rfl
    rw [hs]
    have ha : (⟨b, 0, none⟩ : Addr).add (j * 1 + 0) = ⟨b, j, none⟩ := by unfold Addr.add; split <;> simp_all
    rw [ha, blk_cell h j]
    simpa using hc
  | succ i => simp at hu
theorem Tab_below {w w1 : World} (h : Tab w) (hb : Below w.heap.size w w1) : Tab w1 := fun i hi => pw_cell_below hb (h i hi)
theorem seven_calls (n : Nat) (w : World) (h : n < 72057594037927936) : Calls Tryd.prog 20 #[.int .i64 (n : Int)] w fun e w' => ∃ v, e = .returned v ∧ Kd.R (Kd.int .u8) 5 w' w.heap.size (fun _ => True) v (enc 7 (n : Int)) ∧ Below w.heap.size w w' :=
  codec_seven_int.calls 8 n _ w (by unfold codec_seven_int.f; rw [seven_int 7 8 _ [] (by omega) (by omega) (by omega) (by simp)]; rfl)
theorem head_byts (kind : Int) (b : List Int) (hl : b.length ≤ 1048576) : ∀ c ∈ headB kind b, 0 ≤ c ∧ c < 256 := by
  intro c hc
  rcases List.mem_append.1 hc with h | h
  · simp at h; omega
  · exact enc_byts 7 (b.length : Int) (by omega) (by omega) c h
theorem concat2 (w : World) (A1 A2 : Option Addr) (c1 c2 n1 n2 : Nat) (x y : List Int) (h1 : n1 = x.length) (h2 : n2 = y.length) (hc1 : n1 ≤ c1) (hc2 : n2 ≤ c2) (hC1 : (Kd.int .u8).C w A1 n1 x) (hC2 : (Kd.int .u8).C w A2 n2 y) (hl : x.length + y.length ≤ 140737488351232) :
    Calls Tryd.prog 22 #[.slice (some ⟨w.heap.size, 0, none⟩) 2 2] (w.alloc (.cells #[.slice A1 n1 c1, .slice A2 n2 c2] 22)) fun e w' => ∃ v, e = .returned v ∧ Kd.R (Kd.int .u8) 5 w' (w.alloc (.cells #[.slice A1 n1 c1, .slice A2 n2 c2] 22)).heap.size (fun _ => True) v (x ++ y) ∧ Below (w.alloc (.cells #[.slice A1 n1 c1, .slice A2 n2 c2] 22)).heap.size (w.alloc (.cells #[.slice A1 n1 c1, .slice A2 n2 c2] 22)) w' := by
  subst h1; subst h2
  have hrows : (Kd.slice 5 (Kd.int .u8)).C (w.alloc (.cells #[.slice A1 x.length c1, .slice A2 y.length c2] 22)) (some ⟨w.heap.size, 0, none⟩) [x, y].length [x, y] :=
    rows_C (cs := [.slice A1 x.length c1, .slice A2 y.length c2]) (blk_new w _) (by simp) (by
      intro i z hz
      match i, hz with
      | 0, hz =>
        obtain rfl : x = z := by simpa using hz
        exact ⟨A1, c1, rfl, hc1, Kd.C_alloc hC1 _⟩
      | 1, hz =>
        obtain rfl : y = z := by simpa using hz
        exact ⟨A2, c2, rfl, hc2, Kd.C_alloc hC2 _⟩
      | i + 2, hz => simp at hz)
  have h := concat_is (some ⟨w.heap.size, 0, none⟩) 2 [x, y] _ hrows (by simp; omega)
  have hf : [x, y].flatten = x ++ y := by simp
  rw [hf] at h
  exact h
theorem concat4 (w : World) (A1 A2 A3 A4 : Option Addr) (c1 c2 c3 c4 n1 n2 n3 n4 : Nat) (x y z u : List Int) (h1 : n1 = x.length) (h2 : n2 = y.length) (h3 : n3 = z.length) (h4 : n4 = u.length) (hc1 : n1 ≤ c1) (hc2 : n2 ≤ c2) (hc3 : n3 ≤ c3) (hc4 : n4 ≤ c4)
    (hC1 : (Kd.int .u8).C w A1 n1 x) (hC2 : (Kd.int .u8).C w A2 n2 y) (hC3 : (Kd.int .u8).C w A3 n3 z) (hC4 : (Kd.int .u8).C w A4 n4 u) (hl : x.length + y.length + z.length + u.length ≤ 140737488351232) :
    Calls Tryd.prog 22 #[.slice (some ⟨w.heap.size, 0, none⟩) 4 4] (w.alloc (.cells #[.slice A1 n1 c1, .slice A2 n2 c2, .slice A3 n3 c3, .slice A4 n4 c4] 22)) fun e w' => ∃ v, e = .returned v ∧ Kd.R (Kd.int .u8) 5 w' (w.alloc (.cells #[.slice A1 n1 c1, .slice A2 n2 c2, .slice A3 n3 c3, .slice A4 n4 c4] 22)).heap.size (fun _ => True) v (x ++ y ++ z ++ u) ∧ Below (w.alloc (.cells #[.slice A1 n1 c1, .slice A2 n2 c2, .slice A3 n3 c3, .slice A4 n4 c4] 22)).heap.size (w.alloc (.cells #[.slice A1 n1 c1, .slice A2 n2 c2, .slice A3 n3 c3, .slice A4 n4 c4] 22)) w' := by
  subst h1; subst h2; subst h3; subst h4
  have hrows : (Kd.slice 5 (Kd.int .u8)).C (w.alloc (.cells #[.slice A1 x.length c1, .slice A2 y.length c2, .slice A3 z.length c3, .slice A4 u.length c4] 22)) (some ⟨w.heap.size, 0, none⟩) [x, y, z, u].length [x, y, z, u] :=
    rows_C (cs := [.slice A1 x.length c1, .slice A2 y.length c2, .slice A3 z.length c3, .slice A4 u.length c4]) (blk_new w _) (by simp) (by
      intro i q hq
      match i, hq with
      | 0, hq =>
        obtain rfl : x = q := by simpa using hq
        exact ⟨A1, c1, rfl, hc1, Kd.C_alloc hC1 _⟩
      | 1, hq =>
        obtain rfl : y = q := by simpa using hq
        exact ⟨A2, c2, rfl, hc2, Kd.C_alloc hC2 _⟩
      | 2, hq =>
        obtain rfl : z = q := by simpa using hq
        exact ⟨A3, c3, rfl, hc3, Kd.C_alloc hC3 _⟩
      | 3, hq =>
        obtain rfl : u = q := by simpa using hq
        exact ⟨A4, c4, rfl, hc4, Kd.C_alloc hC4 _⟩
      | i + 4, hq => simp at hq)
  have h := concat_is (some ⟨w.heap.size, 0, none⟩) 4 [x, y, z, u] _ hrows (by simp; omega)
  have hf : [x, y, z, u].flatten = x ++ y ++ z ++ u := by simp
  rw [hf] at h
  exact h
set_option maxHeartbeats 1000000 in
theorem frame_ok (kind : Int) (A : Option Addr) (c : Nat) (b : List Int) (w : World) (hC : (Kd.int .u8).C w A b.length b) (hb : ∀ x ∈ b, 0 ≤ x ∧ x < 256) (hc : b.length ≤ c) (h0 : 0 ≤ kind) (h1 : kind ≤ 255) (hl : b.length ≤ 1048576) (hT : Tab w) :
    Calls Tryd.prog 14 #[.int .i64 kind, .slice A b.length c] w fun e w' => ∃ v, e = .returned (.tuple #[v, .int .i64 0]) ∧ Kd.R (Kd.int .u8) 5 w' w.heap.size (fun _ => True) v (frameB kind b) ∧ Below w.heap.size w w' := by
  have HC := Aside0.mk hC
  have HT := Aside0.mk hT
  have HBY := Aside0.mk hb
  have t0 : decide (kind < 0) = false := by simp; omega
  have t1 : decide (255 < kind) = false := by simp; omega
  obtain ⟨n, hn⟩ : ∃ n, n = b.length := ⟨_, rfl⟩
  have t2 : decide ((1048576 : Int) < (n : Int)) = false := by simp; omega
  have HN := Aside0.mk hn
  have HSEV := Aside0.mk (fun W => seven_calls n W (by omega))
  obtain ⟨hd, hhd⟩ : ∃ hd, hd = headB kind b := ⟨_, rfl⟩
  have HHB := Aside0.mk (show ∀ x ∈ hd ++ b, 0 ≤ x ∧ x < 256 by
    intro x hx
    rcases List.mem_append.1 hx with h | h
    · rw [hhd] at h; exact head_byts kind b hl x h
    · exact hb x h)
  have HHD := Aside0.mk (show [kind % 256] ++ enc 7 (n : Int) = hd by rw [hhd, hn]; rfl)
  have HFR := Aside0.mk (show frameB kind b = [165] ++ hd ++ four (crc (hd ++ b)) ++ b by rw [hhd]; rfl)
  obtain ⟨m, hm⟩ : ∃ m, m = hd.length := ⟨_, rfl⟩
  have hm9 : m ≤ 9 := by rw [hm, hhd]; unfold headB; have := enc_len 7 (b.length : Int); simp; omega
  have HM := Aside0.mk hm
  have HC' := Aside0.mk hC
  rw [← hn] at hC hc hl ⊢
  have HCN := Aside0.mk hC
  obtain ⟨S, hS⟩ : ∃ S, S = crc (hd ++ b) := ⟨_, rfl⟩
  have hS0 : 0 ≤ S := by rw [hS]; exact (crc_range _).1
  obtain ⟨q, hq⟩ : ∃ q, q = hd ++ b := ⟨_, rfl⟩
  rw [← hq] at hS HHB
  obtain ⟨k, hk⟩ : ∃ k, k = q.length := ⟨_, rfl⟩
  have HQ := Aside0.mk hq
  have HK := Aside0.mk hk
  have HS := Aside0.mk hS
  clear hC hT hb hn h0 h1 hhd hm hS hq hk
  go_enter Tryd.func14, Tryd.ntmps14
  go_wp2_with (first
    | ((with_reducible refine gate_dst (N := 19) rfl ?_); refine Kd.R_lit (Kd.int .u8) _ 5 ?hg (N := 19) ?hd (xs := ([kind % 256] : List Int)) (inner := [.int .u8 (kind % 256)]) (ok := fun _ => True) (okp := fun _ => True) ?hr ?hp (fun _ hk => hk) trivial (Below.refl _ _) (Nat.le_refl _) (by simp) ?_; (case hd => rfl); (case hg => rfl); (case hr => first | (go_simp; done) | (go_simp; rfl)); (case hp => exact (Reps.one (show Kd.M (Kd.int .u8) _ _ _ (kind % 256) [.int .u8 (kind % 256)] from rfl) (Reps.none _ _))); intro v1 w1 ho hb hg_ hnew_; clear hg_ hnew_; have HR1 := Aside0.mk ho; have HB1 := Aside0.mk hb; clear hb ho)
    | fail)
  refine (HSEV.out _).mono ?_
  rintro e w2 ⟨v2, rfl, hr2, hb2⟩
  have HR1' := Aside0.mk (Kd.R_below HR1.out hb2)
  have HB2 := Aside0.mk (below_step HB1.out hb2)
  obtain ⟨A2, c2, rfl, hc2, hC2⟩ := Kd.R_reads hr2
  have HC2 := Aside0.mk hC2
  clear hr2 hb2 hC2
  go_wp2_with (((with_reducible refine gate_builtin (b := .append) (xs := #[.tmp 19, .tmp 22]) rfl ?_); at_builtin; refine Kd.R_append_row (Value.int .u8) (0 : Int) (h1 := fun _ => rfl) (w0 := w) w.heap.size rfl (.tmp 19) (.tmp 22) 22 5 (.int .u8 0) 1 rfl Tryd.underlying22 info5 rfl (by decide) v1 [kind % 256] (enc 7 (n : Int)) A2 (enc 7 (n : Int)).length c2 (fun _ => True) rfl rfl (fun _ _ => trivial) HR1'.out HC2.out HB2.out HB2.out.size ?aL ?_; (case aL => have := enc_len 7 (n : Int); simp; omega); intro v3 w3 ho hb hg hat; rw [HHD.out] at ho; obtain ⟨A3, c3, rfl, hc3, hC3⟩ := Kd.R_reads ho; rw [← HM.out] at hc3 hC3 ⊢; have HC3 := Aside0.mk hC3; have HB3 := Aside0.mk hb; clear ho hb hg hat hC3))
  have HCC := Aside0.mk (concat2 w3 A3 A c3 c m n hd b HM.out HN.out hc3 hc HC3.out (Kd.C_below HCN.out HB3.out) (by have h1 := HM.out; have h2 := HN.out; omega))
  refine HCC.out.mono ?_
  rintro e w4 ⟨v4, rfl, hr4, hb4⟩
  have HB4 := Aside0.mk (below_step (below_alloc HB3.out _) hb4)
  have HC3' := Aside0.mk (Kd.C_below (Kd.C_alloc HC3.out _) hb4)
  rw [← HQ.out] at hr4
  obtain ⟨A4, c4, rfl, hc4, hC4⟩ := Kd.R_reads hr4
  have hsum := sum_is A4 c4 q w4 hC4 HHB.out (Tab_below HT.out HB4.out)
  rw [← HS.out, ← HK.out] at hsum
  have HSUM := Aside0.mk hsum
  rw [← HK.out]
  clear hsum
  clear hr4 hb4 hC4 HCC
  go_wp2_with fail
  refine HSUM.out.mono ?_
  rintro e w' ⟨rfl, rfl⟩
  go_wp2_with (first
    | ((with_reducible refine gate_dst (N := 29) rfl ?_); refine Kd.R_lit (Kd.int .u8) _ 5 ?hg (N := 29) ?hd (xs := ([165] : List Int)) (inner := [.int .u8 165]) (ok := fun _ => True) (okp := fun _ => True) ?hr ?hp (fun _ hk => hk) trivial (Below.refl _ _) (Nat.le_refl _) (by simp) ?_; (case hd => rfl); (case hg => rfl); (case hr => first | (go_simp; done) | (go_simp; rfl)); (case hp => exact (Reps.one (show Kd.M (Kd.int .u8) _ _ _ 165 [.int .u8 165] from rfl) (Reps.none _ _))); intro v5 w5 ho hb hg_ hnew_; clear hg_ hnew_; obtain ⟨A5, c5, rfl, hc5, hC5⟩ := Kd.R_reads ho; have HC5 := Aside0.mk hC5; have HB5 := Aside0.mk (below_step HB4.out hb); have HC3a := Aside0.mk (Kd.C_below HC3'.out hb); clear hb ho hC5)
    | ((with_reducible refine gate_dst (N := 42) rfl ?_); refine Kd.R_lit (Kd.int .u8) _ 5 ?hg (N := 42) ?hd (xs := four S) (inner := [.int .u8 (S / 16777216 % 256), .int .u8 (S / 65536 % 256), .int .u8 (S / 256 % 256), .int .u8 (S % 256)]) (ok := fun _ => True) (okp := fun _ => True) ?hr ?hp (fun _ hk => hk) trivial (Below.refl _ _) (Nat.le_refl _) (by simp [four]) ?_; (case hd => rfl); (case hg => rfl); (case hr => first | (go_simp; done) | (go_simp; rfl)); (case hp => exact (Reps.one (show Kd.M (Kd.int .u8) _ _ _ (S / 16777216 % 256) [.int .u8 (S / 16777216 % 256)] from rfl) (Reps.one (show Kd.M (Kd.int .u8) _ _ _ (S / 65536 % 256) [.int .u8 (S / 65536 % 256)] from rfl) (Reps.one (show Kd.M (Kd.int .u8) _ _ _ (S / 256 % 256) [.int .u8 (S / 256 % 256)] from rfl) (Reps.one (show Kd.M (Kd.int .u8) _ _ _ (S % 256) [.int .u8 (S % 256)] from rfl) (Reps.none _ _)))))); intro v6 w6 ho hb hg_ hnew_; clear hg_ hnew_; obtain ⟨A6, c6, rfl, hc6, hC6⟩ := Kd.R_reads ho; have HC6 := Aside0.mk hC6; have HB6 := Aside0.mk (below_step HB5.out hb); have HC3b := Aside0.mk (Kd.C_below HC3a.out hb); have HC5b := Aside0.mk (Kd.C_below HC5.out hb); clear hb ho hC6)
    | fail)
  have HCC4 := Aside0.mk (concat4 w6 A5 A3 A6 A c5 c3 c6 c 1 m (four S).length n [165] hd (four S) b rfl HM.out rfl HN.out hc5 hc3 hc6 hc HC5b.out HC3b.out HC6.out (Kd.C_below HCN.out HB6.out) (by have h1 := HM.out; have h2 := HN.out; simp [four]; omega))
  refine HCC4.out.mono ?_
  rintro e w7 ⟨v7, rfl, hr7, hb7⟩
  have HB7 := Aside0.mk (below_step (below_alloc HB6.out _) hb7)
  have HR7 := Aside0.mk (Kd.R_lower hr7 (below_alloc HB6.out _).size)
  clear hr7 hb7 HCC4
  go_wp2
  go_ret2
  refine ⟨_, rfl, ?_, HB7.out⟩
  rw [HFR.out, ← HQ.out, ← HS.out]
  exact HR7.out
/-- a kind that may not be -/
theorem frame_kind (kind : Int) (A : Option Addr) (c n : Nat) (w : World) (h : kind < 0 ∨ 255 < kind) :
    Calls Tryd.prog 14 #[.int .i64 kind, .slice A n c] w fun e w' => e = .returned (.tuple #[.slice none 0 0, .int .i64 1]) ∧ w = w' := by
  by_cases h0 : kind < 0
  · have t0 : decide (kind < 0) = true := by simpa using h0
    go_enter Tryd.func14, Tryd.ntmps14
    go_wp2
    go_ret2
    exact ⟨rfl, rfl⟩
  · have t0 : decide (kind < 0) = false := by simpa using h0
    have t1 : decide (255 < kind) = true := by simp; omega
    go_enter Tryd.func14, Tryd.ntmps14
    go_wp2
    go_ret2
    exact ⟨rfl, rfl⟩
/-- too long -/
theorem frame_long (kind : Int) (A : Option Addr) (c n : Nat) (w : World) (h0 : 0 ≤ kind) (h1 : kind ≤ 255) (hl : 1048576 < n) :
    Calls Tryd.prog 14 #[.int .i64 kind, .slice A n c] w fun e w' => e = .returned (.tuple #[.slice none 0 0, .int .i64 6]) ∧ w = w' := by
  have t0 : decide (kind < 0) = false := by simp; omega
  have t1 : decide (255 < kind) = false := by simp; omega
  have t2 : decide ((1048576 : Int) < (n : Int)) = true := by simp; omega
  clear h0 h1 hl
  go_enter Tryd.func14, Tryd.ntmps14
  go_wp2
  go_ret2
  exact ⟨rfl, rfl⟩
end Go.Proofs.YtpgcbdopnkbmhaaDoor.Fm
