/- slices.Clone, slices.IndexFunc and slices.DeleteFunc of blocks. -/
import Derived.Test.YtdohacnjngkkiaaPi
import Derived.WalkSpells
namespace Go.Proofs.Ytdohacnjngkkiaa.Pc
set_option linter.unusedVariables false
set_option linter.unusedSimpArgs false
open Go.Shelf Go.RowKit Go.Proofs.YtdohacnjngkkiaaW.PrintWords Go.Proofs.YtdohacnjngkkiaaW.PrintLast Go.Proofs.YtdohacnjngkkiaaW.PrintMore Go.Proofs.Ytdohacnjngkkiaa.Fr Go.Proofs.Ytdohacnjngkkiaa.Mv Go.Proofs.Ytdohacnjngkkiaa.A Go.Proofs.Ytdohacnjngkkiaa.Pm Go.Proofs.Ytdohacnjngkkiaa.Pf Go.Proofs.Ytdohacnjngkkiaa.Pi
theorem info40 : (Try.prog.info? 40).map (fun i => (i.zero, i.size, i.bytes)) = some (some (.agg #[.int .i64 0, .int .i64 0, .int .i64 0, .int .i64 0, .int .i64 0, .int .i64 0, .int .i64 0, .int .i64 0]), 8, 64) := by kernel_rfl
set_option maxHeartbeats 1000000 in
theorem clone_calls (A : Option Addr) (c : Nat) (xs : List S40) (w : World) (hC : k40.C w A xs.length xs) (hc : xs.length ≤ c) (hl : xs.length ≤ 1048576) :
    Calls Try.prog 41 #[.slice A xs.length c] w fun e w' => ∃ v, e = .returned v ∧ k40.R 40 w' w.heap.size (fun _ => True) v xs ∧ Below w.heap.size w w' := by
  have HB := Aside0.mk (Below.refl w.heap.size w)
  have heq := fun W => Lib.run_eql_slice_nil (P := Try.prog) W 23 40 A xs.length c 0 0 Try.underlying23
  cases A with
  | none =>
    have hx : xs = [] := by
      cases xs with
      | nil => rfl
      | cons a l => obtain ⟨ad, e, _⟩ := hC.2.2 (by simp); cases e
    subst hx
    have heq0 := fun W => Lib.run_eql_slice_nil (P := Try.prog) W 23 40 none 0 c 0 0 Try.underlying23
    simp only [List.length_nil]
    clear heq hC hl
    go_enter Try.func41, Try.ntmps41
    go_wp2
    go_ret
    exact ⟨_, rfl, Kd.R_nil _ _ _ _ _, HB.out⟩
  | some ad =>
    obtain ⟨n, hn⟩ : ∃ n, n = xs.length := ⟨_, rfl⟩
    rw [← hn] at hC hc hl heq ⊢
    have HN := Aside0.mk hn
    clear hn
    go_enter Try.func41, Try.ntmps41
    go_wp2_with (first
      | ((with_reducible refine gate_dst (N := 5) rfl ?_); refine Kd.R_lit k40 _ 40 ?hg (N := 5) ?hd (xs := ([] : List S40)) (inner := []) (ok := fun _ => True) (okp := fun _ => True) ?hr ?hp (fun _ hk => hk) trivial (Below.refl _ _) (Nat.le_refl _) (by simp) ?_; (case hd => rfl); (case hg => rfl); (case hr => first | (go_simp; done) | (go_simp; rfl)); (case hp => exact (Reps.none _ _)); intro v1 w1 ho1 hb hg_ hnew_; clear hg_ hnew_; have HO1 := Aside0.mk ho1; have HB1 := Aside0.mk hb; clear hb ho1)
      | ((with_reducible refine gate_builtin (b := .append) (xs := #[.tmp 5, .tmp 6]) rfl ?_); at_builtin; refine Kd.R_append_rows k40 (w0 := w) w.heap.size rfl (.tmp 5) (.tmp 6) 23 40 (.agg #[.int .i64 0, .int .i64 0, .int .i64 0, .int .i64 0, .int .i64 0, .int .i64 0, .int .i64 0, .int .i64 0]) 64 rfl Try.underlying23 info40 rfl (by decide) (by omega) v1 [] xs _ _ _ (fun _ => True) (fun _ => False) rfl rfl ?aO ?aR (fun _ _ h => h) (fun _ h => h.elim) ?aF ?aB ?aS ?aL ?_; (case aR => exact Kd.C_below hC HB1.out); (case aB => exact HB1.out); (case aF => exact (fun _ _ => trivial)); (case aO => exact HO1.out); (case aS => exact HB1.out.size); (case aL => simp; omega); intro v2 w2 ho hb hg hat; have HO2 := Aside0.mk ho; have HB2 := Aside0.mk hb; clear ho hb hg hat))
    go_ret
    exact ⟨_, rfl, HO2.out, HB2.out⟩
/-- what a function value answers, wherever the memory below B is as it was -/
def AsksB (B g : Nat) (lb : Array Value) (p : S40 → Bool) (w : World) : Prop := ∀ (x : S40) (W : World), Below B w W → Calls Try.prog g (#[ag x] ++ lb) W fun e w' => e = .returned (.bool (p x)) ∧ Below W.heap.size W w'
/-- the first that fits; -1: none -/
def idxB (l : List S40) (p : S40 → Bool) : Int := if l.any p = true then ((l.takeWhile (fun x => !p x)).length : Int) else -1
set_option maxHeartbeats 4000000 in
theorem index_no (A : Option Addr) (c : Nat) (l : List S40) (g : Nat) (lb : Array Value) (p : S40 → Bool) (B : Nat) (w0 w : World) (eg : ∀ args w, (callFunc g args).run Try.prog w = .ok (.enter g args) w) (hp : AsksB B g lb p w0) (hb0 : Below B w0 w) (hB : B ≤ w.heap.size) (hC : k40.C w A l.length l) (hl : l.length ≤ 1048576)
    (hno : ∀ x ∈ l, p x = false) :
    Calls Try.prog 58 #[.slice A l.length c, .func (.func g) #[] lb] w fun e w' => e = .returned (.int .i64 (-1)) ∧ Below w.heap.size w w' := by
  have HC := Aside0.mk hC
  obtain ⟨n, hn⟩ : ∃ n, n = l.length := ⟨_, rfl⟩
  rw [← hn] at hl ⊢
  have HN := Aside0.mk hn
  have HP := Aside0.mk hp
  have HB0 := Aside0.mk hb0
  have HBS := Aside0.mk hB
  have HNO := Aside0.mk hno
  clear hC hn hp hb0 hB hno
  go_enter Try.func58, Try.ntmps58
  go_wp2_with fail
  go_loopg [8] n (fun g' s8 wx => ∃ k : Nat, s8 = .int .i64 (k : Int) ∧ Aside0 (k + g' = n) ∧ Aside0 (Below w.heap.size w wx))
  case atStart => exact ⟨0, rfl, ⟨by omega⟩, ⟨Below.refl _ _⟩⟩
  case round =>
    obtain ⟨k, rfl, HK, HB⟩ := hrel
    have hkn : k ≤ n := by have := HK.out; omega
    by_cases hlt : (k : Int) < n
    · have hkl : k < l.length := by have := HN.out; omega
      obtain ⟨ad, hA, c0, c1, c2, c3, c4, c5, c6, c7⟩ := el_at (Kd.C_below HC.out HB.out) k hkl
      have hpx := HNO.out l[k] (List.getElem_mem hkl)
      obtain ⟨x, hx⟩ : ∃ x, x = l[k] := ⟨_, rfl⟩
      rw [← hx] at c0 c1 c2 c3 c4 c5 c6 c7 hpx
      subst hA
      have hq := HP.out x wr (HB0.out.trans (HB.out.mono HBS.out))
      rw [hpx] at hq
      unfold ag at hq
      clear hx hkl hpx
      go_wp2_with fail
      refine hq.mono ?_
      rintro e w2 ⟨rfl, hb2⟩
      have HB2 := Aside0.mk (below_step HB.out hb2)
      clear hq hb2 c0 c1 c2 c3 c4 c5 c6 c7
      go_wp2
      go_roundg (gk - 1)
      case measure => have := HK.out; omega
      case rel => exact ⟨k + 1, by go_num, ⟨by have := HK.out; omega⟩, HB2⟩
    · clear HK
      go_wp2
      go_ret
      exact ⟨rfl, HB.out⟩
set_option maxHeartbeats 4000000 in
theorem index_yes (A : Option Addr) (c : Nat) (X Y : List S40) (z : S40) (g : Nat) (lb : Array Value) (p : S40 → Bool) (B : Nat) (w0 w : World) (eg : ∀ args w, (callFunc g args).run Try.prog w = .ok (.enter g args) w) (hp : AsksB B g lb p w0) (hb0 : Below B w0 w) (hB : B ≤ w.heap.size) (hC : k40.C w A (X ++ z :: Y).length (X ++ z :: Y)) (hl : (X ++ z :: Y).length ≤ 1048576)
    (hno : ∀ x ∈ X, p x = false) (hz : p z = true) :
    Calls Try.prog 58 #[.slice A (X ++ z :: Y).length c, .func (.func g) #[] lb] w fun e w' => e = .returned (.int .i64 (X.length : Nat)) ∧ Below w.heap.size w w' := by
  have HC := Aside0.mk hC
  obtain ⟨n, hn⟩ : ∃ n, n = (X ++ z :: Y).length := ⟨_, rfl⟩
  rw [← hn] at hl ⊢
  have hxn : X.length < n := by rw [hn]; simp
  have HN := Aside0.mk hn
  have HP := Aside0.mk hp
  have HB0 := Aside0.mk hb0
  have HBS := Aside0.mk hB
  have HNO := Aside0.mk hno
  clear hC hn hp hb0 hB hno
  go_enter Try.func58, Try.ntmps58
  go_wp2_with fail
  go_loopg [8] (X.length) (fun g' s8 wx => ∃ k : Nat, s8 = .int .i64 (k : Int) ∧ Aside0 (k + g' = X.length) ∧ Aside0 (Below w.heap.size w wx))
  case atStart => exact ⟨0, rfl, ⟨by omega⟩, ⟨Below.refl _ _⟩⟩
  case round =>
    obtain ⟨k, rfl, HK, HB⟩ := hrel
    have hkX : k ≤ X.length := by have := HK.out; omega
    have hlt : (k : Int) < n := by omega
    have hkl : k < (X ++ z :: Y).length := by have := HN.out; omega
    obtain ⟨ad, hA, c0, c1, c2, c3, c4, c5, c6, c7⟩ := el_at (Kd.C_below HC.out HB.out) k hkl
    obtain ⟨x, hx⟩ : ∃ x, x = (X ++ z :: Y)[k] := ⟨_, rfl⟩
    rw [← hx] at c0 c1 c2 c3 c4 c5 c6 c7
    subst hA
    have hq := HP.out x wr (HB0.out.trans (HB.out.mono HBS.out))
    by_cases hkk : k < X.length
    · have hpx : p x = false := by
        rw [hx, List.getElem_append_left hkk]
        exact HNO.out _ (List.getElem_mem hkk)
      rw [hpx] at hq
      unfold ag at hq
      clear hx hkl hpx
      go_wp2_with fail
      refine hq.mono ?_
      rintro e w2 ⟨rfl, hb2⟩
      have HB2 := Aside0.mk (below_step HB.out hb2)
      clear hq hb2 c0 c1 c2 c3 c4 c5 c6 c7
      go_wp2
      go_roundg (gk - 1)
      case measure => have := HK.out; omega
      case rel => exact ⟨k + 1, by go_num, ⟨by have := HK.out; omega⟩, HB2⟩
    · have hke : k = X.length := by omega
      have hpx : p x = true := by
        subst hke
        rw [hx, List.getElem_append_right (by omega)]
        simpa using hz
      rw [hpx] at hq
      unfold ag at hq
      have HKE := Aside0.mk hke
      clear hx hkl hpx hkk hke
      go_wp2_with fail
      refine hq.mono ?_
      rintro e w2 ⟨rfl, hb2⟩
      have HB2 := Aside0.mk (below_step HB.out hb2)
      clear hq hb2 c0 c1 c2 c3 c4 c5 c6 c7
      go_wp2
      go_ret
      exact ⟨by rw [HKE.out]; rfl, HB2.out⟩
end Go.Proofs.Ytdohacnjngkkiaa.Pc
