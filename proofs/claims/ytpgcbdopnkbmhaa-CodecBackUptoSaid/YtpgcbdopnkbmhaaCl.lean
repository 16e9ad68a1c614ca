/- slices.Clone of bytes, and codec.New. -/
import Derived.Test.YtpgcbdopnkbmhaaDe
import Derived.WalkSpells
namespace Go.Proofs.Ytpgcbdopnkbmhaa.Cl
set_option linter.unusedVariables false
open Go.RowKit Go.Proofs.YtpgcbdopnkbmhaaW.PrintWords Go.Proofs.YtpgcbdopnkbmhaaW.PrintLast Go.Proofs.YtpgcbdopnkbmhaaW.PrintMore
open Go.Proofs.Ytpgcbdopnkbmhaa.A Go.Proofs.Ytpgcbdopnkbmhaa.Cn Go.Proofs.Ytpgcbdopnkbmhaa.Kn Go.Proofs.Ytpgcbdopnkbmhaa.Dn Go.Proofs.Ytpgcbdopnkbmhaa.Fr Go.Proofs.Ytpgcbdopnkbmhaa.De
theorem C_lt {k : IntKind} {w : World} {A : Option Addr} {n : Nat} {xs : List Int} (h : (Kd.int k).C w A n xs) : ∀ ad, A = some ad → 0 < n → ad.block < w.heap.size := by
  intro ad e hp
  obtain ⟨_, _, h3⟩ := Kd.reads_of_C (d := (0 : Int)) h
  obtain ⟨ad', e', hc⟩ := h3 hp
  have := World.block_lt_of_cell? w _ (hc 0 hp)
  rw [e] at e'
  injection e' with e'
  subst e'
  have hb : (ad.add 0).block = ad.block := by unfold Addr.add; split <;> rfl
  rw [hb] at this
  exact this
set_option maxHeartbeats 1000000 in
theorem clone_any (A : Option Addr) (c : Nat) (xs : List Int) (w : World) (hC : (Kd.int .u8).C w A xs.length xs) (hc : xs.length ≤ c) (hl : xs.length ≤ 140737488351232) :
    Calls Try.prog 26 #[.slice A xs.length c] w fun e w' => ∃ v, e = .returned v ∧ Kd.R (Kd.int .u8) 5 w' w.heap.size (fun _ => True) v xs ∧ Below w.heap.size w w' := by
  have HB := Aside0.mk (Below.refl w.heap.size w)
  have heq := fun W => Lib.run_eql_slice_nil (P := Try.prog) W 22 5 A xs.length c 0 0 Try.underlying22
  cases A with
  | none =>
    have hx : xs = [] := by
      cases xs with
      | nil => rfl
      | cons a l => obtain ⟨ad, e, _⟩ := hC.2.2 (by simp); cases e
    subst hx
    have heq0 := fun W => Lib.run_eql_slice_nil (P := Try.prog) W 22 5 none 0 c 0 0 Try.underlying22
    simp only [List.length_nil]
    clear heq hC hl
    go_enter Try.func26, Try.ntmps26
    go_wp2
    go_ret
    exact ⟨_, rfl, Kd.R_nil _ _ _ _ _, HB.out⟩
  | some ad =>
    obtain ⟨n, hn⟩ : ∃ n, n = xs.length := ⟨_, rfl⟩
    rw [← hn] at hC hc hl heq ⊢
    have HN := Aside0.mk hn
    clear hn
    go_enter Try.func26, Try.ntmps26
    go_wp2_with (first
      | ((with_reducible refine gate_dst (N := 5) rfl ?_); refine Kd.R_lit (Kd.int .u8) _ 5 ?hg (N := 5) ?hd (xs := ([] : List Int)) (inner := []) (ok := fun _ => True) (okp := fun _ => True) ?hr ?hp (fun _ hk => hk) trivial (Below.refl _ _) (Nat.le_refl _) (by simp) ?_; (case hd => rfl); (case hg => rfl); (case hr => first | (go_simp; done) | (go_simp; rfl)); (case hp => exact (Reps.none _ _)); intro v1 w1 ho1 hb hg_ hnew_; clear hg_ hnew_; have HO1 := Aside0.mk ho1; have HB1 := Aside0.mk hb; clear hb ho1)
      | ((with_reducible refine gate_builtin (b := .append) (xs := #[.tmp 5, .tmp 6]) rfl ?_); at_builtin; refine Kd.R_append_rows (Kd.int .u8) (w0 := w) w.heap.size rfl (.tmp 5) (.tmp 6) 22 5 (.int .u8 0) 1 rfl Try.underlying22 info5 rfl (by decide) (by omega) v1 [] xs _ _ _ (fun _ => True) (fun _ => False) rfl rfl ?aO ?aR (fun _ _ h => h) (fun _ h => h.elim) ?aF ?aB ?aS ?aL ?_; (case aR => exact Kd.C_below hC HB1.out); (case aB => exact HB1.out); (case aF => exact (fun _ _ => trivial)); (case aO => exact HO1.out); (case aS => exact HB1.out.size); (case aL => simp; omega); intro v2 w2 ho hb hg hat; have HO2 := Aside0.mk ho; have HB2 := Aside0.mk hb; clear ho hb hg hat))
    go_ret
    exact ⟨_, rfl, HO2.out, HB2.out⟩
/-- New: a decoder of these bytes -/
theorem new_any (A : Option Addr) (c : Nat) (xs : List Int) (w : World) (hC : (Kd.int .u8).C w A xs.length xs) (hc : xs.length ≤ c) (hl : xs.length ≤ 140737488351232) :
    Calls Try.prog 19 #[.slice A xs.length c] w fun e w' => ∃ b, e = .returned (.pointer (some ⟨b, 0, none⟩)) ∧ Dec w' b xs 0 ∧ w.heap.size ≤ b ∧ Below w.heap.size w w' := by
  have HN := Aside0.mk (clone_any A c xs w hC hc hl)
  clear hC
  go_enter Try.func19, Try.ntmps19
  go_wp2_with fail
  refine HN.out.mono ?_
  rintro e w1 ⟨v, rfl, hr, hb⟩
  obtain ⟨A1, c1, rfl, hc1, hC1⟩ := Kd.R_reads hr
  have HB := Aside0.mk hb
  have HC1 := Aside0.mk hC1
  have hs := hb.size
  clear hb hC1 hr
  go_wp2
  go_ret
  refine ⟨w1.heap.size, rfl, Dec.mk' (blk_new w1 _) rfl hc1 (Kd.C_alloc HC1.out _) ?_, hs, below_alloc HB.out _⟩
  intro ad e hp
  have := C_lt HC1.out ad e hp
  omega
end Go.Proofs.Ytpgcbdopnkbmhaa.Cl
