/- The decoders of the program and of the document, for any bytes. -/
import Derived.Test.YtgafnjgiikdofaaGreatDoorCb
import Derived.LoopN
namespace Go.Proofs.YtgafnjgiikdofaaGreatDoor.Cp
set_option linter.unusedVariables false
set_option linter.unusedSimpArgs false
open Go.RowKit Go.Proofs.YtgafnjgiikdofaaGreatDoorW.PrintWords Go.Proofs.YtgafnjgiikdofaaGreatDoorW.PrintLast Go.Proofs.YtgafnjgiikdofaaGreatDoorW.PrintMore
open Go.Proofs.YtgafnjgiikdofaaGreatDoor.B Go.Proofs.YtgafnjgiikdofaaGreatDoor.Xc Go.Proofs.YtgafnjgiikdofaaGreatDoor.Xd Go.Proofs.YtgafnjgiikdofaaGreatDoor.Xe Go.Proofs.YtgafnjgiikdofaaGreatDoor.Xl Go.Proofs.YtgafnjgiikdofaaGreatDoor.Xr Go.Proofs.YtgafnjgiikdofaaGreatDoor.Fr
theorem rdec_lt {w : World} {N b : Nat} {ys : List Int} {er : Int} (h : RDec w N b ys er) : b < N := by
  obtain ⟨A, c, xs, a, hblk, hc, hC, hne, hys, ha, hbyt, hl, hbN, hAN⟩ := h
  exact hbN
theorem info5' : (Tryz.prog.info? 5).map (fun i => (i.zero, i.size, i.bytes)) = some (some (.int .u8 0), 1, 1) := by kernel_rfl
/-- a decoder of the program's at block b; its blocks are below N -/
def PDec (w : World) (N b : Nat) (xs : List Int) (er : Int) : Prop :=
  ∃ A c, w.heap[b]? = some (.cells #[.slice A xs.length c, .int .i64 er, .bool true] 135 (0, 0)) ∧ xs.length ≤ c ∧ (Kd.int .u8).C w A xs.length xs ∧ (∀ ad, A = some ad → 0 < xs.length → ad.block ≠ b) ∧ Byts xs ∧ xs.length ≤ 4611686018427387904 ∧ b < N ∧ (∀ ad, A = some ad → 0 < xs.length → ad.block < N)
theorem PDec.dec {w : World} {N b : Nat} {xs : List Int} {er : Int} (h : PDec w N b xs er) : Dec w b xs er := by
  obtain ⟨A, c, h1, h2, h3, h4, _⟩ := h
  exact ⟨A, c, h1, h2, h3, h4⟩
theorem pdec_lt {w : World} {N b : Nat} {xs : List Int} {er : Int} (h : PDec w N b xs er) : b < N := by
  obtain ⟨A, c, h1, h2, h3, h4, h5, h6, h7, _⟩ := h
  exact h7
theorem PDec.below {w w' : World} {N b : Nat} {ys : List Int} {er : Int} (h : PDec w N b ys er) (hb : Below N w w') : PDec w' N b ys er := by
  obtain ⟨A, c, hblk, hc, hC, hne, hbyt, hl, hbN, hAN⟩ := h
  refine ⟨A, c, (hb.block b hbN).trans hblk, hc, ?_, hne, hbyt, hl, hbN, hAN⟩
  refine Kd.C_of_reads (d := (0 : Int)) ?_
  obtain ⟨h1, h2, h3⟩ := Kd.reads_of_C (d := (0 : Int)) hC
  refine ⟨h1, h2, fun hp => ?_⟩
  obtain ⟨ad, e, hcell⟩ := h3 hp
  refine ⟨ad, e, fun j hj => ?_⟩
  have hlt : (ad.add j).block < N := by
    have hb : (ad.add j).block = ad.block := by unfold Addr.add; split <;> rfl
    rw [hb]
    exact hAN ad e hp
  exact (hb.cell hlt).trans (hcell j hj)
theorem far_P {A A' : Option Addr} {c s n : Nat} {Q : Nat → Prop} (hA : A' = if c = s then A else A.map fun x => x.add (s * 1)) (hne : ∀ ad, A = some ad → 0 < n → Q ad.block) :
    ∀ ad, A' = some ad → 0 < n - s → Q ad.block := by
  intro ad e h
  rw [hA] at e
  split at e
  · exact hne ad e (by omega)
  · cases A with
    | none => simp at e
    | some a =>
      simp at e
      have := hne a rfl (by omega)
      rw [← e]
      unfold Addr.add
      split <;> exact this
set_option maxHeartbeats 1000000 in
theorem pnumber_any (N b : Nat) (w : World) (xs : List Int) (er : Int) (h : PDec w N b xs er) :
    Calls Tryz.prog 78 #[.pointer (some ⟨b, 0, none⟩)] w fun e w' => e = .returned (.int .i64 (stepD xs er).1) ∧ PDec w' N b (stepD xs er).2.1 (stepD xs er).2.2 ∧ Fr (fun k => k = b) w w' := by
  have HH := Aside0.mk h
  obtain ⟨A, c, hblk, hc, hC, hne, hb, hlx, hbN, hAN⟩ := h
  have HX := Aside0.mk (And.intro hb (And.intro hlx (And.intro hbN hAN)))
  by_cases he : er = 0
  · have HD := Aside0.mk (show stepD xs er = ((dn 8 xs 0 0).1, xs.drop (dn 8 xs 0 0).2.1.toNat, (dn 8 xs 0 0).2.2) from by unfold stepD; rw [if_pos he])
    subst he
    have hdb := dn_bd 8 xs 0 0
    obtain ⟨⟨n, si, e0⟩, hd⟩ : ∃ d, d = dn 8 xs 0 0 := ⟨_, rfl⟩
    rw [← hd] at HD hdb
    obtain ⟨s, hs0⟩ : ∃ s : Nat, si = (s : Int) := ⟨si.toNat, by have := hdb.1; simp only at this; omega⟩
    subst hs0
    have hs : s ≤ xs.length := by have := hdb.2; simp only at this; omega
    have HF := Aside0.mk ((number_is' xs hb).trans (congrArg some hd.symm))
    have c0 := blk_cell hblk 0
    have c1 := blk_cell hblk 1
    have c2 := blk_cell hblk 2
    have f0 := blk_frozen hblk 0
    have f1 := blk_frozen hblk 1
    simp at c0 c1 c2
    have HB := Aside0.mk hblk
    have hn := none_false b w c2
    have HN := Aside0.mk hn
    obtain ⟨i0, hi0, _, hsz, _⟩ := info_parts info5'
    have hcut := cut_from (P := Tryz.prog) 48 5 .i64 Tryz.underlying48 hi0 1 hsz A xs.length c (s : Int) (by omega) (by omega)
    rw [Int.toNat_natCast] at hcut
    obtain ⟨A', hA'⟩ : ∃ A', A' = (if c = s then A else A.map fun x => x.add (s * 1)) := ⟨_, rfl⟩
    rw [← hA'] at hcut
    have hC' := Kd.C_drop (m := s) hC hs hc
    have hA2 : (if c = s then A else A.map fun x => x.add (s * (Kd.int .u8).sz)) = A' := by rw [hA']; rfl
    rw [hA2] at hC'
    have HC' := Aside0.mk hC'
    have HA' := Aside0.mk hA'
    have HCT := Aside0.mk hcut
    have HNE := Aside0.mk hne
    clear hblk hcut hn hd hC' hA2 hA' hb hlx hbN hAN hne hdb
    go_enter Tryz.func78, Tryz.ntmps78
    go_wp2_with fail
    refine HN.out.mono ?_
    rintro e w' ⟨rfl, rfl⟩
    go_wp2_with fail
    refine (codec_number.calls 9 A c xs n s e0 _ hC hc HF.out).mono ?_
    rintro e w' ⟨rfl, ⟨nd, rfl⟩⟩
    have hcut := HCT.out
    go_wp2_with fail
    go_region
    go_wp2
    go_ret
    have fr : Fr (fun k => k = b) w (((w.drewN (nd + 1)).setCell ⟨b, 1, none⟩ (.int .i64 e0)).setCell ⟨b, 0, none⟩ (.slice A' (xs.length - s) (c - s))) :=
      Fr.setCell (S := fun k => k = b) (Fr.setCell (S := fun k => k = b) ((Fr.refl _ w).drewN _) (.inl rfl) _) (.inl rfl) _
    have hl : (xs.drop s).length = xs.length - s := List.length_drop
    have far := far_P (Q := fun k => k ≠ b) HA'.out HNE.out
    have farN := far_P (Q := fun k => k < N) HA'.out HX.out.2.2.2
    rw [HD.out]
    refine ⟨rfl, ?_, fr⟩
    show PDec _ N b (xs.drop ((s : Int).toNat)) e0
    rw [Int.toNat_natCast]
    refine ⟨A', c - s, ?_, by omega, fr.C HC'.out (fun ad e h => far ad e (by omega)), fun ad e h => far ad e (by omega), fun x hx => HX.out.1 x (List.mem_of_mem_drop hx), by have := HX.out.2.1; omega, HX.out.2.2.1, fun ad e h => farN ad e (by omega)⟩
    rw [hl]
    exact blk_put (blk_put (blk_drewN HB.out _) 1 _ rfl) 0 _ rfl
  · have HD := Aside0.mk (show stepD xs er = (0, xs, er) from by unfold stepD; rw [if_neg he])
    have c1 := blk_cell hblk 1
    have c2 := blk_cell hblk 2
    simp at c1 c2
    have HN := Aside0.mk (none_false b w c2)
    have hen : (er != 0) = true := by simpa using he
    have hen2 : (er == 0) = false := by simpa using he
    clear he hblk hC hne hb hlx hbN hAN
    go_enter Tryz.func78, Tryz.ntmps78
    go_wp2_with fail
    refine HN.out.mono ?_
    rintro e w' ⟨rfl, rfl⟩
    go_wp2
    go_ret
    exact ⟨by rw [HD.out]; rfl, by rw [HD.out]; exact HH.out, Fr.refl _ _⟩
theorem pdone_any (N b : Nat) (w : World) (xs : List Int) (er : Int) (h : PDec w N b xs er) : Calls Tryz.prog 80 #[.pointer (some ⟨b, 0, none⟩)] w fun e w' => e = .returned (.int .i64 (doneV xs er)) ∧ w = w' := by
  have HN := Aside0.mk (err_ok b w xs er h.dec)
  obtain ⟨A, c, hblk, hc, hC, hne, hb, hlx, hbN, hAN⟩ := h
  have c0 := blk_cell hblk 0
  simp at c0
  obtain ⟨n, hn⟩ : ∃ n, n = xs.length := ⟨_, rfl⟩
  rw [← hn] at c0
  by_cases he : er = 0
  · by_cases hx : 0 < xs.length
    · have HD : Aside0 (doneV xs er = 21) := ⟨by unfold doneV; rw [if_pos he, if_pos hx]⟩
      have e1 : (er != 0) = false := by simpa using he
      have e2 : (er == 0) = true := by simpa using he
      have h1 : decide (0 < n) = true := decide_eq_true (by omega)
      have h2 : decide ((0 : Int) < (n : Int)) = true := decide_eq_true (by omega)
      have h3 : 0 < n := by omega
      clear hblk hC hne hb hlx hbN hAN hn hx he hc
      go_enter Tryz.func80, Tryz.ntmps80
      go_wp2_with fail
      refine HN.out.mono ?_
      rintro e w' ⟨rfl, rfl⟩
      go_wp2
      go_ret
      exact ⟨by rw [HD.out]; rfl, rfl⟩
    · have HD : Aside0 (doneV xs er = 0) := ⟨by unfold doneV; rw [if_pos he, if_neg hx]⟩
      have e1 : (er != 0) = false := by simpa using he
      have e2 : (er == 0) = true := by simpa using he
      have h1 : decide (0 < n) = false := decide_eq_false (by omega)
      have h2 : decide ((0 : Int) < (n : Int)) = false := decide_eq_false (by omega)
      have h3 : ¬ 0 < n := by omega
      clear hblk hC hne hb hlx hbN hAN hn hx he hc
      go_enter Tryz.func80, Tryz.ntmps80
      go_wp2_with fail
      refine HN.out.mono ?_
      rintro e w' ⟨rfl, rfl⟩
      go_wp2
      go_ret
      exact ⟨by rw [HD.out]; rfl, rfl⟩
  · have HD : Aside0 (doneV xs er = er) := ⟨by unfold doneV; rw [if_neg he]⟩
    have e1 : (er != 0) = true := by simpa using he
    have e2 : (er == 0) = false := by simpa using he
    clear hblk hC hne hb hlx hbN hAN hn he hc
    go_enter Tryz.func80, Tryz.ntmps80
    go_wp2_with fail
    refine HN.out.mono ?_
    rintro e w' ⟨rfl, rfl⟩
    go_wp2
    go_ret
    exact ⟨by rw [HD.out]; rfl, rfl⟩
theorem pnew_any (A : Option Addr) (c : Nat) (xs : List Int) (w : World) (hC : (Kd.int .u8).C w A xs.length xs) (hc : xs.length ≤ c) (hl : xs.length ≤ 140737488351232) (hb : Byts xs) :
    Calls Tryz.prog 77 #[.slice A xs.length c] w fun e w' => ∃ b, e = .returned (.pointer (some ⟨b, 0, none⟩)) ∧ PDec w' w'.heap.size b xs 0 ∧ w.heap.size ≤ b ∧ Below w.heap.size w w' := by
  refine (new_any A c xs w hC hc hl).mono ?_
  rintro e w' ⟨b, rfl, ⟨A1, c1, h1, h2, h3, h4⟩, hge, hbl⟩
  exact ⟨b, rfl, ⟨A1, c1, h1, h2, h3, h4, hb, by omega, blk_lt h1, fun ad e hp => C_lt h3 ad e hp⟩, hge, hbl⟩
end Go.Proofs.YtgafnjgiikdofaaGreatDoor.Cp
