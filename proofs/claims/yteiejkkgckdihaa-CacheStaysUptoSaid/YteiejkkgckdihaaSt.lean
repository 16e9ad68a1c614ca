/- The law CacheStays, walked. -/
import Derived.Test.YteiejkkgckdihaaSy
import Derived.Test.YteiejkkgckdihaaBo
import Derived.BigQuiet
import Derived.Deep.QuietTactic
import Derived.Deep.DeepCutAuto
import Derived.Deep.CutBlock
namespace Go.Proofs.Yteiejkkgckdihaa.St
set_option linter.unusedVariables false
open Go.Proofs.Yteiejkkgckdihaa.Bo Go.Proofs.Yteiejkkgckdihaa.Mv Go.Proofs.Yteiejkkgckdihaa.Sy Go.Proofs.Yteiejkkgckdihaa.Dw Go.RowKit Go.Proofs.YteiejkkgckdihaaW.PrintWords Go.Proofs.YteiejkkgckdihaaW.PrintLast Go.Proofs.YteiejkkgckdihaaW.PrintMore Go.Proofs.Yteiejkkgckdihaa.Fr Go.Proofs.Yteiejkkgckdihaa.Rg Go.Proofs.Yteiejkkgckdihaa.Rk Go.Proofs.Yteiejkkgckdihaa.Mp Go.Proofs.Yteiejkkgckdihaa.Ca Go.Proofs.Yteiejkkgckdihaa.Dr Go.Proofs.Yteiejkkgckdihaa.Cl Go.Proofs.Yteiejkkgckdihaa.Pe Go.Proofs.Yteiejkkgckdihaa.Pk Go.Proofs.Yteiejkkgckdihaa.Pu Go.Proofs.Yteiejkkgckdihaa.Ge Go.Proofs.Yteiejkkgckdihaa.Kn Go.Proofs.Yteiejkkgckdihaa.Cx Go.Proofs.Yteiejkkgckdihaa.Ro

/-- what stands at a round's head -/
structure SS (w wx : World) (cb m r mL mU : Nat) (lv : Int) (k : Nat) (hi mi : Int) (L : List Ent) (la : ByteArray → ByteArray) (us : ByteArray → Int) : Prop where
  cx : CX wx cb m r w.heap.size lv k hi mi L
  be : Below w.heap.size w wx
  ml : Es.M wx mL k la
  mu : Ei.M wx mU k us
  inv : Inv k L la us
  no : ¬ Own cb m r L mL ∧ ¬ Own cb m r L mU
theorem SS.below {w wx w' : World} {cb m r mL mU : Nat} {lv : Int} {k : Nat} {hi mi : Int} {L : List Ent} {la : ByteArray → ByteArray} {us : ByteArray → Int} (h : SS w wx cb m r mL mU lv k hi mi L la us) (hb : Below wx.heap.size wx w') : SS w w' cb m r mL mU lv k hi mi L la us :=
  ⟨h.cx.below hb, below_step h.be hb, h.ml.below hb, h.mu.below hb, h.inv, h.no⟩
theorem SS.mono {w wx : World} {cb m r mL mU : Nat} {lv : Int} {k k' : Nat} {hi mi : Int} {L : List Ent} {la : ByteArray → ByteArray} {us : ByteArray → Int} (h : SS w wx cb m r mL mU lv k hi mi L la us) (hk : k ≤ k') : SS w wx cb m r mL mU lv k' hi mi L la us :=
  ⟨h.cx.mono hk, h.be, h.ml.mono hk, h.mu.mono hk, h.inv.mono (by omega), h.no⟩
theorem cell_cells {w : World} {p : Addr} {v : Value} {mm : Nat} (hc : w.cell? p = some v) (hob : ∃ es cl, w.heap[mm]? = some (.map es cl)) : ¬ p.block = mm := by
  intro hb
  obtain ⟨es, cl, hob⟩ := hob
  have hcc : (w.cell? p).isSome = true := by rw [hc]; rfl
  unfold World.cell? at hcc
  rw [hb, hob] at hcc
  simp at hcc
/-- Ei's map behind a change of Es's, and the other way round -/
theorem turned_below {w w1 w' : World} {B mm : Nat} (hb : Below B w w1) (hB : B ≤ w.heap.size) (hm : B ≤ mm) (ht : w1.mapTurned w' mm) : Below B w w' :=
  fr_below hb hB (turned_fr (S := fun j => j = mm) ht rfl) (fun j hj => by omega)
theorem turned_cell {w w' : World} {mm : Nat} (hob : ∃ es cl, w.heap[mm]? = some (.map es cl)) (ht : w.mapTurned w' mm) {p : Addr} {v : Value} (hc : w.cell? p = some v) : w'.cell? p = some v :=
  (turned_fr (S := fun j => j = mm) ht rfl).cell hc (cell_cells hc hob)
theorem turned_C {w w' : World} {mm : Nat} (hob : ∃ es cl, w.heap[mm]? = some (.map es cl)) (ht : w.mapTurned w' mm) {A : Option Addr} {n : Nat} {xs : List Int} (h : (Kd.int .u8).C w A n xs) : (Kd.int .u8).C w' A n xs := by
  refine (turned_fr (S := fun j => j = mm) ht rfl).C h (fun ad e hp hb => ?_)
  obtain ⟨_, _, h3⟩ := Kd.reads_of_C (d := (0 : Int)) h
  obtain ⟨ad', e', hc⟩ := h3 hp
  rw [e] at e'
  injection e' with e'
  subst e'
  exact cell_cells (hc 0 hp) hob (by rw [← hb]; unfold Addr.add; split <;> rfl)
theorem store_l {w wx : World} {cb m r mL mU n n' kk : Nat} {lv hi mi : Int} {L : List Ent} {la : ByteArray → ByteArray} {us : ByteArray → Int} (hcx : CX wx cb m r w.heap.size lv kk hi mi L) (hbe : Below w.heap.size w wx) (hml : Es.M wx mL n la) (hmu : Ei.M wx mU n' us)
    (hno : ¬ Own cb m r L mL) (hne : mL ≠ mU) (hB : w.heap.size ≤ mL) (s : ByteArray) (hs : s.size ≤ maxLen) (hn : n < maxLen) (x : ByteArray) :
    ∃ w', (Instr.mapUpdate 40 (.map (some mL)) (.string s) (.string x)).run Try.prog wx = .ok () w' ∧ CX w' cb m r w.heap.size lv kk hi mi L ∧ Below w.heap.size w w' ∧ Es.M w' mL (n + 1) (upd la s x) ∧ Ei.M w' mU n' us ∧ (∀ p v, wx.cell? p = some v → w'.cell? p = some v) ∧ (∀ A nn xs, (Kd.int .u8).C wx A nn xs → (Kd.int .u8).C w' A nn xs) := by
  obtain ⟨w', hrun, hM, ht⟩ := hml.store hs hn x
  exact ⟨w', hrun, cx_map hcx hno hml.obj ht, turned_below hbe (Nat.le_refl _) hB ht, hM, hmu.fr (turned_fr (S := fun j => j = mL) ht rfl) (fun e => hne e.symm), fun p v hc => turned_cell hml.obj ht hc, fun A nn xs h => turned_C hml.obj ht h⟩
theorem store_u {w wx : World} {cb m r mL mU n n' kk : Nat} {lv hi mi : Int} {L : List Ent} {la : ByteArray → ByteArray} {us : ByteArray → Int} (hcx : CX wx cb m r w.heap.size lv kk hi mi L) (hbe : Below w.heap.size w wx) (hml : Es.M wx mL n la) (hmu : Ei.M wx mU n' us)
    (hno : ¬ Own cb m r L mU) (hne : mL ≠ mU) (hB : w.heap.size ≤ mU) (s : ByteArray) (hs : s.size ≤ maxLen) (hn : n' < maxLen) (x : Int) :
    ∃ w', (Instr.mapUpdate 41 (.map (some mU)) (.string s) (.int .i64 x)).run Try.prog wx = .ok () w' ∧ CX w' cb m r w.heap.size lv kk hi mi L ∧ Below w.heap.size w w' ∧ Es.M w' mL n la ∧ Ei.M w' mU (n' + 1) (upd us s x) ∧ (∀ p v, wx.cell? p = some v → w'.cell? p = some v) ∧ (∀ A nn xs, (Kd.int .u8).C wx A nn xs → (Kd.int .u8).C w' A nn xs) := by
  obtain ⟨w', hrun, hM, ht⟩ := hmu.store hs hn x
  exact ⟨w', hrun, cx_map hcx hno hmu.obj ht, turned_below hbe (Nat.le_refl _) hB ht, hml.fr (turned_fr (S := fun j => j = mU) ht rfl) hne, hM, fun p v hc => turned_cell hmu.obj ht hc, fun A nn xs h => turned_C hmu.obj ht h⟩
theorem own_put {c m r : Nat} {L : List Ent} {x : Ent} {lim : Int} {sz : Nat} {s : ByteArray} {j : Nat} (h : ¬ Own c m r L j) (hx : j < x.b) : ¬ Own c m r (evict lim sz (but s L) ++ [x]) j := by
  intro hj
  rcases hj with hj | hj | hj | ⟨y, hy, hj⟩
  · exact h (.inl hj)
  · exact h (.inr (.inl hj))
  · exact h (.inr (.inr (.inl hj)))
  · rcases List.mem_append.1 hy with hy | hy
    · exact h (.inr (.inr (.inr ⟨y, (List.mem_filter.1 (evict_sub y hy)).1, hj⟩)))
    · simp at hy
      subst hy
      omega
theorem str_at {w : World} {A : Option Addr} {n c : Nat} {xs : List Int} {s : ByteArray} (h : (Kd.int .u8).C w A xs.length xs) (hn : n = xs.length) (hs : s = strOfNums xs) (q : Nat) : (convert 29 9 (.slice A n c)).run Try.prog (w.drewN q) = .ok (.string s) (w.drewN q) := by
  subst hn hs
  exact str_C (Kd.C_drewN h q)
set_option maxHeartbeats 8000000 in
set_option maxRecDepth 100000 in
theorem walk (lim : Int) (A : Option Addr) (c : Nat) (ops : List (Int × ByteArray × List Int)) (w : World) (hlim : (Lit.int .i64 lim).wf = true) (hC : OpK.C w A ops.length ops) (hc : ops.length ≤ c) (hl : ∀ o ∈ ops, o.2.1.size + o.2.2.length ≤ 1048576) :
    Calls Try.prog 4 #[.int .i64 lim, .slice A ops.length c] w fun e w' => e = .returned (.bool true) ∧ Below w.heap.size w w' := by
  have HC := Aside0.mk hC
  have HLE := Aside0.mk hc
  have HL := Aside0.mk hl
  obtain ⟨n, hn⟩ : ∃ n, n = ops.length := ⟨_, rfl⟩
  rw [← hn]
  have HN := Aside0.mk hn
  clear hC hc hl hn
  have hmm := @run_makeMap Try.prog
  go_enter Try.func4, Try.ntmps4
  obtain ⟨lv, hlv, l1, l2⟩ := lim_is lim
  go_wp2_with fail
  rw [hlv]
  have HL1 := Aside0.mk l1
  have HL2 := Aside0.mk l2
  refine (new_is lv w l1 (by omega)).mono ?_
  rintro e w1 ⟨cb, m, r, rfl, h1, b1, o1⟩
  have hX1 : Aside0 (CX w1 cb m r w.heap.size lv 0 0 0 []) := Aside0.mk ⟨0, h1, by omega, by simp, by omega, by omega, o1⟩
  have B1 := Aside0.mk b1
  have hnm := num_is 0 w1
  have hkn := knows_true w1
  clear h1 b1 o1 l1 l2 hlv
  go_wp2_with fail
  refine hnm.mono ?_
  rintro e w2 ⟨rfl, rfl⟩
  go_wp2_with fail
  refine hkn.mono ?_
  rintro e w3 ⟨rfl, hb⟩
  have X3 := Aside0.mk (hX1.out.below hb)
  have B3 := Aside0.mk (below_step B1.out hb)
  clear hb hkn hnm hX1 B1
  obtain ⟨w4, hw4⟩ : ∃ w4, w4 = w3.alloc (.map #[] 0) := ⟨_, rfl⟩
  obtain ⟨w5, hw5⟩ : ∃ w5, w5 = w4.alloc (.map #[] 0) := ⟨_, rfl⟩
  have b34 : Below w3.heap.size w3 w4 := by rw [hw4]; exact below_alloc (Below.refl _ _) _
  have b45 : Below w4.heap.size w4 w5 := by rw [hw5]; exact below_alloc (Below.refl _ _) _
  have s4 : w4.heap.size = w3.heap.size + 1 := by rw [hw4]; exact World.size_alloc _ _
  have hl4 : Es.M w4 w3.heap.size 0 (fun _ => ByteArray.empty) := by rw [hw4]; exact El.M.made (E := Es) w3
  have hu5 : Ei.M w5 (w3.heap.size + 1) 0 (fun _ => 0) := by rw [hw5, ← s4]; exact El.M.made (E := Ei) w4
  have S0 : Aside0 (SS w w5 cb m r w3.heap.size (w3.heap.size + 1) lv 0 0 0 [] (fun _ => ByteArray.empty) (fun _ => 0)) := by
    refine ⟨(X3.out.below b34).below b45, below_step (below_step B3.out b34) b45, hl4.below b45, hu5, Inv.start _, fun h => ?_, fun h => ?_⟩
    · have := X3.out.own_lt h; omega
    · have := X3.out.own_lt h; omega
  have HB0 : Aside0 (w.heap.size ≤ w3.heap.size) := ⟨B3.out.size⟩
  clear b34 b45 hl4 hu5 s4
  go_upto_region 7 with fail
  rw [← hw4, ← hw5]
  obtain ⟨mL, hmL⟩ : ∃ mL, mL = w3.heap.size := ⟨_, rfl⟩
  obtain ⟨mU, hmU⟩ : ∃ mU, mU = mL + 1 := ⟨_, rfl⟩
  rw [← hmL, ← hmU] at S0
  rw [← hmL] at HB0 ⊢
  rw [← hmU]
  have HNE : Aside0 (mL ≠ mU) := ⟨by omega⟩
  have HBU : Aside0 (w.heap.size ≤ mU) := ⟨by have := HB0.out; omega⟩
  clear hmm hmU hmL hw4 hw5 X3 B3
  go_wp2
  go_loopg [9] (301) (fun g s9 wx => ∃ (k : Nat) (hi mi : Int) (L : List Ent) (la : ByteArray → ByteArray) (us : ByteArray → Int), s9 = .int .i64 (k : Int) ∧ Aside0 (k + g = 301 ∧ k ≤ 300) ∧ Aside0 (SS w wx cb m r mL mU lv k hi mi L la us))
  case atStart => exact ⟨0, 0, 0, [], _, _, rfl, ⟨by omega, by omega⟩, S0⟩
  case round =>
    obtain ⟨k, hi, mi, L, la, us, rfl, HK, HS⟩ := hrel
    clear S0
    have hk300 : k ≤ 300 := HK.out.2
    by_cases hgo : (k : Int) < n ∧ (k : Int) < 300
    · obtain ⟨g1, g2⟩ := hgo
      have hkl : k < ops.length := by have := HN.out; omega
      obtain ⟨kd, sk, vs, Av, cv, ad, hA, hop, a0', a1', a2', hcv, hCv⟩ := op_at HC.out k hkl
      have hbe := HS.out.be
      have a0 : wr.cell? (ad.add (k * 3)) = some (.int .i64 kd) := (hbe.cell (World.block_lt_of_cell? _ _ a0')).trans a0'
      have a1 : wr.cell? ⟨(ad.add (k * 3)).block, (ad.add (k * 3)).off + 1, none⟩ = some (.string sk) := (hbe.cell (p := ⟨(ad.add (k * 3)).block, (ad.add (k * 3)).off + 1, none⟩) (World.block_lt_of_cell? _ _ a1')).trans a1'
      have a2 : wr.cell? ⟨(ad.add (k * 3)).block, (ad.add (k * 3)).off + 2, none⟩ = some (.slice Av vs.length cv) := (hbe.cell (p := ⟨(ad.add (k * 3)).block, (ad.add (k * 3)).off + 2, none⟩) (World.block_lt_of_cell? _ _ a2')).trans a2'
      have HSZ := Aside0.mk (HL.out _ hop)
      have HCV := Aside0.mk hCv
      have HCC := Aside0.mk hcv
      have hsk : sk.size ≤ maxLen := by have := HSZ.out; simp only [maxLen] at this ⊢; omega
      have HSK := Aside0.mk hsk
      clear hop hCv hcv hkl a0' a1' a2' hbe hsk
      subst hA
      obtain ⟨nv, hnv⟩ : ∃ nv, nv = vs.length := ⟨_, rfl⟩
      rw [← hnv] at a2
      have HNV := Aside0.mk hnv
      clear hnv
      go_upto_block 2 with fail
      obtain ⟨W1, hW1⟩ : ∃ W1, W1 = wr.alloc (.cells #[.int .i64 kd, .string sk, .slice Av nv cv] 31) := ⟨_, rfl⟩
      rw [← hW1]
      have b0 : W1.cell? ⟨wr.heap.size, 0, none⟩ = some (.int .i64 kd) := by rw [hW1]; go_simp
      have b1 : W1.cell? ⟨wr.heap.size, 1, none⟩ = some (.string sk) := by rw [hW1]; go_simp
      have b2 : W1.cell? ⟨wr.heap.size, 2, none⟩ = some (.slice Av nv cv) := by rw [hW1]; go_simp
      have BB : Below wr.heap.size wr W1 := by rw [hW1]; exact below_alloc (Below.refl _ _) _
      have HS1 : Aside0 (SS w W1 cb m r mL mU lv k hi mi L la us) := ⟨HS.out.below BB⟩
      have HO : Aside0 (¬ Own cb m r L wr.heap.size) := ⟨fun h => by have := HS.out.cx.own_lt h; omega⟩
      obtain ⟨bx, hbx⟩ : ∃ bx, bx = wr.heap.size := ⟨_, rfl⟩
      rw [← hbx] at b0 b1 b2 HO ⊢
      clear BB hbx hW1 a0 a1 a2 HS
      have HWS : Aside0 (w.heap.size ≤ W1.heap.size) := ⟨HS1.out.be.size⟩
      go_cut [] (fun wx => ∃ (hi' mi' : Int) (L' : List Ent) (la' : ByteArray → ByteArray) (us' : ByteArray → Int), Aside0 (SS w wx cb m r mL mU lv (k + 1) hi' mi' L' la' us'))
      case first =>
        by_cases h0 : kd = 0
        · subst h0
          have hs1 : sk.size + vs.length ≤ 9223372036854775807 := by have := HSZ.out; simp only at this; omega
          have hput := HS1.out.cx.put (by omega) HWS.out sk Av cv vs hs1 (Kd.C_below HCV.out HS1.out.be) HCC.out (by have := HSZ.out; simp only at this; omega)
          rw [← HNV.out] at hput
          clear hs1
          go_wp2_with fail
          refine hput.mono ?_
          rintro e w4 h
          rcases h with ⟨rfl, hbig, hx4, hb4⟩ | ⟨rfl, hfit, x, kx, vx, gx, hx4, hf4⟩
          · have HS4 := Aside0.mk (HS1.out.below hb4)
            have hnm := num_is 6 w4
            clear hput b0 b1 b2 hx4 hb4 hbig
            go_wp2_with fail
            refine hnm.mono ?_
            rintro e w5 ⟨rfl, rfl⟩
            clear hnm
            go_wp2
            go_meet
            exact ⟨hi, mi, L, la, us, ⟨HS4.out.mono (by omega)⟩⟩
          · subst kx vx
            have hlt1 := HS1.out.ml.lt
            have hlt2 := HS1.out.mu.lt
            have hno1 := own_put (lim := lv) (sz := x.key.size + nv) (s := x.key) HS1.out.no.1 (show mL < x.b by omega)
            have hno2 := own_put (lim := lv) (sz := x.key.size + nv) (s := x.key) HS1.out.no.2 (show mU < x.b by omega)
            have be4 := fr_below HS1.out.be (Nat.le_refl _) hf4 (cx_base HS1.out.cx)
            have hml4 := HS1.out.ml.fr hf4 HS1.out.no.1
            have hmu4 := HS1.out.mu.fr hf4 HS1.out.no.2
            have c1 : w4.cell? ⟨bx, 1, none⟩ = some (.string x.key) := hf4.cell b1 HO.out
            have c2 : w4.cell? ⟨bx, 2, none⟩ = some (.slice Av nv cv) := hf4.cell b2 HO.out
            have hst := str_C (c := cv) (Kd.C_below HCV.out be4)
            rw [← HNV.out] at hst
            obtain ⟨sv, hsv⟩ : ∃ sv, sv = strOfNums x.val := ⟨_, rfl⟩
            rw [← hsv] at hst
            obtain ⟨w5, hrun5, cx5, be5, ml5, mu5, ce5, _⟩ := store_l hx4 be4 hml4 hmu4 hno1 HNE.out HB0.out x.key HSK.out (by simp only [maxLen]; omega) sv
            obtain ⟨w6, hrun6, cx6, be6, ml6, mu6, ce6, _⟩ := store_u cx5 be5 ml5 mu5 hno2 HNE.out HBU.out x.key HSK.out (by simp only [maxLen]; omega) ((k : Int) + 1)
            have d1 := ce5 _ _ c1
            have hin := HS1.out.inv.put (by omega) lv (x.key.size + nv) x
            rw [← hsv] at hin
            have HS6 : Aside0 (SS w w6 cb m r mL mU lv (k + 1) hi mi (evict lv (x.key.size + nv) (but x.key L) ++ [x]) (upd la x.key sv) (upd us x.key ((k : Int) + 1))) := ⟨⟨cx6, be6, ml6, mu6, by exact_mod_cast hin, hno1, hno2⟩⟩
            have hnm := num_is 0 w4
            clear hput b0 b1 b2 hfit gx hx4 hf4 hlt1 hlt2 hno1 hno2 be4 hml4 hmu4 hsv cx5 be5 ml5 mu5 ce5 cx6 be6 ml6 mu6 ce6 hin
            go_wp2_with fail
            refine hnm.mono ?_
            rintro e w4' ⟨rfl, rfl⟩
            clear hnm
            go_wp2
            go_meet
            exact ⟨hi, mi, _, _, _, HS6⟩
        · by_cases h1 : kd = 1
          · subst h1
            have hget := HS1.out.cx.get (by omega) sk HSK.out
            clear b0 b2
            go_wp2_with fail
            refine hget.mono ?_
            rintro e w4 h
            rcases h with ⟨hl4, rfl, hx4, hf4⟩ | ⟨X, n4, Y, v4, hL4, hk4, rfl, hR, hx4, hf4⟩
            · have HS4 : Aside0 (SS w w4 cb m r mL mU lv (k + 1) hi (mi + 1) L la us) := ⟨⟨hx4, fr_below HS1.out.be (Nat.le_refl _) hf4 (cx_base HS1.out.cx), (HS1.out.ml.fr hf4 HS1.out.no.1).mono (by omega), (HS1.out.mu.fr hf4 HS1.out.no.2).mono (by omega), HS1.out.inv.mono (by omega), HS1.out.no⟩⟩
              clear hget hl4 hx4 hf4
              go_wp2
              go_meet
              exact ⟨_, _, _, _, _, HS4⟩
            · subst hk4
              have be4 := fr_below HS1.out.be (Nat.le_refl _) hf4 (cx_base HS1.out.cx)
              have hml4 := HS1.out.ml.fr hf4 HS1.out.no.1
              have hmu4 := HS1.out.mu.fr hf4 HS1.out.no.2
              have hno := HS1.out.no
              have hown : ∀ j, Own cb m r (X ++ Y ++ [n4]) j → Own cb m r L j := fun j hj => by rw [hL4]; exact Tu.own_turn hj
              have c1 : w4.cell? ⟨bx, 1, none⟩ = some (.string n4.key) := hf4.cell b1 HO.out
              obtain ⟨A4, c4, rfl, hc4, hC4⟩ := Kd.R_reads hR
              obtain ⟨w5, hrun5, cx5, be5, ml5, mu5, ce5, Ce5⟩ := store_u hx4 be4 hml4 hmu4 (fun h => hno.2 (hown _ h)) HNE.out HBU.out n4.key HSK.out (by simp only [maxLen]; omega) ((k : Int) + 1)
              have d1 := ce5 _ _ c1
              have hst := str_C (c := c4) (Ce5 _ _ _ hC4)
              have hlk := ml5.look (k := n4.key) HSK.out
              have hval : la n4.key = strOfNums n4.val := HS1.out.inv.val n4 (by rw [hL4]; simp)
              obtain ⟨sv, hsv⟩ : ∃ sv, sv = strOfNums n4.val := ⟨_, rfl⟩
              rw [hval, ← hsv] at hlk
              rw [← hsv] at hst
              have hin := HS1.out.inv
              have hap := HS1.out.cx.apart
              rw [hL4] at hin hap
              have hin2 := hin.get hap (by omega)
              have HS5 : Aside0 (SS w w5 cb m r mL mU lv (k + 1) (hi + 1) mi (X ++ Y ++ [n4]) la (upd us n4.key ((k : Int) + 1))) := ⟨⟨cx5, be5, ml5.mono (by omega), mu5, by exact_mod_cast hin2, fun h => hno.1 (hown _ h), fun h => hno.2 (hown _ h)⟩⟩
              have hlk' : (Instr.lookup 40 (.map (some mL)) (.string n4.key) false).run Try.prog w5 = .ok (.string sv) w5 := hlk
              obtain ⟨n4l, hn4l⟩ : ∃ n4l, n4l = n4.val.length := ⟨_, rfl⟩
              rw [← hn4l] at hst ⊢
              clear hget hL4 hR hx4 hf4 be4 hml4 hmu4 hno hown hc4 hC4 cx5 be5 ml5 mu5 ce5 Ce5 hlk hval hsv hin hap hin2 hn4l
              go_wp2
              go_meet
              exact ⟨_, _, _, _, _, HS5⟩
          · by_cases h3 : kd = 3
            · subst h3
              have hdr := HS1.out.cx.drop sk HSK.out
              clear b0 b2
              go_wp2_with fail
              refine hdr.mono ?_
              rintro e w4 ⟨rfl, hx4, hf4⟩
              have be4 := fr_below HS1.out.be (Nat.le_refl _) hf4 (cx_base HS1.out.cx)
              have hml4 := HS1.out.ml.fr hf4 HS1.out.no.1
              have hmu4 := HS1.out.mu.fr hf4 HS1.out.no.2
              have hno := HS1.out.no
              have c1 : w4.cell? ⟨bx, 1, none⟩ = some (.string sk) := hf4.cell b1 HO.out
              obtain ⟨w5, hrun5, cx5, be5, ml5, mu5, _, _⟩ := store_u hx4 be4 hml4 hmu4 (fun h => hno.2 (own_but h)) HNE.out HBU.out sk HSK.out (by simp only [maxLen]; omega) 0
              have hin := HS1.out.inv.drop (by omega) sk
              have HS5 : Aside0 (SS w w5 cb m r mL mU lv (k + 1) hi mi (but sk L) la (upd us sk 0)) := ⟨⟨cx5.mono (by omega), be5, ml5.mono (by omega), mu5, by exact_mod_cast hin, fun h => hno.1 (own_but h), fun h => hno.2 (own_but h)⟩⟩
              clear hdr hx4 hf4 be4 hml4 hmu4 hno b1 cx5 be5 ml5 mu5 hin
              go_wp2
              go_meet
              exact ⟨_, _, _, _, _, HS5⟩
            · have q0 : (kd == 0) = false := by simpa using h0
              have q1 : (kd == 1) = false := by simpa using h1
              have q3 : (kd == 3) = false := by simpa using h3
              clear h0 h1 h3 b0 b1 b2
              go_wp2
              go_meet
              exact ⟨_, _, _, _, _, ⟨HS1.out.mono (by omega)⟩⟩
      case rest =>
        obtain ⟨hi', mi', L', la', us', HS2⟩ := hcut
        clear b0 b1 b2 HS1 HO HWS
        have hks := HS2.out.cx.keys (by omega)
        go_wp2_with fail
        refine hks.mono ?_
        rintro e w5 ⟨vk, rfl, hR, hb5⟩
        obtain ⟨Ak, ck, rfl, hck, hCk⟩ := Kd.R_reads hR
        have HS5 := Aside0.mk (HS2.out.below hb5)
        have HCK := Aside0.mk hCk
        obtain ⟨nk, hnk⟩ : ∃ nk, nk = (keysOf L').length := ⟨_, rfl⟩
        rw [← hnk] at hck ⊢
        have HNK := Aside0.mk hnk
        have HCC2 := Aside0.mk hck
        have hLK : nk ≤ 1000000 := by
          obtain ⟨_, _, _, h2, _⟩ := HS5.out.cx
          rw [hnk]
          simp only [keysOf, List.length_map]
          omega
        have HLK := Aside0.mk hLK
        clear hks hR hb5 hCk hnk hck hLK
        obtain ⟨ga, rfl⟩ : ∃ ga, ga = gk := ⟨_, rfl⟩
        obtain ⟨wo, rfl⟩ : ∃ wo, wo = wr := ⟨_, rfl⟩
        go_wp2
        go_loopg [14, 15] nk (fun g s14 s15 wx => ∃ (j : Nat) (old : Int), s15 = .int .i64 (j : Int) ∧ s14 = .int .i64 old ∧ Aside0 (j + g = nk) ∧ Aside0 (0 ≤ old ∧ old ≤ 1000000) ∧ Aside0 (∀ h : j < L'.length, old < us' L'[j].key) ∧ Aside0 (SS w wx cb m r mL mU lv (k + 1) hi' mi' L' la' us') ∧ Aside0 (Below w5.heap.size w5 wx))
        case atStart => exact ⟨0, 0, rfl, rfl, ⟨by omega⟩, ⟨by omega, by omega⟩, ⟨fun h => HS5.out.inv.pos _ (List.getElem_mem h)⟩, HS5, ⟨Below.refl _ _⟩⟩
        case round =>
          obtain ⟨j, old, rfl, rfl, HJ, HOL, HAS, HSr, HBr⟩ := hrel
          have hjn : j ≤ nk := by have := HJ.out; omega
          have hmx : nk ≤ 1000000 := HLK.out
          by_cases hlt : (j : Int) < nk
          · have hlL : j < L'.length := by
              have h2 := HNK.out
              simp only [keysOf, List.length_map] at h2
              omega
            have hsp : L' = L'.take j ++ L'[j] :: L'.drop (j + 1) := by
              rw [← List.drop_eq_getElem_cons hlL, List.take_append_drop]
            have hpk : Calls Try.prog 11 #[PT cb, .string L'[j].key] wr fun e w' => ∃ v, e = .returned (.tuple #[v, .bool true]) ∧ Kd.R (Kd.int .u8) 5 w' wr.heap.size (fun _ => True) v L'[j].val ∧ Below wr.heap.size wr w' := by
              have hx := HSr.out.cx
              rw [hsp] at hx
              exact peek_at hx
            obtain ⟨ak, hAk, hck⟩ := key_at HCK.out j (by have h2 := HNK.out; omega)
            have hkj : (keysOf L')[j]'(by have h2 := HNK.out; omega) = L'[j].key := by simp [keysOf]
            rw [hkj] at hck
            have hval := HSr.out.inv.val _ (List.getElem_mem hlL)
            have hold := HAS.out hlL
            have hpos := HSr.out.inv.pos _ (List.getElem_mem hlL)
            have htop := HSr.out.inv.top L'[j].key
            have hnext : ∀ h : j + 1 < L'.length, us' L'[j].key < us' L'[j + 1].key := fun h => List.pairwise_iff_getElem.1 HSr.out.inv.asc j (j + 1) hlL h (by omega)
            have hksz : L'[j].key.size ≤ maxLen := by
              have h1 := HSr.out.cx.low
              have h2 := HL2.out
              have h3 := used_take hlL
              have h4 := used_take_le (L := L') (j + 1)
              simp only [maxLen]
              omega
            obtain ⟨kj, hkj2⟩ : ∃ kj, kj = L'[j].key := ⟨_, rfl⟩
            obtain ⟨vj, hvj⟩ : ∃ vj, vj = L'[j].val := ⟨_, rfl⟩
            rw [← hkj2] at hpk hck hval hold hpos htop hnext hksz
            rw [← hvj] at hpk hval
            obtain ⟨uj, huj⟩ : ∃ uj, uj = us' kj := ⟨_, rfl⟩
            rw [← huj] at hold hpos htop hnext
            have c1 : wr.cell? (ak.add j) = some (.string kj) := (HBr.out.cell (World.block_lt_of_cell? _ _ hck)).trans hck
            have HVAL := Aside0.mk hval
            have HNX := Aside0.mk hnext
            have HUJ := Aside0.mk huj
            have HKZ := Aside0.mk hksz
            subst hAk
            clear hkj hkj2 hvj hsp hlL hval hnext huj hksz
            go_wp2_with fail
            refine hpk.mono ?_
            rintro e w7 ⟨v7, rfl, hR7, hb7⟩
            obtain ⟨A7, c7, rfl, hc7, hC7⟩ := Kd.R_reads hR7
            have e1 : w7.cell? (ak.add j) = some (.string kj) := (hb7.cell (World.block_lt_of_cell? _ _ c1)).trans c1
            have HS7 := Aside0.mk (HSr.out.below hb7)
            have HB7 := Aside0.mk (below_then HBr.out HBr.out.size hb7)
            obtain ⟨n7, hn7⟩ : ∃ n7, n7 = vj.length := ⟨_, rfl⟩
            have hst0 := str_C (c := c7) hC7
            have hlk0 := HS7.out.ml.look HKZ.out
            have hui0 := HS7.out.mu.look HKZ.out
            rw [← hn7] at hst0 ⊢
            rw [HVAL.out] at hlk0
            rw [← HUJ.out] at hui0
            obtain ⟨sv, hsv⟩ : ∃ sv, sv = strOfNums vj := ⟨_, rfl⟩
            rw [← hsv] at hst0 hlk0
            have q1 : ∀ q, (w7.drewN q).cell? (ak.add j) = some (.string kj) := fun q => e1
            have q2 : ∀ q, (convert 29 9 (.slice A7 n7 c7)).run Try.prog (w7.drewN q) = .ok (.string sv) (w7.drewN q) := fun q => str_at hC7 hn7 hsv q
            have q3 : ∀ q, (Instr.lookup 40 (.map (some mL)) (.string kj) false).run Try.prog (w7.drewN q) = .ok (.string sv) (w7.drewN q) := fun q => by
              have h := (show Es.M (w7.drewN q) mL (k + 1) la' from HS7.out.ml).look HKZ.out
              rw [HVAL.out, ← hsv] at h
              exact h
            have q4 : ∀ q, (Instr.lookup 41 (.map (some mU)) (.string kj) false).run Try.prog (w7.drewN q) = .ok (.int .i64 uj) (w7.drewN q) := fun q => by
              have h := (show Ei.M (w7.drewN q) mU (k + 1) us' from HS7.out.mu).look HKZ.out
              rw [← HUJ.out] at h
              exact h
            have d1 : decide (uj ≤ old) = false := decide_eq_false (by omega)
            have hu1 : 1 ≤ uj := by omega
            have hu2 : uj ≤ 1000000 := by omega
            clear hpk c1 hck hR7 hb7 hC7 hc7 hn7 hst0 hlk0 hui0 hsv hold hpos htop e1
            have HQ1 := Aside0.mk (q1)
            by_cases hj0 : j = 0
            · have z0 : ((j : Int) == 0) = true := by simp [hj0]
              have HJ0 := Aside0.mk hj0
              clear hj0
              go_wp2_with fail
              go_quiet (fail)
              go_wp2_with fail
              go_roundg (gk - 1)
              case measure => have := HJ.out; omega
              case rel => exact ⟨j + 1, uj, by go_num, rfl, ⟨by have := HJ.out; omega⟩, ⟨by omega, by omega⟩, HNX, ⟨HS7.out.below (pw_below_drewN (Below.refl _ _) _)⟩, ⟨pw_below_drewN HB7.out _⟩⟩
            · have z0 : ((j : Int) == 0) = false := by simp; omega
              clear hj0
              go_wp2_with fail
              go_quiet (fail)
              go_wp2_with fail
              go_roundg (gk - 1)
              case measure => have := HJ.out; omega
              case rel => exact ⟨j + 1, uj, by go_num, rfl, ⟨by have := HJ.out; omega⟩, ⟨by omega, by omega⟩, HNX, ⟨HS7.out.below (pw_below_drewN (Below.refl _ _) _)⟩, ⟨pw_below_drewN HB7.out _⟩⟩
          · have hjk : j = nk := by omega
            clear hjn
            obtain ⟨gb, rfl⟩ : ∃ gb, gb = gk := ⟨_, rfl⟩
            obtain ⟨wp, rfl⟩ : ∃ wp, wp = wr := ⟨_, rfl⟩
            have HJK := Aside0.mk hjk
            clear hjk
            go_wp2
            go_loopg [18] (k + 1) (fun g s18 wx => ∃ p : Nat, s18 = .int .i64 (p : Int) ∧ Aside0 (p + g = k + 1) ∧ Aside0 (SS w wx cb m r mL mU lv (k + 1) hi' mi' L' la' us') ∧ Aside0 (Below w5.heap.size w5 wx))
            case atStart => exact ⟨0, rfl, ⟨by omega⟩, HSr, HBr⟩
            case round =>
              obtain ⟨p, rfl, HP, HSq, HBq⟩ := hrel
              by_cases hgo : (p : Int) ≤ k ∧ (0 : Int) < nk
              · obtain ⟨p1, p2⟩ := hgo
                have hpl : p < ops.length := by have := HN.out; omega
                obtain ⟨kd', sp, vs', Av', cv', ad', hA, hop, b0, b1', b2, _, _⟩ := op_at HC.out p hpl
                injection hA with hA
                subst hA
                have b1 : wr.cell? ⟨(ad.add (p * 3)).block, (ad.add (p * 3)).off + 1, none⟩ = some (.string sp) := (HSq.out.be.cell (p := ⟨(ad.add (p * 3)).block, (ad.add (p * 3)).off + 1, none⟩) (World.block_lt_of_cell? _ _ b1')).trans b1'
                have hsz := HL.out _ hop
                have hsp : sp.size ≤ maxLen := by simp only [maxLen] at hsz ⊢; omega
                have HSP := Aside0.mk hsp
                have hpk := HSq.out.cx.peek sp hsp
                obtain ⟨ok, hok⟩ : ∃ ok, ok = (lookE L' sp).isSome := ⟨_, rfl⟩
                rw [← hok] at hpk
                have HOK := Aside0.mk hok
                have p4 : (p : Int) < n := by have := HN.out; omega
                clear hop b0 b1' b2 hsz hsp hok hpl
                go_wp2_with fail
                refine hpk.mono ?_
                rintro e w7 ⟨v7, xs7, rfl, hR7, hb7, _⟩
                have HS7 := Aside0.mk (HSq.out.below hb7)
                have HB7 := Aside0.mk (below_then HBq.out HBq.out.size hb7)
                have e1 : ∀ q, (w7.drewN q).cell? ⟨(ad.add (p * 3)).block, (ad.add (p * 3)).off + 1, none⟩ = some (.string sp) := fun q => (hb7.cell (p := ⟨(ad.add (p * 3)).block, (ad.add (p * 3)).off + 1, none⟩) (World.block_lt_of_cell? _ _ b1)).trans b1
                clear hpk hR7 hb7 b1
                cases ok with
                | true =>
                  clear e1
                  go_wp2_with fail
                  go_quiet (fail)
                  go_wp2_with fail
                  go_roundg (gk - 1)
                  case measure => have := HP.out; omega
                  case rel => exact ⟨p + 1, by go_num, ⟨by have := HP.out; omega⟩, ⟨HS7.out.below (pw_below_drewN (Below.refl _ _) _)⟩, ⟨pw_below_drewN HB7.out _⟩⟩
                | false =>
                  have h0L : 0 < L'.length := by
                    have h2 := HNK.out
                    simp only [keysOf, List.length_map] at h2
                    omega
                  obtain ⟨ak, hAk, hck⟩ := key_at HCK.out 0 (by have h2 := HNK.out; omega)
                  have hkj : (keysOf L')[0]'(by have h2 := HNK.out; omega) = L'[0].key := by simp [keysOf]
                  rw [hkj] at hck
                  have hord := HS7.out.inv.out sp (look_no HOK.out.symm) _ (List.getElem_mem h0L)
                  have hksz : L'[0].key.size ≤ maxLen := by
                    have h1 := HS7.out.cx.low
                    have h2 := HL2.out
                    have h3 := used_take h0L
                    have h4 := used_take_le (L := L') (0 + 1)
                    simp only [maxLen]
                    omega
                  obtain ⟨k0, hk0⟩ : ∃ k0, k0 = L'[0].key := ⟨_, rfl⟩
                  rw [← hk0] at hck hord hksz
                  have hak : ak.add 0 = ak := Addr.add_zero' ak
                  have e2 : ∀ q, (w7.drewN q).cell? ak = some (.string k0) := fun q => by rw [← hak]; exact (HB7.out.cell (p := ak.add 0) (World.block_lt_of_cell? _ _ hck)).trans hck
                  obtain ⟨u0, hu0⟩ : ∃ u0, u0 = us' k0 := ⟨_, rfl⟩
                  obtain ⟨up, hup⟩ : ∃ up, up = us' sp := ⟨_, rfl⟩
                  rw [← hu0, ← hup] at hord
                  have HU0 := Aside0.mk hu0
                  have HUP := Aside0.mk hup
                  have HKZ := Aside0.mk hksz
                  have q3 : ∀ q, (Instr.lookup 41 (.map (some mU)) (.string k0) false).run Try.prog (w7.drewN q) = .ok (.int .i64 u0) (w7.drewN q) := fun q => by
                    have h := (show Ei.M (w7.drewN q) mU (k + 1) us' from HS7.out.mu).look HKZ.out
                    rw [← HU0.out] at h
                    exact h
                  have q4 : ∀ q, (Instr.lookup 41 (.map (some mU)) (.string sp) false).run Try.prog (w7.drewN q) = .ok (.int .i64 up) (w7.drewN q) := fun q => by
                    have h := (show Ei.M (w7.drewN q) mU (k + 1) us' from HS7.out.mu).look HSP.out
                    rw [← HUP.out] at h
                    exact h
                  have d1 : decide (u0 < up) = false := decide_eq_false (by omega)
                  subst hAk
                  have p3 : 0 < nk := by omega
                  clear hak h0L hkj hck hksz hk0 hu0 hup
                  go_wp2_with fail
                  go_quiet (fail)
                  go_wp2_with fail
                  go_roundg (gk - 1)
                  case measure => have := HP.out; omega
                  case rel => exact ⟨p + 1, by go_num, ⟨by have := HP.out; omega⟩, ⟨HS7.out.below (pw_below_drewN (Below.refl _ _) _)⟩, ⟨pw_below_drewN HB7.out _⟩⟩
              · by_cases h1 : (p : Int) ≤ k
                · have h2 : ¬ (0 : Int) < nk := fun h => hgo ⟨h1, h⟩
                  have h3 : nk = 0 := by omega
                  clear hgo
                  go_wp2
                  go_roundg (ga - 1)
                  case measure => have := HK.out; omega
                  case rel => exact ⟨k + 1, hi', mi', L', la', us', by go_num, ⟨by have := HK.out; omega, by have := HK.out; omega⟩, HSq⟩
                · clear hgo
                  go_wp2
                  go_roundg (ga - 1)
                  case measure => have := HK.out; omega
                  case rel => exact ⟨k + 1, hi', mi', L', la', us', by go_num, ⟨by have := HK.out; omega, by have := HK.out; omega⟩, HSq⟩
    · have hstop : (decide ((k : Int) < n) && decide ((k : Int) < 300)) = false := by
        by_cases h1 : (k : Int) < n
        · have h2 : ¬ (k : Int) < 300 := fun h => hgo ⟨h1, h⟩
          simp [h2]
        · simp [h1]
      by_cases h1 : (k : Int) < n
      · have h2 : ¬ (k : Int) < 300 := fun h => hgo ⟨h1, h⟩
        clear hstop hgo
        go_wp2
        go_ret
        exact ⟨rfl, HS.out.be⟩
      · clear hstop hgo
        go_wp2
        go_ret
        exact ⟨rfl, HS.out.be⟩
end Go.Proofs.Yteiejkkgckdihaa.St
