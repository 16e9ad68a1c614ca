/- The reference's cache as it lies in memory; find, Used, Keys, Peek. -/
import Derived.Test.YteiejkkgckdihaaMv
import Derived.Test.YteiejkkgckdihaaBo
import Derived.BigQuiet
import Derived.Deep.QuietTactic
namespace Go.Proofs.Yteiejkkgckdihaa.Rc
set_option linter.unusedVariables false
open Go.Proofs.Yteiejkkgckdihaa.Dw Go.RowKit Go.Proofs.YteiejkkgckdihaaW.PrintWords Go.Proofs.YteiejkkgckdihaaW.PrintLast Go.Proofs.YteiejkkgckdihaaW.PrintMore Go.Proofs.Yteiejkkgckdihaa.Fr Go.Proofs.Yteiejkkgckdihaa.Rg Go.Proofs.Yteiejkkgckdihaa.Mp Go.Proofs.Yteiejkkgckdihaa.Ca Go.Proofs.Yteiejkkgckdihaa.Dr Go.Proofs.Yteiejkkgckdihaa.Pk Go.Proofs.Yteiejkkgckdihaa.Pu Go.Proofs.Yteiejkkgckdihaa.Ge Go.Proofs.Yteiejkkgckdihaa.Kn Go.Proofs.Yteiejkkgckdihaa.Cx Go.Proofs.Yteiejkkgckdihaa.Bo Go.Proofs.Yteiejkkgckdihaa.Mv
abbrev Hd := Option Addr × Nat × Nat
def encH : Hd → Value := fun h => .slice h.1 h.2.1 h.2.2
/-- an item: its key, its value's slice -/
def KI : Kd (ByteArray × Hd) := Kd.pair Kd.string (Kd.scalar encH (fun _ => rfl))
def hdr (x : Ent) : ByteArray × Hd := (x.key, (x.A, x.val.length, x.c))
structure RL (w : World) (q B : Nat) (lim hi mi : Int) (S : Value) (M : List Ent) : Prop where
  blk : w.heap[q]? = some (.cells #[.int .i64 lim, .int .i64 hi, .int .i64 mi, S] 66 (0, 0))
  low : B ≤ q
  row : KI.Q 70 w B (fun _ => True) S (M.map hdr)
  val : ∀ x ∈ M, (Kd.int .u8).C w x.A x.val.length x.val ∧ x.val.length ≤ x.c
  far : ∀ x ∈ M, ∀ ad, x.A = some ad → 0 < x.val.length → B ≤ ad.block ∧ ∃ cs fz, w.heap[ad.block]? = some (.cells cs 5 fz)
theorem item_at {w : World} {q B : Nat} {lim hi mi : Int} {A : Option Addr} {n cap : Nat} {M : List Ent} (h : RL w q B lim hi mi (.slice A n cap) M) (i : Nat) (hi' : i < M.length) :
    ∃ ad, A = some ad ∧ w.cell? (ad.add (i * 2)) = some (.string M[i].key) ∧ w.cell? ⟨(ad.add (i * 2)).block, (ad.add (i * 2)).off + 1, none⟩ = some (.slice M[i].A M[i].val.length M[i].c) := by
  obtain ⟨hn, hl, hC⟩ := Kd.Q_reads' h.row
  simp only [List.length_map] at hn hC
  obtain ⟨ad, e, hc⟩ := hC.2.2 (by omega)
  refine ⟨ad, e, ?_⟩
  obtain ⟨c, hs, hr, hcell⟩ := hc i (hdr M[i]) (by simp [List.getElem?_eq_getElem hi'])
  obtain ⟨c0, c1, rfl, e0, e1⟩ := hr
  have e0' : c0 = [.string M[i].key] := e0
  have e1' : c1 = [.slice M[i].A M[i].val.length M[i].c] := e1
  subst e0' e1'
  refine ⟨hcell 0 _ rfl, ?_⟩
  have h1 := hcell 1 _ rfl
  rw [show ad.add (i * KI.sz + 1) = ⟨(ad.add (i * 2)).block, (ad.add (i * 2)).off + 1, none⟩ from (Addr.add_add ad (i * 2) 1).symm] at h1
  exact h1
theorem str_ne {a b : ByteArray} (h : a ≠ b) : (a.toList == b.toList) = false := by
  rw [beq_eq_false_iff_ne]
  intro e
  rw [ByteArray.toList_eq, ByteArray.toList_eq] at e
  exact h (by cases a; cases b; simp only [ByteArray.mk.injEq]; exact Array.toList_inj.1 e)
theorem S_form {w : World} {q B : Nat} {lim hi mi : Int} {S : Value} {M : List Ent} (h : RL w q B lim hi mi S M) : ∃ A cap, S = .slice A M.length cap ∧ M.length ≤ cap := by
  obtain ⟨A, cap, rfl, hl, hC⟩ := Kd.Q_reads h.row
  simp only [List.length_map] at hl ⊢
  exact ⟨A, cap, rfl, hl⟩
theorem RL.q_lt {w : World} {q B : Nat} {lim hi mi : Int} {S : Value} {M : List Ent} (h : RL w q B lim hi mi S M) : q < w.heap.size := blk_lt h.blk
/-- the blocks that the reference's cache writes -/
def Wr (q : Nat) (S : Value) (k : Nat) : Prop := k = q ∨ S.ownBlock = some k
theorem RL.wr_lt {w : World} {q B : Nat} {lim hi mi : Int} {S : Value} {M : List Ent} (h : RL w q B lim hi mi S M) {k : Nat} (hk : Wr q S k) : k < w.heap.size := by
  rcases hk with rfl | hk
  · exact h.q_lt
  · exact Kd.Q_lt h.row k hk
/-- behind a frame that leaves its blocks -/
theorem RL.fr {P : Nat → Prop} {w w' : World} {q B : Nat} {lim hi mi : Int} {S : Value} {M : List Ent} (h : RL w q B lim hi mi S M) (hf : Fr P w w') (hw : ∀ k, Wr q S k → ¬ P k) (hv : ∀ x ∈ M, ∀ ad, x.A = some ad → 0 < x.val.length → ¬ P ad.block) : RL w' q B lim hi mi S M := by
  refine ⟨(hf.block q h.q_lt (hw q (.inl rfl))).trans h.blk, h.low, ?_, fun x hx => ⟨hf.C (h.val x hx).1 (hv x hx), (h.val x hx).2⟩, fun x hx ad e hp => ?_⟩
  · have h1 := Kd.Q_tight (by rfl) h.row
    exact Kd.Q_mono (Kd.Q_step h1 (fun k hk hlt => hf.block k hlt (hw k (.inr hk.symm)))) (fun _ _ => trivial)
  · obtain ⟨hb, cs, fz, hc⟩ := h.far x hx ad e hp
    exact ⟨hb, cs, fz, (hf.block ad.block (blk_lt hc) (hv x hx ad e hp)).trans hc⟩
theorem RL.below {w w' : World} {q B : Nat} {lim hi mi : Int} {S : Value} {M : List Ent} (h : RL w q B lim hi mi S M) (hb : Below w.heap.size w w') : RL w' q B lim hi mi S M :=
  h.fr (Fr.of_below hb (fun _ => False)) (fun _ _ h => h) (fun _ _ _ _ _ h => h)
theorem cells_ty {w : World} {k : Nat} {a b : Array Value} {s t : TypeId} {f g : Nat × Nat} (h1 : w.heap[k]? = some (.cells a s f)) (h2 : w.heap[k]? = some (.cells b t g)) : s = t := by
  rw [h1] at h2
  injection h2 with h2
  injection h2
theorem RL.apart {w : World} {q B : Nat} {lim hi mi : Int} {S : Value} {M : List Ent} (h : RL w q B lim hi mi S M) : ∀ x ∈ M, ∀ ad, x.A = some ad → 0 < x.val.length → ¬ Wr q S ad.block := by
  intro x hx ad e hp hw
  obtain ⟨_, cs, fz, hc⟩ := h.far x hx ad e hp
  rcases hw with hw | hw
  · rw [hw] at hc
    exact absurd (cells_ty hc h.blk) (by decide)
  · obtain ⟨cells, h2⟩ := Kd.Q_typed h.row _ hw
    exact absurd (cells_ty hc h2) (by decide)
/-- what a call that writes its own blocks leaves, with a new item -/
theorem RL.more {w w' : World} {q B : Nat} {lim hi mi hi' mi' : Int} {S S' : Value} {M M' : List Ent} (h : RL w q B lim hi mi S M) (hf : Fr (Wr q S) w w') (hblk : w'.heap[q]? = some (.cells #[.int .i64 lim, .int .i64 hi', .int .i64 mi', S'] 66 (0, 0)))
    (hrow : KI.Q 70 w' B (fun _ => True) S' (M'.map hdr)) (hM : ∀ x ∈ M', x ∈ M ∨ ((Kd.int .u8).C w' x.A x.val.length x.val ∧ x.val.length ≤ x.c ∧ ∀ ad, x.A = some ad → 0 < x.val.length → B ≤ ad.block ∧ ∃ cs fz, w'.heap[ad.block]? = some (.cells cs 5 fz))) : RL w' q B lim hi' mi' S' M' := by
  refine ⟨hblk, h.low, hrow, fun x hx => ?_, fun x hx ad e hp => ?_⟩
  · rcases hM x hx with hx | hx
    · exact ⟨hf.C (h.val x hx).1 (h.apart x hx), (h.val x hx).2⟩
    · exact ⟨hx.1, hx.2.1⟩
  · rcases hM x hx with hx | hx
    · obtain ⟨hb, cs, fz, hc⟩ := h.far x hx ad e hp
      exact ⟨hb, cs, fz, (hf.block ad.block (blk_lt hc) (h.apart x hx ad e hp)).trans hc⟩
    · exact hx.2.2 ad e hp
/-- what a call that writes its own blocks leaves -/
theorem RL.turn {w w' : World} {q B : Nat} {lim hi mi hi' mi' : Int} {S S' : Value} {M M' : List Ent} (h : RL w q B lim hi mi S M) (hf : Fr (Wr q S) w w') (hblk : w'.heap[q]? = some (.cells #[.int .i64 lim, .int .i64 hi', .int .i64 mi', S'] 66 (0, 0)))
    (hrow : KI.Q 70 w' B (fun _ => True) S' (M'.map hdr)) (hM : ∀ x ∈ M', x ∈ M) : RL w' q B lim hi' mi' S' M' := h.more hf hblk hrow (fun x hx => .inl (hM x hx))
theorem grown_fr {w w1 : World} {v : Value} (g : w.grownBy w1 v.ownBlock) : Fr (fun k => v.ownBlock = some k) w w1 := ⟨g.os, g.tape, g.output, g.size, fun k hk hn => g.block k hk (fun e => hn e.symm)⟩
theorem find_hit (w : World) (q B : Nat) (lim hi mi : Int) (S : Value) (X Y : List Ent) (x : Ent) (h : RL w q B lim hi mi S (X ++ x :: Y)) (hX : ∀ y ∈ X, y.key ≠ x.key) (hl : (X ++ x :: Y).length ≤ 1048576) :
    Calls Try.prog 34 #[PT q, .string x.key] w fun e w' => e = .returned (.int .i64 (X.length : Nat)) ∧ w' = w := by
  obtain ⟨A, cap, rfl, hcap⟩ := S_form h
  obtain ⟨n, hn⟩ : ∃ n, n = (X ++ x :: Y).length := ⟨_, rfl⟩
  rw [← hn] at h hcap hl
  have H := Aside0.mk h
  have c3 := blk_cell h.blk 3
  simp at c3
  have HN := Aside0.mk hn
  have HX := Aside0.mk hX
  have hxn : X.length < n := by rw [hn]; simp
  obtain ⟨key, hkey⟩ : ∃ key, key = x.key := ⟨_, rfl⟩
  rw [← hkey]
  have HK := Aside0.mk hkey
  clear h hn hX hkey
  go_enter Try.func34, Try.ntmps34
  go_wp2
  go_loopg [5] (X.length) (fun g s5 wx => ∃ k : Nat, s5 = .int .i64 (k : Int) ∧ Aside0 (k + g = X.length) ∧ wx = w)
  case atStart => exact ⟨0, rfl, ⟨by omega⟩, rfl⟩
  case round =>
    obtain ⟨k, rfl, hk, hwr⟩ := hrel
    subst hwr
    have hkX : k ≤ X.length := by have := hk.out; omega
    have hkn : (k : Int) < n := by omega
    obtain ⟨ad, hA', e0, e1⟩ := item_at H.out k (by have := HN.out; omega)
    subst hA'
    clear e1
    by_cases hkl : k = X.length
    · have hkk : ((X ++ x :: Y)[k]'(by have := HN.out; omega)).key = key := by
        subst hkl
        rw [List.getElem_append_right (by omega)]
        simp [HK.out]
      rw [hkk] at e0
      have HKL := Aside0.mk hkl
      clear hkk hkl hk
      go_wp2
      go_ret
      exact ⟨by rw [HKL.out]; rfl, rfl⟩
    · have hlt : k < X.length := by omega
      have hkk : ((X ++ x :: Y)[k]'(by have := HN.out; omega)).key = X[k].key := by rw [List.getElem_append_left hlt]
      rw [hkk] at e0
      have hne := HX.out _ (List.getElem_mem hlt)
      rw [← HK.out] at hne
      obtain ⟨yk, hyk⟩ : ∃ yk, yk = X[k].key := ⟨_, rfl⟩
      rw [← hyk] at e0 hne
      have hnb := str_ne hne
      clear hkk hkl hyk hne
      go_wp2
      go_roundg (gk - 1)
      case measure => have := hk.out; omega
      case rel => exact ⟨k + 1, by go_num, ⟨by have := hk.out; omega⟩, rfl⟩
theorem find_miss (w : World) (q B : Nat) (lim hi mi : Int) (S : Value) (M : List Ent) (s : ByteArray) (h : RL w q B lim hi mi S M) (hX : ∀ y ∈ M, y.key ≠ s) (hl : M.length ≤ 1048576) :
    Calls Try.prog 34 #[PT q, .string s] w fun e w' => e = .returned (.int .i64 (-1)) ∧ w' = w := by
  obtain ⟨A, cap, rfl, hcap⟩ := S_form h
  obtain ⟨n, hn⟩ : ∃ n, n = M.length := ⟨_, rfl⟩
  rw [← hn] at h hcap hl
  have H := Aside0.mk h
  have c3 := blk_cell h.blk 3
  simp at c3
  have HN := Aside0.mk hn
  have HX := Aside0.mk hX
  clear h hn hX
  go_enter Try.func34, Try.ntmps34
  go_wp2
  go_loopg [5] n (fun g s5 wx => ∃ k : Nat, s5 = .int .i64 (k : Int) ∧ Aside0 (k + g = n) ∧ wx = w)
  case atStart => exact ⟨0, rfl, ⟨by omega⟩, rfl⟩
  case round =>
    obtain ⟨k, rfl, hk, hwr⟩ := hrel
    subst hwr
    by_cases hkn : (k : Int) < n
    · have hlt : k < M.length := by have := HN.out; omega
      obtain ⟨ad, hA', e0, e1⟩ := item_at H.out k hlt
      subst hA'
      have hne := HX.out _ (List.getElem_mem hlt)
      obtain ⟨yk, hyk⟩ : ∃ yk, yk = M[k].key := ⟨_, rfl⟩
      rw [← hyk] at e0 hne
      have hnb := str_ne hne
      clear e1 hyk hne hlt
      go_wp2
      go_roundg (gk - 1)
      case measure => have := hk.out; omega
      case rel => exact ⟨k + 1, by go_num, ⟨by have := hk.out; omega⟩, rfl⟩
    · clear hk
      go_wp2
      go_ret
      exact ⟨rfl, rfl⟩
theorem RL.drewN {w : World} {q B : Nat} {lim hi mi : Int} {S : Value} {M : List Ent} (h : RL w q B lim hi mi S M) (k : Nat) : RL (w.drewN k) q B lim hi mi S M := h.below (pw_below_drewN (Below.refl _ _) k)
/-- Used -/
theorem rused (w : World) (q B : Nat) (lim hi mi : Int) (S : Value) (M : List Ent) (h : RL w q B lim hi mi S M) (hl : M.length ≤ 1048576) (hu : used M ≤ 1048576) :
    Calls Try.prog 32 #[PT q] w fun e w' => e = .returned (.int .i64 (used M : Nat)) ∧ ∃ k, w' = w.drewN k := by
  obtain ⟨A, cap, rfl, hcap⟩ := S_form h
  obtain ⟨n, hn⟩ : ∃ n, n = M.length := ⟨_, rfl⟩
  rw [← hn] at h hcap hl
  have H := Aside0.mk h
  have HN := Aside0.mk hn
  have HU := Aside0.mk hu
  clear h hn hu
  go_enter Try.func32, Try.ntmps32
  go_wp2
  go_loopg [3, 4] n (fun g s3 s4 wx => ∃ k : Nat, s4 = .int .i64 (k : Int) ∧ s3 = .int .i64 (used (M.take k) : Nat) ∧ Aside0 (k + g = n) ∧ Aside0 (∃ m, wx = w.drewN m))
  case atStart => exact ⟨0, rfl, by simp [used], ⟨by omega⟩, ⟨0, rfl⟩⟩
  case round =>
    obtain ⟨k, rfl, rfl, hk, hm⟩ := hrel
    have hkn' : k ≤ n := by have := hk.out; omega
    obtain ⟨tot, htot⟩ : ∃ tot : Int, tot = (used (M.take k) : Nat) := ⟨_, rfl⟩
    have ht0 : 0 ≤ tot := by omega
    have ht1 : tot ≤ 1048576 := by
      have h1 := used_take_le (L := M) k
      have h2 := HU.out
      omega
    rw [← htot]
    have Hr : RL wr q B lim hi mi (.slice A n cap) M := by
      obtain ⟨m, rfl⟩ := hm.out
      exact H.out.drewN m
    have c3 := blk_cell Hr.blk 3
    simp at c3
    by_cases hkn : (k : Int) < n
    · have hlt : k < M.length := by have := HN.out; omega
      obtain ⟨ad, hA', e0, e1⟩ := item_at Hr k hlt
      subst hA'
      obtain ⟨kk, hkk⟩ : ∃ kk, kk = M[k].key := ⟨_, rfl⟩
      obtain ⟨An, hAn⟩ : ∃ An, An = M[k].A := ⟨_, rfl⟩
      obtain ⟨vn, hvn⟩ : ∃ vn, vn = M[k].val.length := ⟨_, rfl⟩
      obtain ⟨cn, hcn⟩ : ∃ cn, cn = M[k].c := ⟨_, rfl⟩
      have hut := used_take hlt
      have hul := used_take_le (L := M) (k + 1)
      rw [← hkk] at e0 hut
      rw [← hAn, ← hvn, ← hcn] at e1
      rw [← hvn] at hut
      have hs : tot + kk.size + vn ≤ 1048576 := by have := HU.out; omega
      have f3 : ∀ j, (wr.drewN j).cell? ⟨q, 3, none⟩ = some (.slice (some ad) n cap) := fun j => c3
      have f0 : ∀ j, (wr.drewN j).cell? (ad.add (k * 2)) = some (.string kk) := fun j => e0
      have f1 : ∀ j, (wr.drewN j).cell? ⟨(ad.add (k * 2)).block, (ad.add (k * 2)).off + 1, none⟩ = some (.slice An vn cn) := fun j => e1
      have w1 : IntKind.i64.wrap (tot + kk.size) = tot + kk.size := by rw [i64_w]; unfold wrap64; omega
      have w2 : IntKind.i64.wrap (tot + kk.size + vn) = tot + kk.size + vn := by rw [i64_w]; unfold wrap64; omega
      have HUT := Aside0.mk hut
      have HT := Aside0.mk htot
      clear e0 e1 hkk hAn hvn hcn hut hul htot hlt Hr
      go_wp2_with fail
      go_quiet (fail)
      go_wp2_with fail
      go_roundg (gk - 1)
      case measure => have := hk.out; omega
      case rel =>
        refine ⟨k + 1, by go_num, ?_, ⟨by have := hk.out; omega⟩, ⟨?_⟩⟩
        · congr 1
          have h1 := HUT.out
          have h2 := HT.out
          omega
        · obtain ⟨m, hm⟩ := hm.out
          subst hm
          exact (Drawn0.step ⟨m, rfl⟩ _).out
    · have hkk : k = n := by omega
      have ht : tot = (used M : Nat) := by rw [htot, List.take_of_length_le (by have := HN.out; omega)]
      have HT := Aside0.mk ht
      clear hk hkk ht htot Hr
      go_wp2
      go_ret
      exact ⟨by rw [← HT.out]; rfl, hm.out⟩
/-- Keys -/
theorem rkeys (w : World) (q B : Nat) (lim hi mi : Int) (S : Value) (M : List Ent) (h : RL w q B lim hi mi S M) (hl : M.length ≤ 1048576) :
    Calls Try.prog 33 #[PT q] w fun e w' => ∃ v, e = .returned v ∧ Kd.R Kd.string 9 w' w.heap.size (fun _ => True) v (keysOf M) ∧ Below w.heap.size w w' := by
  obtain ⟨A, cap, rfl, hcap⟩ := S_form h
  obtain ⟨n, hn⟩ : ∃ n, n = M.length := ⟨_, rfl⟩
  rw [← hn] at h hcap hl
  have H := Aside0.mk h
  have HN := Aside0.mk hn
  clear h hn
  go_enter Try.func33, Try.ntmps33
  go_wp2
  go_loopg [3, 4] n (fun g s3 s4 wx => ∃ k : Nat, s4 = .int .i64 (k : Int) ∧ Aside0 (Kd.R Kd.string 9 wx w.heap.size (fun _ => True) s3 (keysOf (M.take k))) ∧ Aside0 (k + g = n) ∧ Aside0 (Below w.heap.size w wx))
  case atStart => exact ⟨0, rfl, ⟨Kd.R_nil _ _ _ _ _⟩, ⟨by omega⟩, ⟨Below.refl _ _⟩⟩
  case round =>
    obtain ⟨k, rfl, HR, hk, HB⟩ := hrel
    have hkn' : k ≤ n := by have := hk.out; omega
    have Hr : RL wr q B lim hi mi (.slice A n cap) M := H.out.below HB.out
    have c3 := blk_cell Hr.blk 3
    simp at c3
    by_cases hkn : (k : Int) < n
    · have hlt : k < M.length := by have := HN.out; omega
      obtain ⟨ad, hA', e0, e1⟩ := item_at Hr k hlt
      subst hA'
      obtain ⟨kk, hkk⟩ : ∃ kk, kk = M[k].key := ⟨_, rfl⟩
      rw [← hkk] at e0
      have HLX := Aside0.mk (show ((keysOf (M.take k)).length + 1) * 16 ≤ 140737488355328 by
        have h1 : (keysOf (M.take k)).length ≤ k := by simp [keysOf]; omega
        omega)
      have hq1 : q < wr.heap.size := Hr.q_lt
      have hc1 : (ad.add (k * 2)).block < wr.heap.size := World.block_lt_of_cell? _ _ e0
      have HKX : Aside0 (keysOf (M.take (k + 1)) = keysOf (M.take k) ++ [kk]) := ⟨by rw [List.take_succ_eq_append_getElem hlt, hkk]; simp only [keysOf, List.map_append, List.map_cons, List.map_nil]⟩
      clear e1 hkk hlt Hr
      go_wp2_with (first | ((with_reducible refine gate_builtin (b := .append) (xs := #[.tmp 14, .tmp 23]) rfl ?_); at_builtin; refine Kd.R_append Kd.string (w0 := w) w.heap.size rfl (.tmp 14) (.tmp 23) 36 9 (.string ByteArray.empty) 16 rfl Try.underlying36 info9 rfl (by decide) (by omega) u3 (keysOf (M.take k)) kk [.string kk] (fun _ => True) (fun _ => False) rfl rfl ?aP (fun _ hk => hk.elim) ?aF ?aO ?aB ?aS ?aL ?_; (case aP => exact rfl); (case aB => exact HB.out); (case aF => exact (fun _ _ => trivial)); (case aO => exact HR.out); (case aS => exact HB.out.size); (case aL => exact HLX.out); intro v2 w4 ho hb hg hat; have HO := Aside0.mk ho; have HB4 := Aside0.mk hb; clear ho hb hg hat))
      go_roundg (gk - 1)
      case measure => have := hk.out; omega
      case rel => exact ⟨k + 1, by go_num, ⟨by rw [HKX.out]; exact HO.out⟩, ⟨by have := hk.out; omega⟩, HB4⟩
    · have hkk : k = n := by omega
      have HKK : Aside0 (M.take k = M) := ⟨List.take_of_length_le (by have := HN.out; omega)⟩
      clear hk hkk Hr
      go_wp2
      go_ret
      exact ⟨_, rfl, by rw [← HKK.out]; exact HR.out, HB.out⟩
end Go.Proofs.Yteiejkkgckdihaa.Rc
