/- Get, Keys. -/
import Derived.Test.YteiejkkgckdihaaPk
import Derived.Test.YteiejkkgckdihaaTu
import Derived.Test.YteiejkkgckdihaaPp
import Derived.Deep.LoopGhost
namespace Go.Proofs.Yteiejkkgckdihaa.Ge
set_option linter.unusedVariables false
open Go.RowKit Go.Proofs.YteiejkkgckdihaaW.PrintWords Go.Proofs.YteiejkkgckdihaaW.PrintLast Go.Proofs.YteiejkkgckdihaaW.PrintMore Go.Proofs.Yteiejkkgckdihaa.Fr Go.Proofs.Yteiejkkgckdihaa.Rg Go.Proofs.Yteiejkkgckdihaa.Rk Go.Proofs.Yteiejkkgckdihaa.Mp Go.Proofs.Yteiejkkgckdihaa.Ca Go.Proofs.Yteiejkkgckdihaa.Dr Go.Proofs.Yteiejkkgckdihaa.Tk Go.Proofs.Yteiejkkgckdihaa.Dw Go.Proofs.Yteiejkkgckdihaa.Cl Go.Proofs.Yteiejkkgckdihaa.Pe Go.Proofs.Yteiejkkgckdihaa.Pk Go.Proofs.Yteiejkkgckdihaa.Tu Go.Proofs.Yteiejkkgckdihaa.Pp
set_option maxHeartbeats 1000000 in
theorem get_hit (c m r nn : Nat) (lim hi mi : Int) (X Y : List Ent) (n : Ent) (w : World) (h : CL w c m r nn lim hi mi (X ++ n :: Y)) (hhi : 0 ≤ hi ∧ hi ≤ 4611686018427387904) :
    Calls Try.prog 12 #[PT c, .string n.key] w fun e w' => ∃ v, e = .returned (.tuple #[v, .bool true]) ∧ Kd.R (Kd.int .u8) 5 w' w.heap.size (fun _ => True) v n.val ∧ CL w' c m r nn lim (hi + 1) mi (X ++ Y ++ [n]) ∧ Fr (Own c m r (X ++ n :: Y)) w w' := by
  have hpk := peek_hit c m r nn lim hi mi X Y n w h
  have HL := Aside0.mk h
  have HH := Aside0.mk hhi
  have wz : IntKind.i64.wrap (hi + 1) = hi + 1 := by rw [i64_w]; unfold wrap64; omega
  clear h hhi
  go_enter Try.func12, Try.ntmps12
  go_wp2_with fail
  refine hpk.mono ?_
  rintro e w1 ⟨v, rfl, hr, hb⟩
  have h1 := HL.out.below hb
  have hno := none_no c m r lim _ hi mi w1 h1.blk
  have c2 := blk_cell h1.blk 2
  have f2 := blk_frozen h1.blk 2
  simp at c2
  obtain ⟨w2, hw2⟩ : ∃ w2, w2 = w1.setCell ⟨c, 2, none⟩ (.int .i64 (hi + 1)) := ⟨_, rfl⟩
  have hb2 : Blk w2 c m r lim (used (X ++ n :: Y)) (hi + 1) mi := by rw [hw2]; exact blk_put h1.blk 2 _ rfl
  have hf2 : Fr (fun k => k = c) w1 w2 := by rw [hw2]; exact (Fr.refl (fun k => k = c) w1).setCell (p := ⟨c, 2, none⟩) (.inl rfl) _
  have h2 := h1.counts hb2 hf2
  have hlow := h2.low
  have hus : used (X ++ n :: Y) = used (X ++ Y) + (n.key.size + n.val.length) := by simp [used_app, used_cons, esz]; omega
  have hlk := h2.map.look (k := n.key) (by simp only [maxLen]; omega) n.b (look_mid h2.keys)
  obtain ⟨w3, e3⟩ : ∃ w3, w3 = ((w2.setCell ⟨lst X r, 3, none⟩ (PT (hd Y r))).setCell ⟨hd Y r, 2, none⟩ (PT (lst X r))).drew := ⟨_, rfl⟩
  obtain ⟨w4, e4⟩ : ∃ w4, w4 = (putW (w3.alloc (.cells #[PT r] 51)) r (lst (X ++ Y) r) n.b).drew.drew := ⟨_, rfl⟩
  obtain ⟨htk, hpu, hb3, h4, hf4⟩ := turn h2 w3 w4 e3 e4
  have c4 := blk_cell hb2 4
  have c5 := blk_cell hb3 5
  simp at c4 c5
  rw [hw2] at c4 hlk
  have H1 := Aside0.mk h1
  have HR := Aside0.mk hr
  have HB := Aside0.mk hb
  have HF2 := Aside0.mk hf2
  have HW2 := Aside0.mk hw2
  have H4 := Aside0.mk h4
  have HF4 := Aside0.mk hf4
  clear h1 hr hb hpk hb2 hf2 h2 hlow hus e3 e4 hb3 h4 hf4 hw2
  go_wp2_with fail
  refine hno.mono ?_
  rintro e w1' ⟨rfl, rfl⟩
  go_wp2_with fail
  rw [← HW2.out]
  refine htk.mono ?_
  rintro e w3' ⟨rfl, rfl⟩
  go_wp2_with fail
  refine hpu.mono ?_
  rintro e w4' ⟨rfl, rfl⟩
  go_wp2
  go_ret2
  have hf : Fr (Own c m r (X ++ n :: Y)) w1' w4' := (HF2.out.mono (fun k hk => .inl hk)).trans HF4.out
  refine ⟨v, rfl, ?_, H4.out, (Fr.of_below HB.out _).trans hf⟩
  refine Kd.R_mono (hf.R (Kd.R_bound HR.out) (fun k hk ho => ?_)) (fun k hk => trivial)
  have := HL.out.own_lt ho
  have := hk.2.1
  omega
theorem info9 : (Try.prog.info? 9).map (fun i => (i.zero, i.size, i.bytes)) = some (some (.string ByteArray.empty), 1, 16) := by kernel_rfl
/-- the keys, one after another -/
def keysOf (L : List Ent) : List ByteArray := L.map (·.key)
set_option maxHeartbeats 1000000 in
theorem keys_is (c m r nn : Nat) (lim hi mi : Int) (L : List Ent) (w : World) (h : CL w c m r nn lim hi mi L) (hlen : L.length ≤ 1048576) :
    Calls Try.prog 14 #[PT c] w fun e w' => ∃ v, e = .returned v ∧ Kd.R Kd.string 9 w' w.heap.size (fun _ => True) v (keysOf L) ∧ Below w.heap.size w w' := by
  have hno := none_no c m r lim _ hi mi w h.blk
  have c5 := blk_cell h.blk 5
  have r3 := blk_cell h.ring.root 3
  simp at c5 r3
  obtain ⟨p0, hp0⟩ : ∃ p0, p0 = hd L r := ⟨_, rfl⟩
  rw [← hp0] at r3
  have HP0 := Aside0.mk hp0
  clear hp0
  have HL := Aside0.mk h
  have HLN := Aside0.mk hlen
  clear h hlen
  go_enter Try.func14, Try.ntmps14
  go_wp2_with fail
  refine hno.mono ?_
  rintro e w1 ⟨rfl, rfl⟩
  go_wp2_with fail
  clear hno r3 c5
  go_loopg [3, 4] (L.length) (fun g s3 s4 wx => ∃ X Y p, Aside0 (L = X ++ Y) ∧ Aside0 (Y.length = g) ∧ s4 = PT p ∧ Aside0 (p = hd Y r) ∧ Aside0 (Kd.R Kd.string 9 wx w1.heap.size (fun _ => True) s3 (keysOf X)) ∧ Aside0 (Below w1.heap.size w1 wx))
  case atStart => exact ⟨[], L, p0, ⟨rfl⟩, ⟨rfl⟩, rfl, HP0, ⟨Kd.R_nil _ _ _ _ _⟩, ⟨Below.refl _ _⟩⟩
  case round =>
    obtain ⟨X, Y, p, HLL, HY, rfl, HP, HR, HB⟩ := hrel
    have hx := HL.out.below HB.out
    have c5 := blk_cell hx.blk 5
    simp at c5
    cases Y with
    | nil =>
      have HX : Aside0 (L = X) := Aside0.mk (by rw [HLL.out]; simp)
      have hpr : p = r := HP.out
      subst hpr
      have hcmp := neq_same wr p
      clear hx
      go_wp2
      go_ret
      exact ⟨_, rfl, by rw [HX.out]; exact HR.out, HB.out⟩
    | cons x Y =>
      have hL := HLL.out
      rw [hL] at hx
      have h0 := HL.out
      rw [hL] at h0
      have hn1 := h0.ring.node
      have N1 := blk_cell hn1 3
      have hx1 : x.b < w1.heap.size := blk_lt hn1
      simp at N1
      clear h0 hn1
      have hnode := hx.ring.node
      have n0 := blk_cell hnode 0
      have n3 := blk_cell hnode 3
      simp at n0 n3
      have hap := hx.ring.apart
      have hxr : ¬ x.b = r := fun e => (List.nodup_cons.1 hap).1 (by rw [← e]; exact List.mem_map_of_mem (by simp))
      have hxl : x.b < wr.heap.size := blk_lt hnode
      have hcmp := neq_other wr x.b r hxr hnode hx.ring.root
      have hpx : p = x.b := HP.out
      subst hpx
      obtain ⟨q, hq⟩ : ∃ q, q = hd Y r := ⟨_, rfl⟩
      rw [← hq] at n3 N1
      have HN1 := Aside0.mk N1
      have HX1 := Aside0.mk hx1
      clear N1 hx1
      have HQ := Aside0.mk hq
      clear hq
      have HLX := Aside0.mk (show (keysOf X).length + Y.length + 1 ≤ 1048576 by
        have := HLN.out
        rw [hL] at this
        simp [keysOf] at this ⊢
        omega)
      clear hx hnode hap hL HP
      go_wp2_with (first | ((with_reducible refine gate_builtin (b := .append) (xs := #[.tmp 26, .tmp 32]) rfl ?_); at_builtin; refine Kd.R_append Kd.string (w0 := w1) w1.heap.size rfl (.tmp 26) (.tmp 32) 36 9 (.string ByteArray.empty) 16 rfl Try.underlying36 info9 rfl (by decide) (by omega) u3 (keysOf X) x.key [.string x.key] (fun _ => True) (fun _ => False) rfl rfl ?aP (fun _ hk => hk.elim) ?aF ?aO ?aB ?aS ?aL ?_; (case aP => exact rfl); (case aB => exact HB.out); (case aF => exact (fun _ _ => trivial)); (case aO => exact HR.out); (case aS => exact HB.out.size); (case aL => have := HLX.out; omega); intro v2 w4 ho hb hg hat; have m3 : w4.cell? ⟨x.b, 3, none⟩ = some (PT q) := (hb.cell (p := ⟨x.b, 3, none⟩) HX1.out).trans HN1.out; have HO := Aside0.mk ho; have HB4 := Aside0.mk hb; clear ho hb hg hat))
      go_roundg Y.length
      case measure =>
        have := HY.out
        simp at this
        omega
      case rel => exact ⟨X ++ [x], Y, q, ⟨by rw [HLL.out]; simp⟩, ⟨rfl⟩, rfl, HQ, ⟨by rw [show keysOf (X ++ [x]) = keysOf X ++ [x.key] from by simp [keysOf]]; exact HO.out⟩, HB4⟩
end Go.Proofs.Yteiejkkgckdihaa.Ge
