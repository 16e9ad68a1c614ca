/- An element that is used goes to the end. -/
import Derived.Test.YteiejkkgckdihaaPe
namespace Go.Proofs.Yteiejkkgckdihaa.Tu
set_option linter.unusedVariables false
open Go.RowKit Go.Proofs.YteiejkkgckdihaaW.PrintWords Go.Proofs.YteiejkkgckdihaaW.PrintLast Go.Proofs.YteiejkkgckdihaaW.PrintMore Go.Proofs.Yteiejkkgckdihaa.Fr Go.Proofs.Yteiejkkgckdihaa.Rg Go.Proofs.Yteiejkkgckdihaa.Rk Go.Proofs.Yteiejkkgckdihaa.Mp Go.Proofs.Yteiejkkgckdihaa.Ca Go.Proofs.Yteiejkkgckdihaa.Dr Go.Proofs.Yteiejkkgckdihaa.Tk Go.Proofs.Yteiejkkgckdihaa.Dw Go.Proofs.Yteiejkkgckdihaa.Pe
/-- the counts alone turn -/
theorem _root_.Go.Proofs.Yteiejkkgckdihaa.Ca.CL.counts {w w' : World} {c m r n : Nat} {lim hi mi hi' mi' : Int} {L : List Ent} (h : CL w c m r n lim hi mi L) (hb : Blk w' c m r lim (used L) hi' mi') (hf : Fr (fun k => k = c) w w') : CL w' c m r n lim hi' mi' L := by
  refine ⟨hb, h.ring.frame (hf.block r (blk_lt h.ring.root) h.cr.symm) (fun x hx => hf.block x.b (h.own_lt (.inr (.inr (.inr ⟨x, hx, rfl⟩)))) (h.cx x hx)), h.map.frame (hf.block m h.map.lt h.cm.symm), h.keys, ?_, h.far, h.low⟩
  intro x hx
  exact ⟨hf.C (h.val x hx).1 (fun ad e hp e' => h.far x hx ad e hp (.inl e')), (h.val x hx).2⟩
theorem own_turn {c m r : Nat} {X Y : List Ent} {n : Ent} {k : Nat} (h : Own c m r (X ++ Y ++ [n]) k) : Own c m r (X ++ n :: Y) k := by
  rcases h with h | h | h | ⟨x, hx, h⟩
  · exact .inl h
  · exact .inr (.inl h)
  · exact .inr (.inr (.inl h))
  · refine .inr (.inr (.inr ⟨x, ?_, h⟩))
    simp at hx
    rcases hx with hx | hx | hx <;> simp [hx]
set_option maxHeartbeats 1000000 in
theorem turn {c m r nn : Nat} {lim hi mi : Int} {X Y : List Ent} {n : Ent} {w : World} (h : CL w c m r nn lim hi mi (X ++ n :: Y)) (w3 w4 : World) (e3 : w3 = ((w.setCell ⟨lst X r, 3, none⟩ (PT (hd Y r))).setCell ⟨hd Y r, 2, none⟩ (PT (lst X r))).drew)
    (e4 : w4 = (putW (w3.alloc (.cells #[PT r] 51)) r (lst (X ++ Y) r) n.b).drew.drew) :
    (Calls Try.prog 25 #[PT n.b] w fun e w' => e = .returned (.tuple #[]) ∧ w' = w3) ∧ (Calls Try.prog 24 #[.agg #[PT r], PT n.b] w3 fun e w' => e = .returned (.tuple #[]) ∧ w' = w4) ∧
    Blk w3 c m r lim (used (X ++ n :: Y)) hi mi ∧ CL w4 c m r nn lim hi mi (X ++ Y ++ [n]) ∧ Fr (Own c m r (X ++ n :: Y)) w w4 := by
  obtain ⟨kp, vp, pp, qp, hp⟩ := h.ring.place (lst X r) (by rcases lst_in X r with e | ⟨x, hx, e⟩; exact .inl e; exact .inr ⟨x, by simp [hx], e⟩)
  obtain ⟨kq, vq, pq, qq, hq⟩ := h.ring.place (hd Y r) (by rcases hd_in Y r with e | ⟨x, hx, e⟩; exact .inl e; exact .inr ⟨x, by simp [hx], e⟩)
  have hnode := h.ring.node
  have hbs := h.ring.beside
  have htk := take_is n.b (lst X r) (hd Y r) w _ _ kp vp pp qp kq vq pq qq hnode hp hq hbs.1 hbs.2
  rw [← e3] at htk
  have hr3 : Ring w3 r (X ++ Y) := by rw [e3]; exact h.ring.out.frame rfl (fun _ _ => rfl)
  have far3 : ∀ b, b ≠ lst X r → b ≠ hd Y r → w3.heap[b]? = w.heap[b]? := fun b h1 h2 => by rw [e3]; exact heap_two_far h1 h2
  have hn3 : Rg.Node w3 n (lst X r) (hd Y r) := (far3 n.b hbs.1.symm hbs.2.symm).trans hnode
  have hap := h.ring.apart
  have hnr : n.b ≠ r := fun e => (List.nodup_cons.1 hap).1 (by rw [← e]; exact List.mem_map_of_mem (by simp))
  have hnL : ∀ x ∈ X ++ Y, x.b ≠ n.b := by
    have h1 := (List.nodup_cons.1 hap).2
    rw [List.map_append, List.map_cons, List.nodup_append] at h1
    obtain ⟨_, h2, h3⟩ := h1
    have h2' := List.nodup_cons.1 h2
    intro x hx e
    rcases List.mem_append.1 hx with hx | hx
    · exact h3 x.b (List.mem_map_of_mem hx) n.b (by simp) e
    · exact h2'.1 (by rw [← e]; exact List.mem_map_of_mem hx)
  have hln : lst (X ++ Y) r ≠ n.b := by
    rcases lst_in (X ++ Y) r with e | ⟨x, hx, e⟩
    · rw [e]; exact hnr.symm
    · rw [e]; exact hnL x hx
  obtain ⟨kl, vl, pl, ql, hl⟩ := hr3.place (lst (X ++ Y) r) (lst_in _ r)
  obtain ⟨q0, hroot⟩ : ∃ q, Root w3 r (lst (X ++ Y) r) q := ⟨_, hr3.root⟩
  have hpu := put_is r (lst (X ++ Y) r) n.b w3 _ _ _ _ _ _ _ kl vl pl ql hn3 hroot hl hln hnr.symm
  rw [← e4] at hpu
  have ends : ∀ b, b ≠ r → (∀ x ∈ X ++ n :: Y, x.b ≠ b) → b ≠ lst X r ∧ b ≠ hd Y r ∧ b ≠ lst (X ++ Y) r := by
    intro b h1 h2
    refine ⟨?_, ?_, ?_⟩
    · rcases lst_in X r with e | ⟨x, hx, e⟩
      · rw [e]; exact h1
      · rw [e]; exact fun e' => h2 x (by simp [hx]) e'.symm
    · rcases hd_in Y r with e | ⟨x, hx, e⟩
      · rw [e]; exact h1
      · rw [e]; exact fun e' => h2 x (by simp [hx]) e'.symm
    · rcases lst_in (X ++ Y) r with e | ⟨x, hx, e⟩
      · rw [e]; exact h1
      · rw [e]; exact fun e' => h2 x (mem_sub hx) e'.symm
  have hcE := ends c h.cr h.cx
  have hmE := ends m h.rm.symm h.xm
  have oX : Own c m r (X ++ n :: Y) (lst X r) := by
    rcases lst_in X r with e | ⟨x, hx, e⟩
    · exact .inr (.inr (.inl e))
    · exact .inr (.inr (.inr ⟨x, by simp [hx], e⟩))
  have oY : Own c m r (X ++ n :: Y) (hd Y r) := by
    rcases hd_in Y r with e | ⟨x, hx, e⟩
    · exact .inr (.inr (.inl e))
    · exact .inr (.inr (.inr ⟨x, by simp [hx], e⟩))
  have oN : Own c m r (X ++ n :: Y) n.b := .inr (.inr (.inr ⟨n, by simp, rfl⟩))
  have oL : Own c m r (X ++ n :: Y) (lst (X ++ Y) r) := own_sub (lst_own (X ++ Y))
  have hf3 : Fr (Own c m r (X ++ n :: Y)) w w3 := by
    rw [e3]
    exact (((Fr.refl _ _).setCell (.inl oX) _).setCell (.inl oY) _).drew
  have hf3b : Fr (Own c m r (X ++ n :: Y)) w3 (w3.alloc (.cells #[PT r] 51)) := (Fr.refl _ _).alloc _
  have hf4 : Fr (Own c m r (X ++ n :: Y)) (w3.alloc (.cells #[PT r] 51)) w4 := by
    rw [e4]
    unfold putW
    exact ((((((Fr.refl _ _).setCell (.inl oN) _).setCell (.inl oN) _).setCell (.inl oL) _).setCell (.inl (.inr (.inr (.inl rfl)))) _).drew).drew
  have hf : Fr (Own c m r (X ++ n :: Y)) w w4 := hf3.trans (hf3b.trans hf4)
  have b3 : Below w3.heap.size w3 (w3.alloc (.cells #[PT r] 51)) := below_alloc (Below.refl _ _) _
  have hr3b : Ring (w3.alloc (.cells #[PT r] 51)) r (X ++ Y) := hr3.frame (b3.block r (blk_lt hr3.root)) (fun x hx => by
    obtain ⟨a, b, hx'⟩ := seg_mem hr3.seg x hx
    exact b3.block x.b (blk_lt hx'))
  have hrg : Ring (putW (w3.alloc (.cells #[PT r] 51)) r (lst (X ++ Y) r) n.b) r (X ++ Y ++ [n]) := Ring.inn hr3b (PT (lst X r)) (PT (hd Y r)) (blk_alloc hn3 _) hnr hnL
  have hr4 : Ring w4 r (X ++ Y ++ [n]) := by rw [e4]; exact hrg.frame rfl (fun _ _ => rfl)
  have far4 : ∀ k, k ≠ n.b → k ≠ lst (X ++ Y) r → k ≠ r → k < w3.heap.size → w4.heap[k]? = w3.heap[k]? := fun k h1 h2 h3 h4 => by
    rw [e4]
    exact (putW_far h1 h2 h3).trans (b3.block k h4)
  have hc3 : Blk w3 c m r lim (used (X ++ n :: Y)) hi mi := (far3 c hcE.1 hcE.2.1).trans h.blk
  have hm3 : MapS w3 m nn (lookE (X ++ n :: Y)) := h.map.frame (far3 m hmE.1 hmE.2.1)
  have hc4 : Blk w4 c m r lim (used (X ++ n :: Y)) hi mi := (far4 c (h.cx n (by simp)).symm hcE.2.2 h.cr (blk_lt hc3)).trans hc3
  have hm4 : MapS w4 m nn (lookE (X ++ n :: Y)) := hm3.frame (far4 m (h.xm n (by simp)).symm hmE.2.2 h.rm.symm hm3.lt)
  have hlk : lookE (X ++ Y ++ [n]) = lookE (X ++ n :: Y) := by
    rw [← look_in (L := X ++ Y) (n := n), ← look_out h.keys]
    · funext s
      by_cases hs : s = n.key
      · subst hs
        simp [look_mid h.keys]
      · simp [hs]
    · have h1 := h.keys
      rw [List.map_append, List.map_cons, List.nodup_append] at h1
      obtain ⟨_, h2, h3⟩ := h1
      have h2' := List.nodup_cons.1 h2
      intro x hx e
      rcases List.mem_append.1 hx with hx | hx
      · exact h3 x.key (List.mem_map_of_mem hx) n.key (by simp) e
      · exact h2'.1 (by rw [← e]; exact List.mem_map_of_mem hx)
  have hus : used (X ++ Y ++ [n]) = used (X ++ n :: Y) := by simp only [used_app, used_cons, show used ([] : List Ent) = 0 from rfl]; omega
  have mem : ∀ x, x ∈ X ++ Y ++ [n] → x ∈ X ++ n :: Y := by
    intro x hx
    simp at hx
    rcases hx with hx | hx | hx <;> simp [hx]
  refine ⟨htk, hpu, hc3, ⟨by rw [hus]; exact hc4, hr4, by rw [hlk]; exact hm4, ?_, ?_, ?_, by rw [hus]; exact h.low⟩, hf⟩
  · have h1 := h.keys
    have hp : (X ++ Y ++ [n]).Perm (X ++ n :: Y) := by
      rw [List.append_assoc]
      exact List.Perm.append_left X (List.perm_append_singleton n Y)
    exact (hp.map _).nodup_iff.2 h1
  · intro x hx
    exact ⟨hf.C (h.val x (mem x hx)).1 (fun ad e hp => h.far x (mem x hx) ad e hp), (h.val x (mem x hx)).2⟩
  · intro x hx ad e hp ho
    exact h.far x (mem x hx) ad e hp (own_turn ho)
end Go.Proofs.Yteiejkkgckdihaa.Tu
