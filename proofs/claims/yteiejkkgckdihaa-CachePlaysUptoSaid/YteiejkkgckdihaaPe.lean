/- The end of Put: a node comes in. -/
import Derived.Test.YteiejkkgckdihaaDw
namespace Go.Proofs.Yteiejkkgckdihaa.Pe
set_option linter.unusedVariables false
open Go.RowKit Go.Proofs.YteiejkkgckdihaaW.PrintWords Go.Proofs.YteiejkkgckdihaaW.PrintLast Go.Proofs.YteiejkkgckdihaaW.PrintMore Go.Proofs.Yteiejkkgckdihaa.Fr Go.Proofs.Yteiejkkgckdihaa.Rg Go.Proofs.Yteiejkkgckdihaa.Rk Go.Proofs.Yteiejkkgckdihaa.Mp Go.Proofs.Yteiejkkgckdihaa.Ca Go.Proofs.Yteiejkkgckdihaa.Dr Go.Proofs.Yteiejkkgckdihaa.Tk Go.Proofs.Yteiejkkgckdihaa.Dw
theorem _root_.Go.Proofs.Yteiejkkgckdihaa.Ca.CL.own_lt {w : World} {c m r n : Nat} {lim hi mi : Int} {L : List Ent} (h : CL w c m r n lim hi mi L) {k : Nat} (hk : Own c m r L k) : k < w.heap.size := by
  rcases hk with rfl | rfl | rfl | ⟨x, hx, rfl⟩
  · exact blk_lt h.blk
  · exact h.map.lt
  · exact blk_lt h.ring.root
  · obtain ⟨a, b, hn⟩ := seg_mem h.ring.seg x hx
    exact blk_lt hn
theorem _root_.Go.Proofs.Yteiejkkgckdihaa.Ca.CL.below {w w' : World} {c m r n : Nat} {lim hi mi : Int} {L : List Ent} (h : CL w c m r n lim hi mi L) (hb : Below w.heap.size w w') : CL w' c m r n lim hi mi L := by
  have hbk : ∀ k, Own c m r L k → w'.heap[k]? = w.heap[k]? := fun k hk => hb.block k (h.own_lt hk)
  refine ⟨(hbk c (.inl rfl)).trans h.blk, h.ring.frame (hbk r (.inr (.inr (.inl rfl)))) (fun x hx => hbk x.b (.inr (.inr (.inr ⟨x, hx, rfl⟩)))), h.map.frame (hbk m (.inr (.inl rfl))), h.keys, ?_, h.far, h.low⟩
  intro x hx
  exact ⟨Kd.C_below (h.val x hx).1 hb, (h.val x hx).2⟩
theorem _root_.Go.Proofs.Yteiejkkgckdihaa.Ca.CL.mono {w : World} {c m r n n' : Nat} {lim hi mi : Int} {L : List Ent} (h : CL w c m r n lim hi mi L) (hn : n ≤ n') : CL w c m r n' lim hi mi L :=
  ⟨h.blk, h.ring, h.map.mono hn, h.keys, h.val, h.far, h.low⟩
theorem lst_own {c m r : Nat} (L : List Ent) : Own c m r L (lst L r) := by
  rcases lst_in L r with e | ⟨x, hx, e⟩
  · exact .inr (.inr (.inl e))
  · exact .inr (.inr (.inr ⟨x, hx, e⟩))
set_option maxHeartbeats 1000000 in
/-- what lies there while an element comes in -/
theorem put_end {c m r nn : Nat} {lim hi mi : Int} {L : List Ent} {w : World} (h : CL w c m r nn lim hi mi L) (s : ByteArray) (A : Option Addr) (cc : Nat) (xs : List Int) (hs : ∀ x ∈ L, x.key ≠ s)
    (hC : (Kd.int .u8).C w A xs.length xs) (hc : xs.length ≤ cc) (hfar : ∀ ad, A = some ad → 0 < xs.length → ¬ Own c m r L ad.block) (hlow : (used L : Int) + s.size + xs.length ≤ lim) (hnn : nn < maxLen) (w6 w7 : World) (nb : Nat)
    (e6 : w6 = w.alloc (.cells #[.string s, .slice A xs.length cc, .pointer none, .pointer none] 61)) (enb : nb = w.heap.size) (e7 : w7 = (putW (w6.alloc (.cells #[PT r] 51)) r (lst L r) nb).drew.drew) :
    w6.heap[nb]? = some (.cells #[.string s, .slice A xs.length cc, .pointer none, .pointer none] 61 (0, 0)) ∧
    (∃ kr vr qr, w6.heap[r]? = some (.cells #[kr, vr, PT (lst L r), qr] 61 (0, 0))) ∧ (∃ kl vl pl ql, w6.heap[lst L r]? = some (.cells #[kl, vl, pl, ql] 61 (0, 0))) ∧ lst L r ≠ nb ∧ r ≠ nb ∧ Blk w6 c m r lim (used L) hi mi ∧ Blk w7 c m r lim (used L) hi mi ∧
    ∃ w8, (Instr.mapUpdate 48 (.map (some m)) (.string s) (PT nb)).run Try.prog w7 = .ok () w8 ∧ Blk w8 c m r lim (used L) hi mi ∧ Fr (Own c m r L) w w8 ∧
      ∀ o us0, us0 = used L + (s.size + xs.length) → CL ((w8.alloc o).setCell ⟨c, 1, none⟩ (.int .i64 (us0 : Nat))).drew c m r (nn + 1) lim hi mi (L ++ [⟨nb, s, A, cc, xs⟩]) ∧ Fr (Own c m r L) w ((w8.alloc o).setCell ⟨c, 1, none⟩ (.int .i64 (us0 : Nat))).drew := by
  have hmx : xs.length ≤ maxLen := by have := h.low; simp only [maxLen]; omega
  have hsl : s.size ≤ maxLen := by have := h.low; simp only [maxLen]; omega
  have b6 : Below w.heap.size w w6 := e6 ▸ below_alloc (Below.refl _ _) _
  have h6 := h.below b6
  have hn6 : w6.heap[nb]? = some (.cells #[.string s, .slice A xs.length cc, .pointer none, .pointer none] 61 (0, 0)) := by rw [e6, enb]; exact blk_new _ _
  have onb : ∀ k, Own c m r L k → k ≠ nb := fun k hk e => by have := h.own_lt hk; omega
  have hl := h6.ring.place (lst L r) (lst_in L r)
  -- behind put
  have h6b := h6.below (below_alloc (Below.refl w6.heap.size w6) (.cells #[PT r] 51))
  have hn6b := blk_alloc hn6 (.cells #[PT r] 51)
  have hxr : nb ≠ r := (onb r (.inr (.inr (.inl rfl)))).symm
  have hxL : ∀ x ∈ L, x.b ≠ nb := fun x hx => onb x.b (.inr (.inr (.inr ⟨x, hx, rfl⟩)))
  have hrg : Ring (putW (w6.alloc (.cells #[PT r] 51)) r (lst L r) nb) r (L ++ [⟨nb, s, A, cc, xs⟩]) := Ring.inn (n := ⟨nb, s, A, cc, xs⟩) h6b.ring (.pointer none) (.pointer none) hn6b hxr hxL
  have hap := hrg.apart
  have hr7 : Ring w7 r (L ++ [⟨nb, s, A, cc, xs⟩]) := by rw [e7]; exact hrg.frame rfl (fun _ _ => rfl)
  have far7 : ∀ k, k ≠ nb → k ≠ lst L r → k ≠ r → w7.heap[k]? = (w6.alloc (.cells #[PT r] 51)).heap[k]? := fun k h1 h2 h3 => by rw [e7]; exact putW_far h1 h2 h3
  have ends : ∀ k, k ≠ r → (∀ x ∈ L, x.b ≠ k) → k ≠ lst L r := by
    intro k h1 h2 e
    rcases lst_in L r with e' | ⟨x, hx, e'⟩
    · exact h1 (e.trans e')
    · exact h2 x hx (e.trans e').symm
  have hc7 : Blk w7 c m r lim (used L) hi mi := (far7 c (onb c (.inl rfl)) (ends c h.cr h.cx) h.cr).trans h6b.blk
  have hm7 : MapS w7 m nn (lookE L) := h6b.map.frame (far7 m (onb m (.inr (.inl rfl))) (ends m h.rm.symm h.xm) h.rm.symm)
  obtain ⟨w8, hrun, hm8, ht8⟩ := hm7.store hsl hnn nb
  rw [show (fun t => if t = s then some nb else lookE L t) = lookE (L ++ [⟨nb, s, A, cc, xs⟩]) from look_in (n := ⟨nb, s, A, cc, xs⟩) hs] at hm8
  have f8 : Fr (fun k => k = m) w7 w8 := turned_fr ht8 _ rfl
  have hc8 : Blk w8 c m r lim (used L) hi mi := f8.heap hc7 h.cm
  obtain ⟨kr, hroot⟩ : ∃ q, Root w6 r (lst L r) q := ⟨_, h6.ring.root⟩
  have f67 : Fr (fun k => Own c m r L k ∨ k = nb) (w6.alloc (.cells #[PT r] 51)) w7 := by
    rw [e7]
    unfold putW
    exact ((((((Fr.refl _ _).setCell (.inl (.inr rfl)) _).setCell (.inl (.inr rfl)) _).setCell (.inl (.inl (lst_own L))) _).setCell (.inl (.inl (.inr (.inr (.inl rfl))))) _).drew).drew
  have fw6 : Fr (Own c m r L) w (w6.alloc (.cells #[PT r] 51)) := (Fr.of_below b6 _).trans (Fr.alloc (Fr.refl _ _) _)
  have fw7 : Fr (Own c m r L) w w7 := fw6.trans' f67 (fun k hk => by
    rcases hk with hk | hk
    · exact .inl hk
    · exact .inr (by omega))
  refine ⟨hn6, ⟨_, _, _, hroot⟩, hl, onb _ (lst_own L), onb r (.inr (.inr (.inl rfl))), h6.blk, hc7, w8, hrun, hc8, fw7.trans (f8.mono (fun k hk => .inr (.inl hk))), ?_⟩
  intro o us0 eus
  have f9 : Fr (fun k => k = c) w8 ((w8.alloc o).setCell ⟨c, 1, none⟩ (.int .i64 (us0 : Nat))).drew := (((Fr.refl (fun k => k = c) w8).alloc o).setCell (p := ⟨c, 1, none⟩) (.inl rfl) _).drew
  have hb9 : Blk ((w8.alloc o).setCell ⟨c, 1, none⟩ (.int .i64 (us0 : Nat))).drew c m r lim us0 hi mi := blk_put (blk_alloc hc8 o) 1 _ rfl
  have f79 : Fr (fun k => k = c ∨ k = m) w7 ((w8.alloc o).setCell ⟨c, 1, none⟩ (.int .i64 (us0 : Nat))).drew := (f8.mono (fun k hk => .inr hk)).trans (f9.mono (fun k hk => .inl hk))
  have fw : Fr (Own c m r L) w ((w8.alloc o).setCell ⟨c, 1, none⟩ (.int .i64 (us0 : Nat))).drew := fw7.trans (f79.mono (fun k hk => by rcases hk with hk | hk; exact .inl hk; exact .inr (.inl hk)))
  have hseg := seg_mem hr7.seg
  have eu : used (L ++ [⟨nb, s, A, cc, xs⟩]) = us0 := by rw [used_app, used_cons, show used ([] : List Ent) = 0 from rfl]; simp only [esz]; omega
  have ownN : ∀ k, Own c m r (L ++ [⟨nb, s, A, cc, xs⟩]) k → Own c m r L k ∨ k = nb := by
    intro k hk
    rcases hk with hk | hk | hk | ⟨x, hx, hk⟩
    · exact .inl (.inl hk)
    · exact .inl (.inr (.inl hk))
    · exact .inl (.inr (.inr (.inl hk)))
    · rcases List.mem_append.1 hx with hx | hx
      · exact .inl (.inr (.inr (.inr ⟨x, hx, hk⟩)))
      · simp at hx; subst hx; exact .inr hk
  have Clt : ∀ {A : Option Addr} {xs : List Int}, (Kd.int .u8).C w A xs.length xs → ∀ ad, A = some ad → 0 < xs.length → ad.block < w.heap.size := by
    intro A xs hC ad e hp
    obtain ⟨_, _, h3⟩ := Kd.reads_of_C (d := (0 : Int)) hC
    obtain ⟨ad', e', hc⟩ := h3 hp
    have := World.block_lt_of_cell? w _ (hc 0 hp)
    rw [e] at e'
    injection e' with e'
    subst e'
    have hb : (ad.add 0).block = ad.block := by unfold Addr.add; split <;> rfl
    rw [hb] at this
    exact this
  refine ⟨⟨by rw [eu]; exact hb9, hr7.frame (f79.block r (blk_lt hr7.root) ?_) (fun x hx => f79.block x.b ?_ ?_), (hm8.frame (f9.block m hm8.lt h.cm.symm)), ?_, ?_, ?_, ?_⟩, fw⟩
  · rintro (e | e)
    · exact h.cr e.symm
    · exact h.rm e
  · obtain ⟨a, b, hx⟩ := hseg x hx
    exact blk_lt hx
  · rcases List.mem_append.1 hx with hx | hx
    · rintro (e | e)
      · exact h.cx x hx e
      · exact h.xm x hx e
    · simp at hx
      subst hx
      rintro (e | e)
      · exact onb c (.inl rfl) e.symm
      · exact onb m (.inr (.inl rfl)) e.symm
  · rw [List.map_append, List.nodup_append]
    refine ⟨h.keys, by simp, ?_⟩
    intro a ha b hb
    simp at hb
    subst hb
    obtain ⟨x, hx, rfl⟩ := List.mem_map.1 ha
    exact hs x hx
  · intro x hx
    rcases List.mem_append.1 hx with hx | hx
    · exact ⟨fw.C (h.val x hx).1 (fun ad e hp => h.far x hx ad e hp), (h.val x hx).2⟩
    · simp at hx
      subst hx
      exact ⟨fw.C hC hfar, hc⟩
  · intro x hx ad e hp ho
    rcases List.mem_append.1 hx with hx | hx
    · rcases ownN _ ho with ho | ho
      · exact h.far x hx ad e hp ho
      · have := Clt (h.val x hx).1 ad e hp
        omega
    · simp at hx
      subst hx
      rcases ownN _ ho with ho | ho
      · exact hfar ad e hp ho
      · have := Clt hC ad e hp
        omega
  · have := h.low
    rw [eu]
    exact ⟨this.1, this.2.1, by omega⟩
end Go.Proofs.Yteiejkkgckdihaa.Pe
