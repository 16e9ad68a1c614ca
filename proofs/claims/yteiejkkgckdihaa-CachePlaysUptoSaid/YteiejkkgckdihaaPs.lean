/- A cache beside the reference's: what both hold, and what a call on one leaves of the other. -/
import Derived.Test.YteiejkkgckdihaaLe
namespace Go.Proofs.Yteiejkkgckdihaa.Ps
set_option linter.unusedVariables false
open Go.Proofs.Yteiejkkgckdihaa.Sy Go.Proofs.Yteiejkkgckdihaa.Rt Go.Proofs.Yteiejkkgckdihaa.Rq Go.Proofs.Yteiejkkgckdihaa.Rc Go.Proofs.Yteiejkkgckdihaa.Dw Go.RowKit Go.Proofs.YteiejkkgckdihaaW.PrintWords Go.Proofs.YteiejkkgckdihaaW.PrintLast Go.Proofs.YteiejkkgckdihaaW.PrintMore Go.Proofs.Yteiejkkgckdihaa.Fr Go.Proofs.Yteiejkkgckdihaa.Rg Go.Proofs.Yteiejkkgckdihaa.Mp Go.Proofs.Yteiejkkgckdihaa.Ca Go.Proofs.Yteiejkkgckdihaa.Dr Go.Proofs.Yteiejkkgckdihaa.Pu Go.Proofs.Yteiejkkgckdihaa.Ge Go.Proofs.Yteiejkkgckdihaa.Cx Go.Proofs.Yteiejkkgckdihaa.Bo Go.Proofs.Yteiejkkgckdihaa.Mv
/-! ### keys and values alone -/
def kv (x : Ent) : ByteArray × List Int := (x.key, x.val)
def usedK (l : List (ByteArray × List Int)) : Nat := (l.map (fun p => p.1.size + p.2.length)).sum
def evictK (lim : Int) (sz : Nat) : List (ByteArray × List Int) → List (ByteArray × List Int)
  | [] => []
  | x :: L => if lim < (usedK (x :: L) : Int) + sz then evictK lim sz L else x :: L
theorem used_kv (L : List Ent) : usedK (L.map kv) = used L := by unfold usedK used esz kv; rw [List.map_map]; rfl
theorem evict_kv (lim : Int) (sz : Nat) : ∀ L : List Ent, (evict lim sz L).map kv = evictK lim sz (L.map kv)
  | [] => rfl
  | x :: L => by
    rw [List.map_cons]
    unfold evict evictK
    have h := used_kv (x :: L)
    rw [List.map_cons] at h
    rw [h]
    split
    · exact evict_kv lim sz L
    · rfl
theorem but_kv (s : ByteArray) (L : List Ent) : (but s L).map kv = (L.map kv).filter (fun p => !decide (p.1 = s)) := by
  unfold but
  rw [List.filter_map]
  rfl
theorem keys_kv (L : List Ent) : keysOf L = (L.map kv).map (·.1) := by unfold keysOf; rw [List.map_map]; rfl
theorem look_kv (L : List Ent) (s : ByteArray) : (lookE L s).isSome = (L.map kv).any (fun p => decide (p.1 = s)) := by
  unfold lookE
  rw [Option.isSome_map, List.any_map]
  rw [Bool.eq_iff_iff]
  simp only [List.find?_isSome, List.any_eq_true, Function.comp, kv]
  exact Iff.rfl
theorem val_kv {L M : List Ent} (h : L.map kv = M.map kv) (hn : (L.map (·.key)).Nodup) {x y : Ent} (hx : x ∈ L) (hy : y ∈ M) (hk : x.key = y.key) : x.val = y.val := by
  have h1 : kv y ∈ L.map kv := by rw [h]; exact List.mem_map_of_mem hy
  obtain ⟨z, hz, e⟩ := List.mem_map.1 h1
  have hzk : z.key = y.key := congrArg Prod.fst e
  have hzv : z.val = y.val := congrArg Prod.snd e
  have hzx : z = x := by
    have hp := List.pairwise_map.1 hn
    obtain ⟨i, hi, e1⟩ := List.getElem_of_mem hz
    obtain ⟨j, hj, e2⟩ := List.getElem_of_mem hx
    rcases Nat.lt_trichotomy i j with hl | hl | hl
    · have := List.pairwise_iff_getElem.1 hp i j hi hj hl
      rw [e1, e2] at this
      exact absurd (hzk.trans hk.symm) this
    · subst hl; rw [← e1, ← e2]
    · have := List.pairwise_iff_getElem.1 hp j i hj hi hl
      rw [e1, e2] at this
      exact absurd (hk.trans hzk.symm) this
  rw [← hzx, hzv]
/-! ### the blocks -/
def Ty5 (w : World) (B : Nat) (L : List Ent) : Prop := ∀ x ∈ L, ∀ ad, x.A = some ad → 0 < x.val.length → B ≤ ad.block ∧ ∃ cs fz, w.heap[ad.block]? = some (.cells cs 5 fz)
theorem own_ty {w : World} {c m r nn : Nat} {lim hi mi : Int} {L : List Ent} (h : CL w c m r nn lim hi mi L) {k : Nat} (hk : Own c m r L k) : (∃ cs, w.heap[k]? = some (.cells cs 53 (0, 0))) ∨ (∃ es cl, w.heap[k]? = some (.map es cl)) ∨ ∃ cs, w.heap[k]? = some (.cells cs 61 (0, 0)) := by
  rcases hk with rfl | rfl | rfl | ⟨x, hx, rfl⟩
  · exact .inl ⟨_, h.blk⟩
  · exact .inr (.inl h.map.obj)
  · exact .inr (.inr ⟨_, h.ring.root⟩)
  · obtain ⟨a, b, c', d, e⟩ := h.ring.place x.b (.inr ⟨x, hx, rfl⟩)
    exact .inr (.inr ⟨_, e⟩)
theorem own_not {w : World} {c m r B k : Nat} {lim hi mi : Int} {L : List Ent} (h : CX w c m r B lim k hi mi L) {j : Nat} {cs : Array Value} {t : TypeId} {fz : Nat × Nat} (hj : w.heap[j]? = some (.cells cs t fz)) (h1 : t ≠ 53) (h2 : t ≠ 61) : ¬ Own c m r L j := by
  intro ho
  obtain ⟨nn, h, _⟩ := h
  rcases own_ty h ho with ⟨c', e⟩ | ⟨es, cl, e⟩ | ⟨c', e⟩
  · exact h1 (cells_ty hj e)
  · rw [hj] at e; cases e
  · exact h2 (cells_ty hj e)
theorem cx_fr {P : Nat → Prop} {w w' : World} {c m r B k : Nat} {lim hi mi : Int} {L : List Ent} (h : CX w c m r B lim k hi mi L) (hf : Fr P w w') (ho : ∀ j, Own c m r L j → ¬ P j) (hv : ∀ x ∈ L, ∀ ad, x.A = some ad → 0 < x.val.length → ¬ P ad.block) : CX w' c m r B lim k hi mi L := by
  obtain ⟨nn, h, r1⟩ := h
  refine ⟨nn, ?_, r1⟩
  have hb : ∀ j, Own c m r L j → w'.heap[j]? = w.heap[j]? := fun j hj => hf.block j (h.own_lt hj) (ho j hj)
  refine ⟨?_, h.ring.frame (hb r (.inr (.inr (.inl rfl)))) (fun x hx => hb x.b (.inr (.inr (.inr ⟨x, hx, rfl⟩)))), h.map.frame (hb m (.inr (.inl rfl))), h.keys, fun x hx => ⟨hf.C (h.val x hx).1 (hv x hx), (h.val x hx).2⟩, h.far, h.low⟩
  unfold Blk
  rw [hb c (.inl rfl)]
  exact h.blk
theorem Ty5.fr {P : Nat → Prop} {w w' : World} {B : Nat} {L : List Ent} (h : Ty5 w B L) (hf : Fr P w w') (hv : ∀ x ∈ L, ∀ ad, x.A = some ad → 0 < x.val.length → ¬ P ad.block) : Ty5 w' B L := fun x hx ad e hp => by
  obtain ⟨hb, cs, fz, hc⟩ := h x hx ad e hp
  exact ⟨hb, cs, fz, (hf.block ad.block (blk_lt hc) (hv x hx ad e hp)).trans hc⟩
/-- a cache and the reference's beside it -/
structure PS (w : World) (c m r q B : Nat) (lim : Int) (k : Nat) (hi mi : Int) (L M : List Ent) (S : Value) : Prop where
  cx : CX w c m r B lim k hi mi L
  rl : RL w q B lim hi mi S M
  ty : Ty5 w B L
  same : L.map kv = M.map kv
theorem PS.nodup {w : World} {c m r q B k : Nat} {lim hi mi : Int} {L M : List Ent} {S : Value} (h : PS w c m r q B lim k hi mi L M S) : (M.map (·.key)).Nodup := by
  have h1 := h.cx.apart
  have e : ∀ l : List Ent, l.map (·.key) = (l.map kv).map (·.1) := fun l => by rw [List.map_map]; rfl
  rw [e] at h1 ⊢
  rw [← h.same]
  exact h1
theorem PS.len {w : World} {c m r q B k : Nat} {lim hi mi : Int} {L M : List Ent} {S : Value} (h : PS w c m r q B lim k hi mi L M S) : M.length = L.length := by
  have := congrArg List.length h.same
  simpa using this.symm
theorem PS.usedM {w : World} {c m r q B k : Nat} {lim hi mi : Int} {L M : List Ent} {S : Value} (h : PS w c m r q B lim k hi mi L M S) : used M = used L := by rw [← used_kv, ← used_kv, h.same]
theorem wr_ty {w : World} {q B : Nat} {lim hi mi : Int} {S : Value} {M : List Ent} (h : RL w q B lim hi mi S M) {j : Nat} (hj : Wr q S j) : (∃ cs, w.heap[j]? = some (.cells cs 66 (0, 0))) ∨ ∃ cs, w.heap[j]? = some (.cells cs 70 (0, 0)) := by
  rcases hj with rfl | hj
  · exact .inl ⟨_, h.blk⟩
  · exact .inr (Kd.Q_typed h.row j hj)
theorem wr_own {w : World} {c m r q B k : Nat} {lim hi mi hi' mi' : Int} {L M : List Ent} {S : Value} (h : CX w c m r B lim k hi mi L) (h2 : RL w q B lim hi' mi' S M) {j : Nat} (hj : Wr q S j) : ¬ Own c m r L j := by
  rcases wr_ty h2 hj with ⟨cs, e⟩ | ⟨cs, e⟩
  · exact own_not h e (by decide) (by decide)
  · exact own_not h e (by decide) (by decide)
theorem wr_val {w : World} {q B : Nat} {lim hi mi : Int} {S : Value} {M L : List Ent} (h : RL w q B lim hi mi S M) (ht : Ty5 w B L) : ∀ x ∈ L, ∀ ad, x.A = some ad → 0 < x.val.length → ¬ Wr q S ad.block := fun x hx ad e hp hw => by
  obtain ⟨_, cs, fz, hc⟩ := ht x hx ad e hp
  rcases wr_ty h hw with ⟨c', e'⟩ | ⟨c', e'⟩
  · exact absurd (cells_ty hc e') (by decide)
  · exact absurd (cells_ty hc e') (by decide)
theorem own_val {w : World} {c m r B k : Nat} {lim hi mi : Int} {L : List Ent} (h : CX w c m r B lim k hi mi L) {L' : List Ent} (ht : Ty5 w B L') : ∀ x ∈ L', ∀ ad, x.A = some ad → 0 < x.val.length → ¬ Own c m r L ad.block := fun x hx ad e hp => by
  obtain ⟨_, cs, fz, hc⟩ := ht x hx ad e hp
  exact own_not h hc (by decide) (by decide)
/-- what both write -/
def Pw (c m r q : Nat) (L : List Ent) (S : Value) (j : Nat) : Prop := Own c m r L j ∨ Wr q S j
/-- what both write, and what both read -/
def Fp (c m r q : Nat) (L M : List Ent) (S : Value) (j : Nat) : Prop := Pw c m r q L S j ∨ Vb L j ∨ Vb M j
theorem PS.fr {P : Nat → Prop} {w w' : World} {c m r q B k : Nat} {lim hi mi : Int} {L M : List Ent} {S : Value} (h : PS w c m r q B lim k hi mi L M S) (hf : Fr P w w') (hp : ∀ j, Fp c m r q L M S j → ¬ P j) : PS w' c m r q B lim k hi mi L M S :=
  ⟨cx_fr h.cx hf (fun j hj => hp j (.inl (.inl hj))) (fun x hx ad e h0 => hp _ (.inr (.inl ⟨x, hx, ad, e, h0, rfl⟩))), h.rl.fr hf (fun j hj => hp j (.inl (.inr hj))) (fun x hx ad e h0 => hp _ (.inr (.inr ⟨x, hx, ad, e, h0, rfl⟩))),
    h.ty.fr hf (fun x hx ad e h0 => hp _ (.inr (.inl ⟨x, hx, ad, e, h0, rfl⟩))), h.same⟩
theorem PS.below {w w' : World} {c m r q B k : Nat} {lim hi mi : Int} {L M : List Ent} {S : Value} (h : PS w c m r q B lim k hi mi L M S) (hb : Below w.heap.size w w') : PS w' c m r q B lim k hi mi L M S :=
  h.fr (Fr.of_below hb (fun _ => False)) (fun _ _ h => h)
theorem PS.mono {w : World} {c m r q B k k' : Nat} {lim hi mi : Int} {L M : List Ent} {S : Value} (h : PS w c m r q B lim k hi mi L M S) (hk : k ≤ k') : PS w c m r q B lim k' hi mi L M S := ⟨h.cx.mono hk, h.rl, h.ty, h.same⟩
theorem PS.fp_lt {w : World} {c m r q B k : Nat} {lim hi mi : Int} {L M : List Ent} {S : Value} (h : PS w c m r q B lim k hi mi L M S) {j : Nat} (hj : Fp c m r q L M S j) : B ≤ j ∧ j < w.heap.size := by
  rcases hj with (hj | hj) | ⟨x, hx, ad, e, hp, rfl⟩ | ⟨x, hx, ad, e, hp, rfl⟩
  · exact ⟨cx_base h.cx j hj, h.cx.own_lt hj⟩
  · refine ⟨?_, h.rl.wr_lt hj⟩
    rcases hj with rfl | hj
    · exact h.rl.low
    · exact Kd.Q_base h.rl.row j hj
  · obtain ⟨hb, cs, fz, hc⟩ := h.ty x hx ad e hp
    exact ⟨hb, blk_lt hc⟩
  · obtain ⟨hb, cs, fz, hc⟩ := h.rl.far x hx ad e hp
    exact ⟨hb, blk_lt hc⟩
theorem after_cache {w w' : World} {c m r q B k : Nat} {lim hi mi : Int} {L L' M : List Ent} {S : Value} (h : PS w c m r q B lim k hi mi L M S) (hf : Fr (Own c m r L) w w')
    (hn : ∀ x ∈ L', x ∈ L ∨ ∀ ad, x.A = some ad → 0 < x.val.length → B ≤ ad.block ∧ ∃ cs fz, w'.heap[ad.block]? = some (.cells cs 5 fz)) : RL w' q B lim hi mi S M ∧ Ty5 w' B L' := by
  refine ⟨h.rl.fr hf (fun j hj => wr_own h.cx h.rl hj) (own_val h.cx h.rl.far), fun x hx ad e hp => ?_⟩
  rcases hn x hx with hx | hx
  · obtain ⟨hb, cs, fz, hc⟩ := h.ty x hx ad e hp
    exact ⟨hb, cs, fz, (hf.block ad.block (blk_lt hc) (own_val h.cx h.ty x hx ad e hp)).trans hc⟩
  · exact hx ad e hp
theorem after_ref {w w' : World} {c m r q B k : Nat} {lim hi mi hi' mi' : Int} {L M : List Ent} {S : Value} (hcx : CX w c m r B lim k hi mi L) (hty : Ty5 w B L) (hrl : RL w q B lim hi' mi' S M) (hf : Fr (Wr q S) w w') : CX w' c m r B lim k hi mi L ∧ Ty5 w' B L :=
  ⟨cx_fr hcx hf (fun j hj hw => wr_own hcx hrl hw hj) (wr_val hrl hty), hty.fr hf (wr_val hrl hty)⟩
theorem fp_sub {c m r q N : Nat} {L L' M M' : List Ent} {S S' : Value} (hL : ∀ x ∈ L', x ∈ L ∨ (N ≤ x.b ∧ ∀ ad, x.A = some ad → 0 < x.val.length → N ≤ ad.block)) (hM : ∀ x ∈ M', x ∈ M ∨ ∀ ad, x.A = some ad → 0 < x.val.length → N ≤ ad.block)
    (hS : ∀ k, Wr q S' k → Wr q S k ∨ N ≤ k) : ∀ j, Fp c m r q L' M' S' j → Fp c m r q L M S j ∨ N ≤ j := by
  intro j hj
  rcases hj with (hj | hj) | ⟨x, hx, ad, e, hp, rfl⟩ | ⟨x, hx, ad, e, hp, rfl⟩
  · rcases hj with hj | hj | hj | ⟨x, hx, rfl⟩
    · exact .inl (.inl (.inl (.inl hj)))
    · exact .inl (.inl (.inl (.inr (.inl hj))))
    · exact .inl (.inl (.inl (.inr (.inr (.inl hj)))))
    · rcases hL x hx with hx | hx
      · exact .inl (.inl (.inl (.inr (.inr (.inr ⟨x, hx, rfl⟩)))))
      · exact .inr hx.1
  · rcases hS j hj with h | h
    · exact .inl (.inl (.inr h))
    · exact .inr h
  · rcases hL x hx with hx | hx
    · exact .inl (.inr (.inl ⟨x, hx, ad, e, hp, rfl⟩))
    · exact .inr (hx.2 ad e hp)
  · rcases hM x hx with hx | hx
    · exact .inl (.inr (.inr ⟨x, hx, ad, e, hp, rfl⟩))
    · exact .inr (hx ad e hp)
/-- Put, with what is known of the new element's bytes -/
theorem cx_put {w : World} {c m r B k : Nat} {lim hi mi : Int} {L : List Ent} (h : CX w c m r B lim k hi mi L) (hk : k ≤ 1000000) (hB : B ≤ w.heap.size) (s : ByteArray) (A : Option Addr) (cc : Nat) (xs : List Int) (hs : s.size + xs.length ≤ 9223372036854775807)
    (hbig : ¬ lim < (s.size : Int) + xs.length) (hC : (Kd.int .u8).C w A xs.length xs) (hc : xs.length ≤ cc) (hl : xs.length ≤ 140737488351232) :
    Calls Try.prog 10 #[PT c, .string s, .slice A xs.length cc] w fun e w' => e = .returned (.int .i64 0) ∧ ∃ x : Ent, x.key = s ∧ x.val = xs ∧ w.heap.size ≤ x.b ∧ CX w' c m r B lim (k + 1) hi mi (evict lim (s.size + xs.length) (but s L) ++ [x]) ∧ Fr (Own c m r L) w w' ∧
      (∀ ad, x.A = some ad → 0 < x.val.length → w.heap.size ≤ ad.block ∧ ∃ cs fz, w'.heap[ad.block]? = some (.cells cs 5 fz)) := by
  obtain ⟨nn, h, h1, h2, h3, h4, h5⟩ := h
  refine (put_more c m r nn lim hi mi L s A cc xs w h (by simp only [maxLen]; omega) hs hbig hC hc hl).mono ?_
  rintro e w' ⟨rfl, x, k1, v1, g1, hh, hf, hty⟩
  refine ⟨rfl, x, k1, v1, g1, ⟨nn + 1, hh, by omega, ?_, ⟨h3.1, by omega⟩, ⟨h4.1, by omega⟩, ?_⟩, hf, fun ad e hp => hty ad e (by rw [← v1]; exact hp)⟩
  · have e1 := evict_len lim (s.size + xs.length) (but s L)
    have e2 := but_len s L
    simp only [List.length_append, List.length_cons, List.length_nil]
    omega
  · intro j hj
    rcases hj with hj | hj | hj | ⟨y, hy, hj⟩
    · exact h5 j (.inl hj)
    · exact h5 j (.inr (.inl hj))
    · exact h5 j (.inr (.inr (.inl hj)))
    · rcases List.mem_append.1 hy with hy | hy
      · exact h5 j (.inr (.inr (.inr ⟨y, (List.mem_filter.1 (evict_sub y hy)).1, hj⟩)))
      · simp at hy
        subst hy
        omega
theorem cx_big {w : World} {c m r B k : Nat} {lim hi mi : Int} {L : List Ent} (h : CX w c m r B lim k hi mi L) (s : ByteArray) (A : Option Addr) (cc : Nat) (xs : List Int) (hs : s.size + xs.length ≤ 9223372036854775807)
    (hbig : lim < (s.size : Int) + xs.length) (hC : (Kd.int .u8).C w A xs.length xs) (hc : xs.length ≤ cc) (hl : xs.length ≤ 140737488351232) :
    Calls Try.prog 10 #[PT c, .string s, .slice A xs.length cc] w fun e w' => e = .returned (.int .i64 6) ∧ Below w.heap.size w w' := by
  obtain ⟨nn, h, _⟩ := h
  exact Pb.put_big c m r nn lim hi mi L s A cc xs w h hs hbig hC hc hl
/-- bytes of the call's own, as a block -/
theorem ints_blk {w : World} {base n c : Nat} {ok : Nat → Prop} {A : Option Addr} {xs : List Int} (h : (Kd.int .u8).R 5 w base ok (.slice A n c) xs) (hn : 0 < n) :
    ∃ gb cur, A = some ⟨gb, 0, none⟩ ∧ base ≤ gb ∧ gb < w.heap.size ∧ w.heap[gb]? = some (.cells cur 5 (0, 0)) ∧ ∀ i, i < n → ∃ v, cur[i]? = some (.int .u8 v) := by
  obtain ⟨h1, _, _⟩ := Kd.R_reads' h
  have ho := Kd.own_of_R h
  rcases ho.2 with ⟨_, h0⟩ | ⟨g, cap, cur, hv, hb, hg, hnc, hcm, hcs, ht⟩
  · omega
  · injection hv with hv1 hv2 hv3
    refine ⟨g, cur, hv1, hb, blk_lt hg, hg, fun i hi => ?_⟩
    have h2 : (cur.toList.take (xs.length * 1))[i]? = some (.int .u8 xs[i]) := by
      rw [ht]
      simp [encs, List.getElem?_eq_getElem (show i < xs.length by omega)]
    rw [List.getElem?_take] at h2
    split at h2
    · exact ⟨_, by rw [← h2]; simp⟩
    · cases h2
end Go.Proofs.Yteiejkkgckdihaa.Ps
