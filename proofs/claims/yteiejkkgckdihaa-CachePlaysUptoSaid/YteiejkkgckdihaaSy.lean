/- What CacheStays asks, as a law of lists: what was put last, and used when. -/
import Derived.Test.YteiejkkgckdihaaMv
namespace Go.Proofs.Yteiejkkgckdihaa.Sy
set_option linter.unusedVariables false
open Go.RowKit Go.Proofs.YteiejkkgckdihaaW.PrintWords Go.Proofs.Yteiejkkgckdihaa.Rg Go.Proofs.Yteiejkkgckdihaa.Mp Go.Proofs.Yteiejkkgckdihaa.Ca Go.Proofs.Yteiejkkgckdihaa.Dr Go.Proofs.Yteiejkkgckdihaa.Dw Go.Proofs.Yteiejkkgckdihaa.Pu Go.Proofs.Yteiejkkgckdihaa.Cx Go.Proofs.Yteiejkkgckdihaa.Mv
structure Inv (k : Int) (L : List Ent) (la : ByteArray → ByteArray) (us : ByteArray → Int) : Prop where
  val : ∀ x ∈ L, la x.key = strOfNums x.val
  pos : ∀ x ∈ L, 0 < us x.key
  asc : L.Pairwise (fun a b => us a.key < us b.key)
  top : ∀ s, 0 ≤ us s ∧ us s ≤ k
  out : ∀ s, (∀ x ∈ L, x.key ≠ s) → ∀ x ∈ L, us s ≤ us x.key
theorem Inv.start (la : ByteArray → ByteArray) : Inv 0 [] la (fun _ => 0) := ⟨by simp, by simp, by simp, by simp, by simp⟩
theorem Inv.mono {k k' : Int} {L : List Ent} {la : ByteArray → ByteArray} {us : ByteArray → Int} (h : Inv k L la us) (hk : k ≤ k') : Inv k' L la us :=
  ⟨h.val, h.pos, h.asc, fun s => ⟨(h.top s).1, Int.le_trans (h.top s).2 hk⟩, h.out⟩
theorem evict_app (lim : Int) (sz : Nat) : ∀ L : List Ent, ∃ D, L = D ++ evict lim sz L
  | [] => ⟨[], rfl⟩
  | x :: L => by
    unfold evict
    split
    · obtain ⟨D, h⟩ := evict_app lim sz L
      exact ⟨x :: D, by rw [List.cons_append, ← h]⟩
    · exact ⟨[], rfl⟩
theorem but_mem {s : ByteArray} {L : List Ent} {y : Ent} : y ∈ but s L ↔ y ∈ L ∧ y.key ≠ s := by
  unfold but
  rw [List.mem_filter]
  simp
theorem Inv.put {k : Int} {L : List Ent} {la : ByteArray → ByteArray} {us : ByteArray → Int} (h : Inv k L la us) (hk : 0 ≤ k) (lim : Int) (sz : Nat) (x : Ent) :
    Inv (k + 1) (evict lim sz (but x.key L) ++ [x]) (upd la x.key (strOfNums x.val)) (upd us x.key (k + 1)) := by
  obtain ⟨D, hD⟩ := evict_app lim sz (but x.key L)
  obtain ⟨E, hE⟩ : ∃ E, E = evict lim sz (but x.key L) := ⟨_, rfl⟩
  rw [← hE] at hD ⊢
  have hin : ∀ y ∈ E, y ∈ L ∧ y.key ≠ x.key := fun y hy => but_mem.1 (by rw [hD]; exact List.mem_append_right _ hy)
  have hpw : (D ++ E).Pairwise (fun a b => us a.key < us b.key) := by rw [← hD]; exact h.asc.sublist List.filter_sublist
  have hu : ∀ y ∈ E, upd us x.key (k + 1) y.key = us y.key := fun y hy => upd_other _ _ (hin y hy).2
  refine ⟨?_, ?_, ?_, ?_, ?_⟩
  · intro y hy
    rcases List.mem_append.1 hy with hy | hy
    · rw [upd_other _ _ (hin y hy).2]; exact h.val y (hin y hy).1
    · simp at hy; subst hy; rw [upd_same]
  · intro y hy
    rcases List.mem_append.1 hy with hy | hy
    · rw [hu y hy]; exact h.pos y (hin y hy).1
    · simp at hy; subst hy; rw [upd_same]; omega
  · rw [List.pairwise_append]
    refine ⟨?_, by simp, ?_⟩
    · refine (List.pairwise_append.1 hpw).2.1.imp_of_mem ?_
      intro a b ha hb hab
      rw [hu a ha, hu b hb]; exact hab
    · intro a ha b hb
      simp at hb
      subst hb
      rw [hu a ha, upd_same]
      have := (h.top a.key).2
      omega
  · intro s
    by_cases hs : s = x.key
    · subst hs; rw [upd_same]; omega
    · rw [upd_other _ _ hs]
      have := h.top s
      omega
  · intro s hs y hy
    have hsx : s ≠ x.key := fun e => hs x (by simp) e.symm
    rw [upd_other _ _ hsx]
    rcases List.mem_append.1 hy with hy | hy
    · rw [hu y hy]
      by_cases hL : ∀ z ∈ L, z.key ≠ s
      · exact h.out s hL y (hin y hy).1
      · have : ∃ z ∈ L, z.key = s := by
          refine Classical.byContradiction fun hn => hL fun z hz e => hn ⟨z, hz, e⟩
        obtain ⟨z, hz, rfl⟩ := this
        have hzb : z ∈ D ++ E := by rw [← hD]; exact but_mem.2 ⟨hz, hsx⟩
        rcases List.mem_append.1 hzb with hz2 | hz2
        · exact Int.le_of_lt ((List.pairwise_append.1 hpw).2.2 z hz2 y hy)
        · exact absurd rfl (hs z (List.mem_append_left _ hz2))
    · simp at hy; subst hy; rw [upd_same]
      have := (h.top s).2
      omega
theorem Inv.get {k : Int} {X Y : List Ent} {n : Ent} {la : ByteArray → ByteArray} {us : ByteArray → Int} (h : Inv k (X ++ n :: Y) la us) (hn : ((X ++ n :: Y).map (·.key)).Nodup) (hk : 0 ≤ k) :
    Inv (k + 1) (X ++ Y ++ [n]) la (upd us n.key (k + 1)) := by
  have hin : ∀ y ∈ X ++ Y, y ∈ X ++ n :: Y ∧ y.key ≠ n.key := by
    intro y hy
    rw [← but_mid hn] at hy
    exact but_mem.1 hy
  have hpw : (X ++ Y).Pairwise (fun a b => us a.key < us b.key) := h.asc.sublist ((List.Sublist.refl X).append (List.sublist_cons_self n Y))
  have hu : ∀ y ∈ X ++ Y, upd us n.key (k + 1) y.key = us y.key := fun y hy => upd_other _ _ (hin y hy).2
  have hmem : ∀ y ∈ X ++ Y ++ [n], y ∈ X ++ n :: Y := by
    intro y hy
    simp at hy ⊢
    rcases hy with hy | hy | hy
    · exact .inl hy
    · exact .inr (.inr hy)
    · exact .inr (.inl hy)
  refine ⟨fun y hy => h.val y (hmem y hy), ?_, ?_, ?_, ?_⟩
  · intro y hy
    rcases List.mem_append.1 hy with hy | hy
    · rw [hu y hy]; exact h.pos y (hin y hy).1
    · simp at hy; subst hy; rw [upd_same]; omega
  · rw [List.pairwise_append]
    refine ⟨?_, by simp, ?_⟩
    · refine hpw.imp_of_mem ?_
      intro a b ha hb hab
      rw [hu a ha, hu b hb]; exact hab
    · intro a ha b hb
      simp only [List.mem_singleton] at hb
      subst hb
      rw [hu a ha, upd_same]
      have := (h.top a.key).2
      omega
  · intro s
    by_cases hs : s = n.key
    · subst hs; rw [upd_same]; omega
    · rw [upd_other _ _ hs]
      have := h.top s
      omega
  · intro s hs y hy
    have hsx : s ≠ n.key := fun e => hs n (by simp) e.symm
    rw [upd_other _ _ hsx]
    rcases List.mem_append.1 hy with hy | hy
    · rw [hu y hy]
      refine h.out s (fun z hz => ?_) y (hin y hy).1
      refine hs z ?_
      simp at hz ⊢
      rcases hz with hz | hz | hz
      · exact .inl hz
      · exact .inr (.inr hz)
      · exact .inr (.inl hz)
    · simp only [List.mem_singleton] at hy; subst hy; rw [upd_same]
      have := (h.top s).2
      omega
theorem Inv.drop {k : Int} {L : List Ent} {la : ByteArray → ByteArray} {us : ByteArray → Int} (h : Inv k L la us) (hk : 0 ≤ k) (s : ByteArray) : Inv (k + 1) (but s L) la (upd us s 0) := by
  have hin : ∀ y ∈ but s L, y ∈ L ∧ y.key ≠ s := fun y hy => but_mem.1 hy
  have hu : ∀ y ∈ but s L, upd us s 0 y.key = us y.key := fun y hy => upd_other _ _ (hin y hy).2
  refine ⟨fun y hy => h.val y (hin y hy).1, ?_, ?_, ?_, ?_⟩
  · intro y hy
    rw [hu y hy]; exact h.pos y (hin y hy).1
  · refine (h.asc.sublist List.filter_sublist : (but s L).Pairwise _).imp_of_mem ?_
    intro a b ha hb hab
    rw [hu a ha, hu b hb]; exact hab
  · intro t
    by_cases hs : t = s
    · subst hs; rw [upd_same]; omega
    · rw [upd_other _ _ hs]
      have := h.top t
      omega
  · intro t ht y hy
    rw [hu y hy]
    by_cases hs : t = s
    · subst hs; rw [upd_same]
      exact Int.le_of_lt (h.pos y (hin y hy).1)
    · rw [upd_other _ _ hs]
      refine h.out t (fun z hz e => ?_) y (hin y hy).1
      exact ht z (but_mem.2 ⟨hz, by rw [e]; exact hs⟩) e
theorem look_no {L : List Ent} {s : ByteArray} (h : (lookE L s).isSome = false) : ∀ x ∈ L, x.key ≠ s := by
  intro x hx e
  unfold lookE at h
  rw [Option.isSome_map] at h
  simp at h
  exact h x hx e
end Go.Proofs.Yteiejkkgckdihaa.Sy
