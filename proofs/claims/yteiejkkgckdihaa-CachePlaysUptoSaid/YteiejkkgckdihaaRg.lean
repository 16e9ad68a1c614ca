/- A ring of nodes that are linked both ways, as it lies in memory: one goes out, one comes in at the end. -/
import Derived.Test.YteiejkkgckdihaaProg
import Derived.Test.YteiejkkgckdihaaFr
namespace Go.Proofs.Yteiejkkgckdihaa.Rg
set_option linter.unusedVariables false
open Go.RowKit Go.Proofs.YteiejkkgckdihaaW.PrintWords Go.Proofs.YteiejkkgckdihaaW.PrintLast Go.Proofs.YteiejkkgckdihaaW.PrintMore Go.Proofs.Yteiejkkgckdihaa.Fr
/-- a pointer to a block -/
abbrev PT (b : Nat) : Value := .pointer (some ⟨b, 0, none⟩)
/-- an element: its node's block, its key, its value's slice and bytes -/
structure Ent where
  b : Nat
  key : ByteArray
  A : Option Addr
  c : Nat
  val : List Int
/-- the first node's block, or that of what stands behind -/
def hd : List Ent → Nat → Nat
  | [], r => r
  | x :: _, _ => x.b
/-- the last node's block, or that of what stands ahead -/
def lst : List Ent → Nat → Nat
  | [], p => p
  | x :: L, _ => lst L x.b
/-- a node in memory -/
def Node (w : World) (x : Ent) (p q : Nat) : Prop := w.heap[x.b]? = some (.cells #[.string x.key, .slice x.A x.val.length x.c, PT p, PT q] 61 (0, 0))
/-- a row of nodes -/
def Seg (w : World) : Nat → List Ent → Nat → Prop
  | _, [], _ => True
  | p, x :: L, r => Node w x p (hd L r) ∧ Seg w x.b L r
/-- the node that is none -/
def Root (w : World) (r p q : Nat) : Prop := w.heap[r]? = some (.cells #[.string ByteArray.empty, .slice none 0 0, PT p, PT q] 61 (0, 0))
/-- a ring -/
structure Ring (w : World) (r : Nat) (L : List Ent) : Prop where
  root : Root w r (lst L r) (hd L r)
  seg : Seg w r L r
  apart : (r :: L.map (·.b)).Nodup
theorem hd_append (X Y : List Ent) (r : Nat) : hd (X ++ Y) r = hd X (hd Y r) := by cases X <;> rfl
theorem lst_append : ∀ (X Y : List Ent) (p : Nat), lst (X ++ Y) p = lst Y (lst X p)
  | [], _, _ => rfl
  | x :: X, Y, p => lst_append X Y x.b
theorem seg_append (w : World) : ∀ (X Y : List Ent) (p r : Nat), Seg w p (X ++ Y) r ↔ Seg w p X (hd Y r) ∧ Seg w (lst X p) Y r
  | [], Y, p, r => by simp [Seg, lst]
  | x :: X, Y, p, r => by
    simp only [List.cons_append, Seg, lst]
    rw [seg_append w X Y x.b r, hd_append]
    exact and_assoc.symm
theorem seg_frame {w w' : World} : ∀ {L : List Ent} {p r : Nat}, Seg w p L r → (∀ x ∈ L, w'.heap[x.b]? = w.heap[x.b]?) → Seg w' p L r
  | [], _, _, _, _ => trivial
  | x :: L, p, r, h, hf => ⟨(hf x (by simp)).trans h.1, seg_frame h.2 (fun y hy => hf y (by simp [hy]))⟩
theorem seg_mem {w : World} : ∀ {L : List Ent} {p r : Nat}, Seg w p L r → ∀ x ∈ L, ∃ a b, Node w x a b
  | x :: L, p, r, h, y, hy => by
    rcases List.mem_cons.1 hy with rfl | hy
    · exact ⟨_, _, h.1⟩
    · exact seg_mem h.2 y hy
/-- a row's last link turned -/
theorem seg_last {w w' : World} {X : List Ent} {p a a' : Nat} (h : Seg w p X a) (hn : (X.map (·.b)).Nodup) (hne : X ≠ [])
    (hl : ∀ cs t, w.heap[lst X p]? = some (.cells cs t (0, 0)) → w'.heap[lst X p]? = some (.cells (cs.setIfInBounds 3 (PT a')) t (0, 0)))
    (ho : ∀ x ∈ X, x.b ≠ lst X p → w'.heap[x.b]? = w.heap[x.b]?) : Seg w' p X a' := by
  obtain ⟨X0, z, rfl⟩ : ∃ X0 z, X = X0 ++ [z] := ⟨X.dropLast, X.getLast hne, (List.dropLast_concat_getLast hne).symm⟩
  rw [lst_append] at hl ho
  simp only [lst] at hl ho
  rw [seg_append] at h ⊢
  simp only [Seg, hd] at h ⊢
  rw [List.map_append, List.nodup_append] at hn
  refine ⟨seg_frame h.1 (fun x hx => ho x (by simp [hx]) (fun e => hn.2.2 x.b (List.mem_map_of_mem hx) z.b (by simp) e)), ?_, trivial⟩
  have := hl _ _ h.2.1
  unfold Node
  rw [this]
  rfl
/-- a row's first link turned -/
theorem seg_first {w w' : World} {Y : List Ent} {p p' r : Nat} (h : Seg w p Y r) (hn : (Y.map (·.b)).Nodup) (hne : Y ≠ [])
    (hl : ∀ cs t, w.heap[hd Y r]? = some (.cells cs t (0, 0)) → w'.heap[hd Y r]? = some (.cells (cs.setIfInBounds 2 (PT p')) t (0, 0)))
    (ho : ∀ x ∈ Y, x.b ≠ hd Y r → w'.heap[x.b]? = w.heap[x.b]?) : Seg w' p' Y r := by
  cases Y with
  | nil => exact absurd rfl hne
  | cons y Y =>
    simp only [hd] at hl ho
    simp only [Seg] at h ⊢
    simp only [List.map_cons, List.nodup_cons] at hn
    refine ⟨?_, seg_frame h.2 (fun x hx => ho x (by simp [hx]) (fun e => hn.1 (by rw [← e]; exact List.mem_map_of_mem hx)))⟩
    have := hl _ _ h.1
    unfold Node
    rw [this]
    rfl
theorem lst_mem : ∀ (X : List Ent) (p : Nat), X ≠ [] → ∃ x ∈ X, lst X p = x.b
  | [x], p, _ => ⟨x, by simp, rfl⟩
  | x :: y :: L, p, _ => by
    obtain ⟨z, hz, e⟩ := lst_mem (y :: L) x.b (by simp)
    exact ⟨z, by simp only [List.mem_cons] at hz ⊢; exact .inr hz, e⟩
theorem hd_mem (Y : List Ent) (r : Nat) (h : Y ≠ []) : ∃ y ∈ Y, hd Y r = y.b := by
  cases Y with
  | nil => exact absurd rfl h
  | cons y Y => exact ⟨y, by simp, rfl⟩
/-- two links turned: what a block is then -/
theorem heap_two {w : World} {p q b : Nat} {u v : Value} {cs : Array Value} {t : TypeId} (h : w.heap[b]? = some (.cells cs t (0, 0))) :
    ((w.setCell ⟨p, 3, none⟩ u).setCell ⟨q, 2, none⟩ v).heap[b]? = some (.cells ((if b = q then fun c : Array Value => c.setIfInBounds 2 v else id) ((if b = p then fun c : Array Value => c.setIfInBounds 3 u else id) cs)) t (0, 0)) := by
  have h1 : (w.setCell ⟨p, 3, none⟩ u).heap[b]? = some (.cells ((if b = p then fun c : Array Value => c.setIfInBounds 3 u else id) cs) t (0, 0)) := by
    by_cases hp : b = p
    · subst hp; rw [if_pos rfl]; exact blk_set h 3 u
    · rw [if_neg hp]; exact blk_far h hp u
  by_cases hq : b = q
  · subst hq; rw [if_pos rfl]; exact blk_set h1 2 v
  · rw [if_neg hq]; exact blk_far h1 hq v
theorem heap_two_far {w : World} {p q b : Nat} {u v : Value} (hp : b ≠ p) (hq : b ≠ q) : ((w.setCell ⟨p, 3, none⟩ u).setCell ⟨q, 2, none⟩ v).heap[b]? = w.heap[b]? :=
  (Below.heap_setCell _ ⟨q, 2, none⟩ v b hq).trans (Below.heap_setCell _ ⟨p, 3, none⟩ u b hp)
/-- one goes out: its neighbours are linked -/
theorem Ring.out {w : World} {r : Nat} {X Y : List Ent} {n : Ent} (h : Ring w r (X ++ n :: Y)) :
    Ring ((w.setCell ⟨lst X r, 3, none⟩ (PT (hd Y r))).setCell ⟨hd Y r, 2, none⟩ (PT (lst X r))) r (X ++ Y) := by
  obtain ⟨hroot, hseg, hap⟩ := h
  rw [seg_append] at hseg
  simp only [Seg, hd] at hseg
  obtain ⟨hX, hn, hY⟩ := hseg
  have hap2 : (r :: (X ++ Y).map (·.b)).Nodup := by
    refine hap.sublist ?_
    refine List.Sublist.cons_cons r ?_
    exact ((List.Sublist.refl X).append (List.sublist_cons_self n Y)).map _
  have hnd := (List.nodup_cons.1 hap2)
  rw [List.map_append] at hnd
  have hrX : ∀ x ∈ X, x.b ≠ r := fun x hx e => hnd.1 (by rw [← e]; exact List.mem_append_left _ (List.mem_map_of_mem hx))
  have hrY : ∀ y ∈ Y, y.b ≠ r := fun y hy e => hnd.1 (by rw [← e]; exact List.mem_append_right _ (List.mem_map_of_mem hy))
  have hXY : ∀ x ∈ X, ∀ y ∈ Y, x.b ≠ y.b := fun x hx y hy => (List.nodup_append.1 hnd.2).2.2 x.b (List.mem_map_of_mem hx) y.b (List.mem_map_of_mem hy)
  have hXn := (List.nodup_append.1 hnd.2).1
  have hYn := (List.nodup_append.1 hnd.2).2.1
  -- the neighbours
  have hpX : ∀ x ∈ X, x.b ≠ hd Y r := by
    intro x hx
    by_cases hY0 : Y = []
    · subst hY0; exact hrX x hx
    · obtain ⟨y, hy, e⟩ := hd_mem Y r hY0
      rw [e]; exact hXY x hx y hy
  have hqY : ∀ y ∈ Y, y.b ≠ lst X r := by
    intro y hy
    by_cases hX0 : X = []
    · subst hX0; exact hrY y hy
    · obtain ⟨x, hx, e⟩ := lst_mem X r hX0
      rw [e]; exact fun e2 => hXY x hx y hy e2.symm
  refine ⟨?_, ?_, hap2⟩
  · -- the root
    unfold Root at hroot ⊢
    have h2 := heap_two (p := lst X r) (q := hd Y r) (u := PT (hd Y r)) (v := PT (lst X r)) hroot
    rw [h2, lst_append, hd_append, lst_append, hd_append]
    by_cases hX0 : X = []
    · subst hX0
      by_cases hY0 : Y = []
      · subst hY0; simp [lst, hd]
      · obtain ⟨y, hy, e⟩ := hd_mem Y r hY0
        have hyr : r ≠ hd Y r := by rw [e]; exact fun e2 => hrY y hy e2.symm
        cases Y with
        | nil => exact absurd rfl hY0
        | cons y0 Y0 => simp [lst, hd] at hyr ⊢; simp [hyr]
    · obtain ⟨x, hx, e⟩ := lst_mem X r hX0
      have hxr : r ≠ lst X r := by rw [e]; exact fun e2 => hrX x hx e2.symm
      by_cases hY0 : Y = []
      · subst hY0
        cases X with
        | nil => exact absurd rfl hX0
        | cons x0 X0 => simp [hd, lst] at hxr ⊢; simp [hxr]
      · obtain ⟨y, hy, e2⟩ := hd_mem Y r hY0
        have hyr : r ≠ hd Y r := by rw [e2]; exact fun e3 => hrY y hy e3.symm
        cases X with
        | nil => exact absurd rfl hX0
        | cons x0 X0 =>
          cases Y with
          | nil => exact absurd rfl hY0
          | cons y0 Y0 => simp [hd, lst] at hxr hyr ⊢; simp [hxr, hyr]
  · rw [seg_append]
    constructor
    · by_cases hX0 : X = []
      · subst hX0; trivial
      · refine seg_last hX hXn hX0 (fun cs t hc => ?_) (fun x hx hne => heap_two_far hne (hpX x hx))
        obtain ⟨x, hx, e⟩ := lst_mem X r hX0
        rw [heap_two hc, if_pos rfl, if_neg (by rw [e]; exact hpX x hx)]; rfl
    · by_cases hY0 : Y = []
      · subst hY0; trivial
      · refine seg_first hY hYn hY0 (fun cs t hc => ?_) (fun y hy hne => heap_two_far (hqY y hy) hne)
        obtain ⟨y, hy, e⟩ := hd_mem Y r hY0
        rw [heap_two hc, if_pos rfl, if_neg (by rw [e]; exact hqY y hy)]; rfl
/-- what a call of put leaves: the node's links, the last one's, the root's -/
def putW (w : World) (r l n : Nat) : World := (((w.setCell ⟨n, 2, none⟩ (PT l)).setCell ⟨n, 3, none⟩ (PT r)).setCell ⟨l, 3, none⟩ (PT n)).setCell ⟨r, 2, none⟩ (PT n)
theorem putW_far {w : World} {r l n b : Nat} (h1 : b ≠ n) (h2 : b ≠ l) (h3 : b ≠ r) : (putW w r l n).heap[b]? = w.heap[b]? :=
  (heap_two_far h2 h3).trans ((Below.heap_setCell _ ⟨n, 3, none⟩ _ b h1).trans (Below.heap_setCell _ ⟨n, 2, none⟩ _ b h1))
theorem putW_n {w : World} {r l n : Nat} {a b c d : Value} {t : TypeId} (h : w.heap[n]? = some (.cells #[a, b, c, d] t (0, 0))) (h1 : n ≠ l) (h2 : n ≠ r) :
    (putW w r l n).heap[n]? = some (.cells #[a, b, PT l, PT r] t (0, 0)) :=
  (heap_two_far h1 h2).trans (blk_put (blk_put h 2 (PT l) rfl) 3 (PT r) rfl)
theorem putW_old {w : World} {r l n b : Nat} {cs : Array Value} {t : TypeId} (h : w.heap[b]? = some (.cells cs t (0, 0))) (h1 : b ≠ n) :
    (putW w r l n).heap[b]? = some (.cells ((if b = r then fun c : Array Value => c.setIfInBounds 2 (PT n) else id) ((if b = l then fun c : Array Value => c.setIfInBounds 3 (PT n) else id) cs)) t (0, 0)) :=
  heap_two (((Below.heap_setCell _ ⟨n, 3, none⟩ _ b h1).trans (Below.heap_setCell _ ⟨n, 2, none⟩ _ b h1)).trans h)
/-- one comes in, at the end -/
theorem Ring.inn {w : World} {r : Nat} {L : List Ent} {n : Ent} (h : Ring w r L) (c d : Value) (hn : w.heap[n.b]? = some (.cells #[.string n.key, .slice n.A n.val.length n.c, c, d] 61 (0, 0))) (hnr : n.b ≠ r) (hnL : ∀ x ∈ L, x.b ≠ n.b) :
    Ring (putW w r (lst L r) n.b) r (L ++ [n]) := by
  obtain ⟨hroot, hseg, hap⟩ := h
  have hnd := List.nodup_cons.1 hap
  have hrL : ∀ x ∈ L, x.b ≠ r := fun x hx e => hnd.1 (by rw [← e]; exact List.mem_map_of_mem hx)
  have hnl : n.b ≠ lst L r := by
    by_cases hL0 : L = []
    · subst hL0; exact hnr
    · obtain ⟨x, hx, e⟩ := lst_mem L r hL0
      rw [e]; exact fun e2 => hnL x hx e2.symm
  refine ⟨?_, ?_, ?_⟩
  · unfold Root at hroot ⊢
    rw [putW_old hroot (fun e => hnr e.symm), lst_append, hd_append]
    by_cases hL0 : L = []
    · subst hL0; simp [lst, hd]
    · obtain ⟨x, hx, e⟩ := lst_mem L r hL0
      have hxr : r ≠ lst L r := by rw [e]; exact fun e2 => hrL x hx e2.symm
      cases L with
      | nil => exact absurd rfl hL0
      | cons x0 L0 => simp [lst, hd] at hxr ⊢; simp [hxr]
  · rw [seg_append]
    constructor
    · by_cases hL0 : L = []
      · subst hL0; trivial
      · obtain ⟨x, hx, e⟩ := lst_mem L r hL0
        refine seg_last hseg hnd.2 hL0 (fun cs t hc => ?_) (fun y hy hne => putW_far (hnL y hy) hne (hrL y hy))
        rw [putW_old hc (fun e2 => hnl e2.symm), if_neg (by rw [e]; exact hrL x hx), if_pos rfl]; rfl
    · exact ⟨putW_n hn hnl hnr, trivial⟩
  · rw [List.map_append]
    refine List.nodup_cons.2 ⟨?_, ?_⟩
    · intro hm
      rcases List.mem_append.1 hm with hm | hm
      · exact hnd.1 hm
      · simp at hm; exact hnr hm.symm
    · refine List.nodup_append.2 ⟨hnd.2, by simp, ?_⟩
      intro a ha b hb
      obtain ⟨x, hx, rfl⟩ := List.mem_map.1 ha
      simp at hb
      subst hb
      exact hnL x hx
theorem Ring.node {w : World} {r : Nat} {X Y : List Ent} {n : Ent} (h : Ring w r (X ++ n :: Y)) : Node w n (lst X r) (hd Y r) := by
  have := h.seg
  rw [seg_append] at this
  exact this.2.1
/-- a ring's links lead to nodes that are others -/
theorem Ring.beside {w : World} {r : Nat} {X Y : List Ent} {n : Ent} (h : Ring w r (X ++ n :: Y)) : lst X r ≠ n.b ∧ hd Y r ≠ n.b := by
  have hnd := List.nodup_cons.1 h.apart
  rw [List.map_append, List.map_cons] at hnd
  have h1 : n.b ≠ r := fun e => hnd.1 (by rw [← e]; simp)
  have hs := List.nodup_append.1 hnd.2
  constructor
  · by_cases hX0 : X = []
    · subst hX0; exact fun e => h1 e.symm
    · obtain ⟨x, hx, e⟩ := lst_mem X r hX0
      rw [e]; exact hs.2.2 x.b (List.mem_map_of_mem hx) n.b (by simp)
  · by_cases hY0 : Y = []
    · subst hY0; exact fun e => h1 e.symm
    · obtain ⟨y, hy, e⟩ := hd_mem Y r hY0
      rw [e]
      have := (List.nodup_cons.1 hs.2.1).1
      exact fun e2 => this (by rw [← e2]; exact List.mem_map_of_mem hy)
/-- what a ring's places hold: the root or a node -/
theorem Ring.place {w : World} {r : Nat} {L : List Ent} (h : Ring w r L) (b : Nat) (hb : b = r ∨ ∃ x ∈ L, b = x.b) : ∃ k v p q, w.heap[b]? = some (.cells #[k, v, p, q] 61 (0, 0)) := by
  rcases hb with rfl | ⟨x, hx, rfl⟩
  · exact ⟨_, _, _, _, h.root⟩
  · obtain ⟨p, q, hn⟩ := seg_mem h.seg x hx
    exact ⟨_, _, _, _, hn⟩
theorem lst_in (X : List Ent) (r : Nat) : lst X r = r ∨ ∃ x ∈ X, lst X r = x.b := by
  by_cases h : X = []
  · subst h; exact .inl rfl
  · exact .inr (lst_mem X r h)
theorem hd_in (Y : List Ent) (r : Nat) : hd Y r = r ∨ ∃ y ∈ Y, hd Y r = y.b := by
  by_cases h : Y = []
  · subst h; exact .inl rfl
  · exact .inr (hd_mem Y r h)
/-- a ring behind a frame that leaves its blocks -/
theorem Ring.frame {w w' : World} {r : Nat} {L : List Ent} (h : Ring w r L) (hr : w'.heap[r]? = w.heap[r]?) (hL : ∀ x ∈ L, w'.heap[x.b]? = w.heap[x.b]?) : Ring w' r L :=
  ⟨hr.trans h.root, seg_frame h.seg hL, h.apart⟩
end Go.Proofs.Yteiejkkgckdihaa.Rg
