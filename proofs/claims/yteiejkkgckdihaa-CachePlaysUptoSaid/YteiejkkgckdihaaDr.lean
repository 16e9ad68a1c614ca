/- Drop, walked. -/
import Derived.Test.YteiejkkgckdihaaCa
namespace Go.Proofs.Yteiejkkgckdihaa.Dr
set_option linter.unusedVariables false
open Go.RowKit Go.Proofs.YteiejkkgckdihaaW.PrintWords Go.Proofs.YteiejkkgckdihaaW.PrintLast Go.Proofs.YteiejkkgckdihaaW.PrintMore Go.Proofs.Yteiejkkgckdihaa.Fr Go.Proofs.Yteiejkkgckdihaa.Rg Go.Proofs.Yteiejkkgckdihaa.Rk Go.Proofs.Yteiejkkgckdihaa.Mp Go.Proofs.Yteiejkkgckdihaa.Ca
/-! what stands apart -/
theorem _root_.Go.Proofs.Yteiejkkgckdihaa.Ca.CL.cr {w : World} {c m r n : Nat} {lim hi mi : Int} {L : List Ent} (h : CL w c m r n lim hi mi L) : c ≠ r := by
  intro e
  have h1 := h.blk
  have h2 := h.ring.root
  unfold Blk at h1
  unfold Root at h2
  rw [e, h2] at h1
  simp at h1
theorem _root_.Go.Proofs.Yteiejkkgckdihaa.Ca.CL.cx {w : World} {c m r n : Nat} {lim hi mi : Int} {L : List Ent} (h : CL w c m r n lim hi mi L) : ∀ x ∈ L, x.b ≠ c := by
  intro x hx e
  obtain ⟨a, b, h2⟩ := seg_mem h.ring.seg x hx
  have h1 := h.blk
  unfold Blk at h1
  unfold Rg.Node at h2
  rw [e, h1] at h2
  simp at h2
theorem _root_.Go.Proofs.Yteiejkkgckdihaa.Ca.CL.cm {w : World} {c m r n : Nat} {lim hi mi : Int} {L : List Ent} (h : CL w c m r n lim hi mi L) : c ≠ m := by
  intro e
  obtain ⟨es, cl, h2⟩ := h.map.obj
  have h1 := h.blk
  unfold Blk at h1
  rw [e, h2] at h1
  simp at h1
theorem _root_.Go.Proofs.Yteiejkkgckdihaa.Ca.CL.rm {w : World} {c m r n : Nat} {lim hi mi : Int} {L : List Ent} (h : CL w c m r n lim hi mi L) : r ≠ m := by
  intro e
  obtain ⟨es, cl, h2⟩ := h.map.obj
  have h1 := h.ring.root
  unfold Root at h1
  rw [e, h2] at h1
  simp at h1
theorem _root_.Go.Proofs.Yteiejkkgckdihaa.Ca.CL.xm {w : World} {c m r n : Nat} {lim hi mi : Int} {L : List Ent} (h : CL w c m r n lim hi mi L) : ∀ x ∈ L, x.b ≠ m := by
  intro x hx e
  obtain ⟨es, cl, h2⟩ := h.map.obj
  obtain ⟨a, b, h1⟩ := seg_mem h.ring.seg x hx
  unfold Rg.Node at h1
  rw [e, h2] at h1
  simp at h1
/-! the list of elements, looked through -/
theorem look_none {L : List Ent} {s : ByteArray} (h : lookE L s = none) : ∀ x ∈ L, x.key ≠ s := by
  intro x hx e
  unfold lookE at h
  simp only [Option.map_eq_none_iff, List.find?_eq_none] at h
  exact h x hx (by simp [e])
theorem look_split {L : List Ent} {s : ByteArray} {b : Nat} (h : lookE L s = some b) : ∃ X n Y, L = X ++ n :: Y ∧ n.key = s ∧ n.b = b ∧ ∀ x ∈ X, x.key ≠ s := by
  unfold lookE at h
  cases hf : L.find? (fun x => decide (x.key = s)) with
  | none => rw [hf] at h; simp at h
  | some n =>
    rw [hf] at h
    simp at h
    obtain ⟨h1, X, Y, h2, h3⟩ := List.find?_eq_some_iff_append.1 hf
    exact ⟨X, n, Y, h2, by simpa using h1, h, fun x hx => by simpa using h3 x hx⟩
theorem look_cons (x : Ent) (L : List Ent) (s : ByteArray) : lookE (x :: L) s = if x.key = s then some x.b else lookE L s := by
  unfold lookE
  by_cases h : x.key = s <;> simp [h]
theorem look_app (X Y : List Ent) (s : ByteArray) : lookE (X ++ Y) s = (lookE X s).or (lookE Y s) := by
  unfold lookE
  rw [List.find?_append]
  cases X.find? (fun x => decide (x.key = s)) <;> simp
theorem look_not {L : List Ent} {s : ByteArray} (h : ∀ x ∈ L, x.key ≠ s) : lookE L s = none := by
  unfold lookE
  simp only [Option.map_eq_none_iff, List.find?_eq_none]
  intro x hx
  simp [h x hx]
/-- one element out -/
theorem look_out {X Y : List Ent} {n : Ent} (h : ((X ++ n :: Y).map (·.key)).Nodup) : (fun s => if s = n.key then none else lookE (X ++ n :: Y) s) = lookE (X ++ Y) := by
  funext s
  rw [List.map_append, List.map_cons, List.nodup_append] at h
  obtain ⟨h1, h2, h3⟩ := h
  have h2' := List.nodup_cons.1 h2
  by_cases hs : s = n.key
  · subst hs
    rw [if_pos rfl, look_not]
    intro x hx e
    rcases List.mem_append.1 hx with hx | hx
    · exact h3 x.key (List.mem_map_of_mem hx) n.key (by simp) e
    · exact h2'.1 (by rw [← e]; exact List.mem_map_of_mem hx)
  · rw [if_neg hs, look_app, look_app, look_cons, if_neg (fun e => hs e.symm)]
/-- one element in -/
theorem look_in {L : List Ent} {n : Ent} (h : ∀ x ∈ L, x.key ≠ n.key) : (fun s => if s = n.key then some n.b else lookE L s) = lookE (L ++ [n]) := by
  funext s
  rw [look_app, look_cons]
  by_cases hs : s = n.key
  · subst hs
    rw [if_pos rfl, look_not h]
    simp
  · rw [if_neg hs, if_neg (fun e => hs e.symm)]
    cases lookE L s <;> simp [lookE]
theorem used_app (X Y : List Ent) : used (X ++ Y) = used X + used Y := by simp [used]
theorem used_cons (x : Ent) (Y : List Ent) : used (x :: Y) = esz x + used Y := by simp [used]
theorem own_sub {c m r : Nat} {X Y : List Ent} {n : Ent} {k : Nat} (h : Own c m r (X ++ Y) k) : Own c m r (X ++ n :: Y) k := by
  rcases h with h | h | h | ⟨x, hx, h⟩
  · exact .inl h
  · exact .inr (.inl h)
  · exact .inr (.inr (.inl h))
  · refine .inr (.inr (.inr ⟨x, ?_, h⟩))
    rcases List.mem_append.1 hx with hx | hx <;> simp [hx]
theorem mem_sub {X Y : List Ent} {n x : Ent} (h : x ∈ X ++ Y) : x ∈ X ++ n :: Y := by
  rcases List.mem_append.1 h with hx | hx <;> simp [hx]
end Go.Proofs.Yteiejkkgckdihaa.Dr
