/- Maps from whole numbers to plain elements: what a lookup reads, what a store leaves. -/
import Derived.Test.YtdohacnjngkkiaaFr
import Derived.Test.YtdohacnjngkkiaaA0
import Derived.Maps.Own
import Derived.Maps.OwnSet
import Derived.Maps.OwnOps
namespace Go.Proofs.Ytdohacnjngkkiaa.Mv
set_option linter.unusedVariables false
open Go.RowKit Go.Proofs.YtdohacnjngkkiaaW.PrintWords Go.Proofs.YtdohacnjngkkiaaW.PrintLast Go.Proofs.YtdohacnjngkkiaaW.PrintMore Go.Proofs.Ytdohacnjngkkiaa.Fr
def KL (n : Int) : Lit := .int .i64 n
theorem KL_inj {s t : Int} (h : KL s = KL t) : s = t := by
  unfold KL at h
  injection h with h
theorem KL_lit (s : Int) : WideAt.IsKeyLit (KL s) := trivial
theorem keyed : Go.Maps.Keyed Try.prog 3 := Go.Maps.int_keyed Try.underlying3
theorem key_of {n : Int} (h : (Lit.int .i64 n).wf = true) : keyOf Try.prog 3 (.int .i64 n) = some (KL n) := Go.Maps.keyOf_int_mk Try.underlying3 h
/-- a kind of element: how it lies, how it reads, the zero -/
structure El (α : Type) where
  t : TypeId
  e : TypeId
  enc : α → Value
  lit : α → DataW Unit
  R : Value → Option (DataW Unit × List MemPlace)
  z : α
  put : ∀ x, R (enc x) = some (lit x, [])
  inv : ∀ v x ps, R v = some (lit x, ps) → v = enc x
  ht : Try.prog.underlying t = some (.map 3 e)
  hz : ∀ w : World, (zeroValue e).run Try.prog w = .ok (enc z) w
variable {α : Type} (E : El α)
def upd (F : Int → α) (k : Int) (x : α) : Int → α := fun s => if s = k then x else F s
theorem upd_same (F : Int → α) (k : Int) (x : α) : upd F k x k = x := by simp [upd]
theorem upd_other (F : Int → α) {s k : Int} (x : α) (h : s ≠ k) : upd F k x s = F s := by simp [upd, h]
/-- the map at block m reads as F -/
def El.M (w : World) (m n : Nat) (F : Int → α) : Prop := ∃ D : DataW Unit, w.ownsMap Try.prog 3 E.R m n D ∧ ∀ s, D.atKey (KL s) (E.lit E.z) = E.lit (F s)
variable {E}
theorem El.M.frame {w w' : World} {m n : Nat} {F : Int → α} (h : E.M w m n F) (hb : w'.heap[m]? = w.heap[m]?) : E.M w' m n F := by
  obtain ⟨D, ⟨es, clock, e1, r⟩, hS⟩ := h
  exact ⟨D, ⟨es, clock, hb.trans e1, r⟩, hS⟩
theorem El.M.lt {w : World} {m n : Nat} {F : Int → α} (h : E.M w m n F) : m < w.heap.size := by
  obtain ⟨D, hD, _⟩ := h
  exact hD.lt
theorem El.M.obj {w : World} {m n : Nat} {F : Int → α} (h : E.M w m n F) : ∃ es clock, w.heap[m]? = some (.map es clock) := by
  obtain ⟨D, ⟨es, clock, hb, _⟩, _⟩ := h
  exact ⟨es, clock, hb⟩
theorem El.M.mono {w : World} {m n n' : Nat} {F : Int → α} (h : E.M w m n F) (hn : n ≤ n') : E.M w m n' F := by
  obtain ⟨D, hD, hS⟩ := h
  exact ⟨D, hD.mono hn, hS⟩
theorem El.M.made (w : World) : E.M (w.alloc (.map #[] 0)) w.heap.size 0 (fun _ => E.z) := ⟨_, World.ownsMap_made w Try.prog 3 E.R, fun s => rfl⟩
theorem El.M.below {w w' : World} {m n : Nat} {F : Int → α} (h : E.M w m n F) (hb : Below w.heap.size w w') : E.M w' m n F := h.frame (hb.block m h.lt)
theorem El.M.fr {S : Nat → Prop} {w w' : World} {m n : Nat} {F : Int → α} (h : E.M w m n F) (hf : Fr S w w') (hS : ¬ S m) : E.M w' m n F := h.frame (hf.block m h.lt hS)
theorem El.M.look {w : World} {m n : Nat} {F : Int → α} (h : E.M w m n F) {k : Int} (hk : (Lit.int .i64 k).wf = true) :
    (Instr.lookup E.t (.map (some m)) (.int .i64 k) false).run Try.prog w = .ok (E.enc (F k)) w := by
  obtain ⟨D, hD, hS⟩ := h
  obtain ⟨v, ps, hrun, hv⟩ := hD.lookup (t := E.t) (e := E.e) keyed E.ht (E.hz w) (zd := E.lit E.z) (zp := []) (E.put E.z) (key_of hk)
  rw [hS] at hv
  rw [hrun, E.inv _ _ _ hv]
theorem turned_fr {w w' : World} {m : Nat} (h : w.mapTurned w' m) (S : Nat → Prop) (hS : S m) : Fr S w w' := by
  have g := h.grown
  exact ⟨g.os, g.tape, g.output, g.size, fun k hk hn => g.block k hk (fun e => hn (by cases e; exact hS))⟩
theorem El.M.store {w : World} {m n : Nat} {F : Int → α} (h : E.M w m n F) {k : Int} (hk : (Lit.int .i64 k).wf = true) (hn : n < maxLen) (x : α) :
    ∃ w', (Instr.mapUpdate E.t (.map (some m)) (.int .i64 k) (E.enc x)).run Try.prog w = .ok () w' ∧ E.M w' m (n + 1) (upd F k x) ∧ w.mapTurned w' m := by
  obtain ⟨D, hD, hS⟩ := h
  obtain ⟨w', hrun, h1, h2⟩ := hD.store (t := E.t) (e := E.e) keyed E.ht hn (key_of hk) (E.put x)
  refine ⟨w', hrun, ⟨_, h1, fun s => ?_⟩, h2⟩
  by_cases hs : s = k
  · subst hs
    rw [upd_same]
    exact Maps.atKey_put_same hD.isMap (KL_lit s) _ _
  · rw [upd_other _ _ hs, Maps.atKey_put_other (fun e => hs (KL_inj e))]
    exact hS s
/-- truth values -/
def Rb : Value → Option (DataW Unit × List MemPlace)
  | .bool b => some (.lit (.bool b), [])
  | _ => none
def Eb : El Bool where
  t := 38
  e := 4
  enc := Value.bool
  lit := fun s => .lit (.bool s)
  R := Rb
  z := false
  put := fun x => rfl
  inv := by
    intro v x ps h
    unfold Rb at h
    split at h
    · simp at h
      rw [h.1]
    · cases h
  ht := Try.underlying38
  hz := fun w => by kernel_rfl
theorem cell_cells {w : World} {p : Addr} {v : Value} {mm : Nat} (hc : w.cell? p = some v) (hob : ∃ es cl, w.heap[mm]? = some (.map es cl)) : ¬ p.block = mm := by
  intro hb
  obtain ⟨es, cl, hob⟩ := hob
  have hcc : (w.cell? p).isSome = true := by rw [hc]; rfl
  unfold World.cell? at hcc
  rw [hb, hob] at hcc
  simp at hcc
theorem turned_cell {w w' : World} {mm : Nat} (hob : ∃ es cl, w.heap[mm]? = some (.map es cl)) (ht : w.mapTurned w' mm) {p : Addr} {v : Value} (hc : w.cell? p = some v) : w'.cell? p = some v :=
  (turned_fr (S := fun j => j = mm) ht rfl).cell hc (cell_cells hc hob)
end Go.Proofs.Ytdohacnjngkkiaa.Mv
