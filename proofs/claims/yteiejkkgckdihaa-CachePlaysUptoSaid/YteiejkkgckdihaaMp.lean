/- A map from texts to nodes, as it lies in memory. -/
import Derived.Test.YteiejkkgckdihaaRg
import Derived.Maps.OwnSet
import Derived.Maps.Views
import Derived.StringKeys
import Derived.WalkKit
namespace Go.Proofs.Yteiejkkgckdihaa.Mp
set_option linter.unusedVariables false
open Go.RowKit Go.Proofs.YteiejkkgckdihaaW.PrintWords Go.Proofs.Yteiejkkgckdihaa.Fr Go.Proofs.Yteiejkkgckdihaa.Rg
/-- how a node's pointer reads -/
def Rp : Value → Option (DataW Unit × List MemPlace)
  | .pointer none => some (.nil, [])
  | .pointer (some ⟨b, 0, none⟩) => some (.lit (.int .i64 (b : Int)), [])
  | _ => none
theorem Rp_PT (b : Nat) : Rp (PT b) = some (.lit (.int .i64 (b : Int)), []) := rfl
theorem Rp_nil {v : Value} {ps : List MemPlace} (h : Rp v = some (.nil, ps)) : v = .pointer none := by
  unfold Rp at h
  split at h <;> simp at h
  rfl
theorem Rp_at {v : Value} {ps : List MemPlace} {b : Nat} (h : Rp v = some (.lit (.int .i64 (b : Int)), ps)) : v = PT b := by
  unfold Rp at h
  split at h <;> simp at h
  rename_i b0
  obtain ⟨h, _⟩ := h
  have : b0 = b := by omega
  subst this
  rfl
/-- a text as a key -/
def KL (s : ByteArray) : Lit := .string s.data.toList
theorem KL_inj {s t : ByteArray} (h : KL s = KL t) : s = t := by
  unfold KL at h
  injection h with h
  cases s; cases t
  simp only [ByteArray.mk.injEq]
  exact Array.toList_inj.1 h
theorem KL_lit (s : ByteArray) : WideAt.IsKeyLit (KL s) := trivial
theorem keyed : Go.Maps.Keyed Try.prog 9 := Go.Maps.string_keyed Try.underlying9
theorem key_of {s : ByteArray} (h : s.size ≤ maxLen) : keyOf Try.prog 9 (.string s) = some (KL s) := Go.WideMaps.keyOf_string_mk Try.underlying9 h
theorem zero49 (w : World) : (zeroValue 49).run Try.prog w = .ok (.pointer none) w := by kernel_rfl
/-- the datum has just what F says -/
def Says (D : DataW Unit) (F : ByteArray → Option Nat) : Prop :=
  ∀ s, (∀ b, F s = some b → Maps.has D (KL s) = true ∧ ∀ z, D.atKey (KL s) z = .lit (.int .i64 (b : Int))) ∧ (F s = none → Maps.has D (KL s) = false)
/-- the map at block m has just what F says -/
def MapS (w : World) (m n : Nat) (F : ByteArray → Option Nat) : Prop := ∃ D : DataW Unit, w.ownsMap Try.prog 9 Rp m n D ∧ Says D F
theorem says_put {D : DataW Unit} {F : ByteArray → Option Nat} (h : Says D F) (hD : Maps.IsMap D) (k : ByteArray) (b : Nat) : Says (D.put (KL k) (.lit (.int .i64 (b : Int)))) (fun s => if s = k then some b else F s) := by
  intro s
  by_cases hs : s = k
  · subst hs
    simp only [if_true]
    refine ⟨fun b' hb' => ?_, fun h => (by cases h)⟩
    cases hb'
    exact ⟨Maps.has_put_same hD (KL_lit s) _, fun z => Maps.atKey_put_same hD (KL_lit s) _ z⟩
  · have hne : KL s ≠ KL k := fun e => hs (KL_inj e)
    simp only [hs, if_false]
    refine ⟨fun b' hb' => ?_, fun hn => ?_⟩
    · rw [Maps.has_put_other hne]
      exact ⟨((h s).1 b' hb').1, fun z => by rw [Maps.atKey_put_other hne]; exact ((h s).1 b' hb').2 z⟩
    · rw [Maps.has_put_other hne]
      exact (h s).2 hn
theorem says_del {D : DataW Unit} {F : ByteArray → Option Nat} (h : Says D F) (k : ByteArray) : Says (D.del (KL k)) (fun s => if s = k then none else F s) := by
  intro s
  by_cases hs : s = k
  · subst hs
    simp only [if_true]
    exact ⟨fun b h => (by cases h), fun _ => Maps.has_del_same⟩
  · have hne : KL s ≠ KL k := fun e => hs (KL_inj e)
    simp only [hs, if_false]
    refine ⟨fun b' hb' => ?_, fun hn => ?_⟩
    · rw [Maps.has_del_other hne]
      exact ⟨((h s).1 b' hb').1, fun z => by rw [Maps.atKey_del_other hne]; exact ((h s).1 b' hb').2 z⟩
    · rw [Maps.has_del_other hne]
      exact (h s).2 hn
theorem MapS.frame {w w' : World} {m n : Nat} {F : ByteArray → Option Nat} (h : MapS w m n F) (hb : w'.heap[m]? = w.heap[m]?) : MapS w' m n F := by
  obtain ⟨D, ⟨es, clock, e1, r⟩, hS⟩ := h
  exact ⟨D, ⟨es, clock, hb.trans e1, r⟩, hS⟩
theorem MapS.lt {w : World} {m n : Nat} {F : ByteArray → Option Nat} (h : MapS w m n F) : m < w.heap.size := by
  obtain ⟨D, hD, _⟩ := h
  exact hD.lt
theorem MapS.obj {w : World} {m n : Nat} {F : ByteArray → Option Nat} (h : MapS w m n F) : ∃ es clock, w.heap[m]? = some (.map es clock) := by
  obtain ⟨D, ⟨es, clock, hb, _⟩, _⟩ := h
  exact ⟨es, clock, hb⟩
theorem MapS.mono {w : World} {m n n' : Nat} {F : ByteArray → Option Nat} (h : MapS w m n F) (hn : n ≤ n') : MapS w m n' F := by
  obtain ⟨D, hD, hS⟩ := h
  exact ⟨D, hD.mono hn, hS⟩
theorem MapS.made (w : World) : MapS (w.alloc (.map #[] 0)) w.heap.size 0 (fun _ => none) :=
  ⟨_, World.ownsMap_made w Try.prog 9 Rp, fun s => ⟨fun b h => (by cases h), fun _ => rfl⟩⟩
theorem MapS.look_ok {w : World} {m n : Nat} {F : ByteArray → Option Nat} (h : MapS w m n F) {k : ByteArray} (hk : k.size ≤ maxLen) :
    (∀ b, F k = some b → (Instr.lookup 48 (.map (some m)) (.string k) true).run Try.prog w = .ok (.tuple #[PT b, .bool true]) w) ∧
    (F k = none → (Instr.lookup 48 (.map (some m)) (.string k) true).run Try.prog w = .ok (.tuple #[.pointer none, .bool false]) w) := by
  obtain ⟨D, hD, hS⟩ := h
  obtain ⟨v, ps, hrun, hv⟩ := hD.look_ok (t := 48) (e := 49) keyed Try.underlying48 (zero49 w) (zd := .nil) (zp := []) rfl (key_of hk)
  refine ⟨fun b hb => ?_, fun hn => ?_⟩
  · obtain ⟨h1, h2⟩ := (hS k).1 b hb
    rw [h2] at hv
    rw [hrun, Rp_at hv, h1]
  · have h1 := (hS k).2 hn
    rw [Maps.atKey_of_not_has h1] at hv
    rw [hrun, Rp_nil hv, h1]
theorem MapS.look {w : World} {m n : Nat} {F : ByteArray → Option Nat} (h : MapS w m n F) {k : ByteArray} (hk : k.size ≤ maxLen) (b : Nat) (hb : F k = some b) :
    (Instr.lookup 48 (.map (some m)) (.string k) false).run Try.prog w = .ok (PT b) w := by
  obtain ⟨D, hD, hS⟩ := h
  obtain ⟨v, ps, hrun, hv⟩ := hD.lookup (t := 48) (e := 49) keyed Try.underlying48 (zero49 w) (zd := .nil) (zp := []) rfl (key_of hk)
  obtain ⟨h1, h2⟩ := (hS k).1 b hb
  rw [h2] at hv
  rw [hrun, Rp_at hv]
/-- w' is w but for the entries of the map in block m -/
theorem turned_fr {w w' : World} {m : Nat} (h : w.mapTurned w' m) (S : Nat → Prop) (hS : S m) : Fr S w w' := by
  have g := h.grown
  exact ⟨g.os, g.tape, g.output, g.size, fun k hk hn => g.block k hk (fun e => hn (by cases e; exact hS))⟩
theorem MapS.store {w : World} {m n : Nat} {F : ByteArray → Option Nat} (h : MapS w m n F) {k : ByteArray} (hk : k.size ≤ maxLen) (hn : n < maxLen) (b : Nat) :
    ∃ w', (Instr.mapUpdate 48 (.map (some m)) (.string k) (PT b)).run Try.prog w = .ok () w' ∧ MapS w' m (n + 1) (fun s => if s = k then some b else F s) ∧ w.mapTurned w' m := by
  obtain ⟨D, hD, hS⟩ := h
  obtain ⟨w', hrun, h1, h2⟩ := hD.store (t := 48) (e := 49) keyed Try.underlying48 hn (key_of hk) (Rp_PT b)
  exact ⟨w', hrun, ⟨_, h1, says_put hS hD.isMap k b⟩, h2⟩
theorem MapS.drop {w : World} {m n : Nat} {F : ByteArray → Option Nat} (h : MapS w m n F) {k : ByteArray} (hk : k.size ≤ maxLen) (ty : TypeId) :
    ∃ w', (Builtin.delete_ #[48, 9] ty #[.map (some m), .string k]).run Try.prog w = .ok (.tuple #[]) w' ∧ MapS w' m n (fun s => if s = k then none else F s) ∧ w.mapTurned w' m := by
  obtain ⟨D, hD, hS⟩ := h
  obtain ⟨w', hrun, h1, h2⟩ := hD.drop (t := 48) (e := 49) keyed Try.underlying48 (key_of hk) ty
  exact ⟨w', hrun, ⟨_, h1, says_del hS k⟩, h2⟩
end Go.Proofs.Yteiejkkgckdihaa.Mp
