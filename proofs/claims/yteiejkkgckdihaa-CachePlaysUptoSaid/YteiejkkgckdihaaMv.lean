/- Maps from texts to plain elements: what a lookup reads, what a store leaves; and bytes as a text. -/
import Derived.Test.YteiejkkgckdihaaCx
namespace Go.Proofs.Yteiejkkgckdihaa.Mv
set_option linter.unusedVariables false
open Go.RowKit Go.Proofs.YteiejkkgckdihaaW.PrintWords Go.Proofs.YteiejkkgckdihaaW.PrintLast Go.Proofs.YteiejkkgckdihaaW.PrintMore Go.Proofs.Yteiejkkgckdihaa.Fr Go.Proofs.Yteiejkkgckdihaa.Rg Go.Proofs.Yteiejkkgckdihaa.Mp Go.Proofs.Yteiejkkgckdihaa.Ca Go.Proofs.Yteiejkkgckdihaa.Cx
/-- a kind of element: how it lies, how it reads, the zero -/
structure El (α : Type) where
  t : TypeId
  e : TypeId
  enc : α → Value
  lit : α → DataW Unit
  R : Value → Option (DataW Unit × List MemPlace)
  z : α
  put : ∀ x, R (enc x) = some (lit x, [])
  inv : ∀ v x ps, R v = some (lit x, ps) → v = enc x
  ht : Try.prog.underlying t = some (.map 9 e)
  hz : ∀ w : World, (zeroValue e).run Try.prog w = .ok (enc z) w
variable {α : Type} (E : El α)
def upd (F : ByteArray → α) (k : ByteArray) (x : α) : ByteArray → α := fun s => if s = k then x else F s
theorem upd_same (F : ByteArray → α) (k : ByteArray) (x : α) : upd F k x k = x := by simp [upd]
theorem upd_other (F : ByteArray → α) {s k : ByteArray} (x : α) (h : s ≠ k) : upd F k x s = F s := by simp [upd, h]
/-- the map at block m reads as F -/
def El.M (w : World) (m n : Nat) (F : ByteArray → α) : Prop := ∃ D : DataW Unit, w.ownsMap Try.prog 9 E.R m n D ∧ ∀ s, D.atKey (KL s) (E.lit E.z) = E.lit (F s)
variable {E}
theorem El.M.frame {w w' : World} {m n : Nat} {F : ByteArray → α} (h : E.M w m n F) (hb : w'.heap[m]? = w.heap[m]?) : E.M w' m n F := by
  obtain ⟨D, ⟨es, clock, e1, r⟩, hS⟩ := h
  exact ⟨D, ⟨es, clock, hb.trans e1, r⟩, hS⟩
theorem El.M.lt {w : World} {m n : Nat} {F : ByteArray → α} (h : E.M w m n F) : m < w.heap.size := by
  obtain ⟨D, hD, _⟩ := h
  exact hD.lt
theorem El.M.obj {w : World} {m n : Nat} {F : ByteArray → α} (h : E.M w m n F) : ∃ es clock, w.heap[m]? = some (.map es clock) := by
  obtain ⟨D, ⟨es, clock, hb, _⟩, _⟩ := h
  exact ⟨es, clock, hb⟩
theorem El.M.mono {w : World} {m n n' : Nat} {F : ByteArray → α} (h : E.M w m n F) (hn : n ≤ n') : E.M w m n' F := by
  obtain ⟨D, hD, hS⟩ := h
  exact ⟨D, hD.mono hn, hS⟩
theorem El.M.made (w : World) : E.M (w.alloc (.map #[] 0)) w.heap.size 0 (fun _ => E.z) := ⟨_, World.ownsMap_made w Try.prog 9 E.R, fun s => rfl⟩
theorem El.M.below {w w' : World} {m n : Nat} {F : ByteArray → α} (h : E.M w m n F) (hb : Below w.heap.size w w') : E.M w' m n F := h.frame (hb.block m h.lt)
theorem El.M.fr {S : Nat → Prop} {w w' : World} {m n : Nat} {F : ByteArray → α} (h : E.M w m n F) (hf : Fr S w w') (hS : ¬ S m) : E.M w' m n F := h.frame (hf.block m h.lt hS)
theorem El.M.look {w : World} {m n : Nat} {F : ByteArray → α} (h : E.M w m n F) {k : ByteArray} (hk : k.size ≤ maxLen) :
    (Instr.lookup E.t (.map (some m)) (.string k) false).run Try.prog w = .ok (E.enc (F k)) w := by
  obtain ⟨D, hD, hS⟩ := h
  obtain ⟨v, ps, hrun, hv⟩ := hD.lookup (t := E.t) (e := E.e) keyed E.ht (E.hz w) (zd := E.lit E.z) (zp := []) (E.put E.z) (key_of hk)
  rw [hS] at hv
  rw [hrun, E.inv _ _ _ hv]
theorem El.M.store {w : World} {m n : Nat} {F : ByteArray → α} (h : E.M w m n F) {k : ByteArray} (hk : k.size ≤ maxLen) (hn : n < maxLen) (x : α) :
    ∃ w', (Instr.mapUpdate E.t (.map (some m)) (.string k) (E.enc x)).run Try.prog w = .ok () w' ∧ E.M w' m (n + 1) (upd F k x) ∧ w.mapTurned w' m := by
  obtain ⟨D, hD, hS⟩ := h
  obtain ⟨w', hrun, h1, h2⟩ := hD.store (t := E.t) (e := E.e) keyed E.ht hn (key_of hk) (E.put x)
  refine ⟨w', hrun, ⟨_, h1, fun s => ?_⟩, h2⟩
  by_cases hs : s = k
  · subst hs
    rw [upd_same]
    exact Maps.atKey_put_same hD.isMap (KL_lit s) _ _
  · rw [upd_other _ _ hs, Maps.atKey_put_other (fun e => hs (KL_inj e))]
    exact hS s
/-- texts -/
def Rs : Value → Option (DataW Unit × List MemPlace)
  | .string s => some (.lit (.string s.data.toList), [])
  | _ => none
def Es : El ByteArray where
  t := 40
  e := 9
  enc := Value.string
  lit := fun s => .lit (.string s.data.toList)
  R := Rs
  z := ByteArray.empty
  put := fun x => rfl
  inv := by
    intro v x ps h
    unfold Rs at h
    split at h
    · rename_i s
      injection h with h
      injection h with h1 h2
      injection h1 with h1
      exact congrArg Value.string (KL_inj h1)
    · cases h
  ht := Try.underlying40
  hz := fun w => by kernel_rfl
/-- whole numbers -/
def Ri : Value → Option (DataW Unit × List MemPlace)
  | .int .i64 n => some (.lit (.int .i64 n), [])
  | _ => none
def Ei : El Int where
  t := 41
  e := 3
  enc := Value.int .i64
  lit := fun n => .lit (.int .i64 n)
  R := Ri
  z := 0
  put := fun x => rfl
  inv := by
    intro v x ps h
    unfold Ri at h
    split at h
    · rename_i s
      simp at h
      rw [h.1]
    · cases h
  ht := Try.underlying41
  hz := fun w => by kernel_rfl
/-- bytes that are read, as a text -/
theorem str_C {w : World} {A : Option Addr} {n c : Nat} {xs : List Int} (h : (Kd.int .u8).C w A n xs) : (convert 29 9 (.slice A n c)).run Try.prog w = .ok (.string (strOfNums xs)) w := by
  obtain ⟨h1, h2, h3⟩ := Kd.reads_of_C (d := (0 : Int)) h
  cases A with
  | none =>
    have hn : n = 0 := by
      rcases Nat.eq_zero_or_pos n with e | e
      · exact e
      · obtain ⟨ad, e, _⟩ := h3 e
        cases e
    have hx : xs = [] := List.eq_nil_of_length_eq_zero (by omega)
    subst hx
    exact run_convert_bytes_nil w 29 5 Try.underlying29 Try.underlying5 _ _ 9 Try.underlying9
  | some a =>
    have hl : (loadCells a n).run Try.prog w = .ok (xs.map (Value.int .u8)).toArray w := by
      have := run_loadCells_list (P := Try.prog) w a (xs.map (Value.int .u8)) (fun j v hj => by
        have hjl : j < xs.length := by
          rcases Nat.lt_or_ge j xs.length with h | h
          · exact h
          · simp [List.getElem?_eq_none (show (xs.map (Value.int .u8)).length ≤ j by simpa using h)] at hj
        obtain ⟨ad, e, hc⟩ := h3 (by omega)
        injection e with e
        subst e
        rw [hc j (by omega)]
        simp [List.getElem?_eq_getElem hjl] at hj
        subst hj
        simp [List.getD, List.getElem?_eq_getElem hjl])
      simpa [h1] using this
    rw [run_convert_bytes_string w 29 9 5 a n c Try.underlying29 Try.underlying5 Try.underlying9, run_bytesToString w a n c xs hl, foldl_push_bytes]
    simp [strOfNums, ByteArray.empty, ByteArray.emptyWithCapacity]
    rfl
/-- a cache behind a change of one block that is a map, and none of its own -/
theorem cx_map {w w' : World} {c m r B k mm : Nat} {lim hi mi : Int} {L : List Ent} (h : CX w c m r B lim k hi mi L) (hm : ¬ Own c m r L mm) (hob : ∃ es cl, w.heap[mm]? = some (.map es cl)) (ht : w.mapTurned w' mm) : CX w' c m r B lim k hi mi L := by
  have hf : Fr (fun j => j = mm) w w' := turned_fr ht _ rfl
  obtain ⟨nn, h, r1⟩ := h
  refine ⟨nn, ?_, r1⟩
  have ho : ∀ j, Own c m r L j → w'.heap[j]? = w.heap[j]? := fun j hj => hf.block j (h.own_lt hj) (fun e => hm (e ▸ hj))
  refine ⟨?_, ?_, ?_, h.keys, ?_, h.far, h.low⟩
  · unfold Blk
    rw [ho c (.inl rfl)]
    exact h.blk
  · exact h.ring.frame (ho r (.inr (.inr (.inl rfl)))) (fun x hx => ho x.b (.inr (.inr (.inr ⟨x, hx, rfl⟩))))
  · exact h.map.frame (ho m (.inr (.inl rfl)))
  · intro x hx
    obtain ⟨h1, h2⟩ := h.val x hx
    refine ⟨hf.C h1 (fun ad e hp hb => ?_), h2⟩
    obtain ⟨_, _, h3⟩ := Kd.reads_of_C (d := (0 : Int)) h1
    obtain ⟨ad', e', hc⟩ := h3 hp
    rw [e] at e'
    injection e' with e'
    subst e'
    have hc0 := hc 0 hp
    obtain ⟨es, cl, hob⟩ := hob
    have hbb : (ad.add 0).block = mm := by rw [← hb]; unfold Addr.add; split <;> rfl
    have hcc : (w.cell? (ad.add 0)).isSome = true := by rw [hc0]; rfl
    unfold World.cell? at hcc
    rw [hbb, hob] at hcc
    simp at hcc
end Go.Proofs.Yteiejkkgckdihaa.Mv
