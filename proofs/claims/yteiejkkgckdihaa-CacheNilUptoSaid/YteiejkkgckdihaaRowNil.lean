/- For every call of a cache whose key and value together hold at most 1048576 letters and values: CacheNil answers true, and the call reads as it did. -/
import Derived.Test.YteiejkkgckdihaaRows
import Derived.Test.YteiejkkgckdihaaRd
import Derived.Test.YteiejkkgckdihaaNil
import Derived.Deep.Strs
import Derived.WalkKit
import Derived.ProofKit
import Derived.OpenShut
import Derived.JoinedCond
import Derived.ShutString
import Derived.ChangeOld
import Derived.Below
namespace Go.Proofs.Yteiejkkgckdihaa.cacheNil
open Go.ChangeShapes Go.WideShapes Go.ChangeAt Go.RowKit
open Go.ChangeMaps (open_string shut_string)
open Go.Proofs.YteiejkkgckdihaaW.PrintWords
set_option linter.unusedVariables false
theorem own : ownKnob Try.prog.godebug = none := by kernel_rfl
theorem laidOut : laidOutB Try.prog = true := by kernel_rfl
theorem one_le {H : Type} (d : DataW H) : 1 ≤ Rows.uptoBulk d := by
  cases d with
  | lit l => cases l <;> simp [Rows.uptoBulk]
  | _ => simp [Rows.uptoBulk]
theorem length_le {H : Type} (l : List (DataW H)) : l.length ≤ Rows.uptoBulkAll l := by
  induction l with
  | nil => simp [Rows.uptoBulkAll]
  | cons x r ih => have := one_le x; simp only [Rows.uptoBulkAll, List.length_cons]; omega
theorem bulk_third {H : Type} (x y z : DataW H) : Rows.uptoBulk z ≤ Rows.uptoBulk (.agg [x, y, z]) := by
  simp only [Rows.uptoBulk, Rows.uptoBulkAll]
  omega
/-- a call of a cache, read -/
theorem read_op {H : Type} {enc : TypeId × Value → H} {W : World} {cs : Array Value} {d : DataW H} {p : List MemPlace} (hs : cs.size = 3) (h : DataW.Trod enc Try.prog W 0 (fun _ => true) true 31 (.agg cs) d p) :
    ∃ (kd : Int) (s : ByteArray) (A : Option Addr) (n c : Nat) (zs : List Int) (x y z : DataW H), cs = #[.int .i64 kd, .string s, .slice A n c] ∧ zs.length = n ∧ n ≤ c ∧ (Kd.int .u8).C W A zs.length zs ∧ d = .agg [x, y, z] ∧ ((z = .nil ∧ zs = []) ∨ ∃ rest, z = .slice (lits .u8 zs) rest) := by
  obtain ⟨a, b, e, rfl⟩ : ∃ a b e, cs = #[a, b, e] := by
    obtain ⟨l⟩ := cs
    match l, hs with
    | [a, b, e], _ => exact ⟨a, b, e, rfl⟩
  obtain ⟨fuel, hf⟩ := h
  obtain ⟨y0, y1, y2, m, hx, hl, u0, u1, u2⟩ := Go.Deep.trod_struct3 Try.underlying31 hf
  have c3 : Try.prog.cellsOf 3 = 1 := by kernel_rfl
  have c9 : Try.prog.cellsOf 9 = 1 := by kernel_rfl
  have c29 : Try.prog.cellsOf 29 = 1 := by kernel_rfl
  simp only [Value.cells, c3, c9, c29] at u0 u1 u2
  simp at u0 u1 u2
  injection hx with hd hp
  obtain ⟨kd, e0, -, -⟩ := DataW.trod_int Try.underlying3 u0
  obtain ⟨s, e1, -, -⟩ := DataW.trod_string Try.underlying9 u1
  simp at e0 e1
  subst e0 e1
  obtain ⟨A, n, c, rfl⟩ : ∃ A n c, e = .slice A n c := by
    rcases open_ints Try.underlying29 Try.underlying5 (by kernel_rfl) u2 with ⟨hcs, _⟩ | ⟨x, l, c, zs, hcs, _⟩
    · simp at hcs
      exact ⟨_, _, _, hcs⟩
    · simp at hcs
      exact ⟨_, _, _, hcs⟩
  obtain ⟨zs, hz, hc, hC, _, hd2⟩ := Rd.read_ints (enc := enc) (d := y2.1) (p := y2.2) Try.underlying29 Try.underlying5 (by kernel_rfl) ⟨m, u2⟩
  exact ⟨kd, s, A, n, c, zs, _, _, _, rfl, hz, hc, hC, hd, hd2⟩
theorem contract (H : Type) (enc : TypeId × Value → H) (W : World) (base : Nat) (args : Array Value) (ds gs : List (DataW H)) (before : List MemPlace)
    (hval : ∀ (j : Nat) t v, Try.f6.params[j]? = some t → args[j]? = some v → Value.okWide Try.prog W .any base t v)
    (hW : DataW.Whole enc Try.prog Try.f6.params.toList Rows.cacheNilSpec.vars false W args.toList ds gs before) (hk : Rows.uptoSmall H (ds ++ gs) = true) :
    Calls Try.prog 6 args W fun e W' => ∃ v, e = .returned v ∧ Rows.cacheNilSpec.post enc Try.prog Try.f6 false true false false W args v W' := by
  have hW' := hW
  obtain ⟨p, q, hA0, hV, rfl, hfz, hnd⟩ := hW
  have hA : DataW.TrodAll enc Try.prog W 0 (fun _ => true) true Try.f6.params.toList args.toList ds p := hA0
  rw [Try.params6] at hA hval
  obtain ⟨v0, vs0, d0, ds0, p0, q0, hargs, rfl, rfl, h0, r0⟩ := trodAll_cons hA
  obtain ⟨rfl, rfl, rfl⟩ := trodAll_nil r0
  obtain rfl : args = #[v0] := by cases args; simp_all
  obtain ⟨rfl, rfl⟩ := trodVars_none hV
  obtain ⟨cs, rfl, hcs⟩ := okWide_struct Try.underlying31 (hval 0 31 v0 rfl rfl)
  have k0 := h0
  have lt0 : ∀ x ∈ p0, x.block < W.heap.size := by obtain ⟨m, hm⟩ := k0; exact DataW.trod_lt m _ _ _ hm
  obtain ⟨kd, s, A, n, c, zs, x, y, z, rfl, hn, hc, hC, hd, hz⟩ := read_op (hcs.trans (by kernel_rfl)) h0
  clear hA0
  simp only [List.append_nil] at hW' hk
  have hlen : zs.length ≤ 140737488351232 := by
    have hb : Rows.uptoBulkAll [d0] ≤ 1048576 := of_decide_eq_true hk
    simp only [Rows.uptoBulkAll] at hb
    have hb1 := bulk_third x y z
    rw [← hd] at hb1
    have b0 : zs.length ≤ Rows.uptoBulk z := by
      rcases hz with ⟨rfl, rfl⟩ | ⟨rest, rfl⟩
      · simp
      · have := length_le (H := H) (lits .u8 zs)
        simp only [Rows.uptoBulk]
        have e : (lits (H := H) .u8 zs).length = zs.length := by simp [lits]
        omega
    omega
  subst hn
  refine (Nil.walk kd s A c zs W hC hc hlen).mono fun e W' ⟨he, bel⟩ => ?_
  subst he
  exact ⟨_, rfl, _, _, _, [], _, [], hW', trodAll_mk1 (shut_bool Try.underlying4 _), (trodAll_cons_mk (Below.trod laidOut (by kernel_rfl) (of_decide_eq_true (by kernel_rfl)) k0 bel lt0) trodAll_mk0), rfl, bel.frame _, fun h => by cases h⟩
set_option maxRecDepth 100000 in
theorem lifted (os : Os) (started : os.Started) (H : Type) (enc : TypeId × Value → H) (F : Stop.Interp) :
    ReturnsInHanded {} Try.checked os 6 .any ((Rows.OpenSpec.upto Rows.cacheNilSpec).pre6 enc Try.prog Try.f6 Rows.cacheNilUptoRow.domain false) (((Rows.OpenSpec.upto Rows.cacheNilSpec).at F).post enc Try.prog Try.f6 false true false false) := by
  refine returnsInHanded_of_cond (C := Try.checked) (s := Rows.OpenSpec.upto Rows.cacheNilSpec) (k := Rows.uptoSmall) rfl own started (by kernel_rfl) Try.func6
    (OpenSpec.witness (enc := enc) (C := Try.checked) (s := Rows.OpenSpec.upto Rows.cacheNilSpec) (k := Rows.uptoSmall) rfl false ⟨#[], #[.agg #[.int .i64 0, .string ByteArray.empty, .slice none 0 0]], []⟩ 8 (by kernel_rfl) (by kernel_rfl) (by kernel_rfl)
      (x := ([.agg [.lit (.int .i64 0), .lit (.string []), .nil]], [], [])) (by kernel_rfl) rfl (by kernel_rfl)) ?_
  intro W base args ds gs before hval hW _ hk _
  exact contract H enc W base args ds gs before hval hW hk
theorem over : Rows.cacheNilUptoRow.holds Try.pinned (Rows.OpenSpec.upto Rows.cacheNilSpec) :=
  OpenClaim.holds_of_cond 6 Try.f6 rfl rfl rfl rfl rfl rfl rfl ⟨rfl, rfl, rfl, rfl, rfl⟩ rfl rfl rfl rfl rfl (by kernel_rfl) Try.func6 (by kernel_rfl)
    (of_decide_eq_true (by kernel_rfl)) (by unfold Func.isWrapper; first | (rw [if_pos (by decide +kernel)]; kernel_rfl) | (rw [if_neg (by decide +kernel)]; exact ⟨rfl, rfl⟩))
    (fun os started H enc _ F => lifted os started H enc F)
theorem proved : Rows.CacheNilUptoSaid := over
#print axioms proved
end Go.Proofs.Yteiejkkgckdihaa.cacheNil
namespace Go.Proofs.Yteiejkkgckdihaa
/-- The row, under a short name, for the claim. -/
theorem cacheNil_holds : Rows.CacheNilUptoSaid := cacheNil.proved
end Go.Proofs.Yteiejkkgckdihaa
