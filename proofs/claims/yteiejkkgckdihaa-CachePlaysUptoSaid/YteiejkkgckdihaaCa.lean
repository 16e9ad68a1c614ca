/- A cache as it lies in memory; none, size. -/
import Derived.Test.YteiejkkgckdihaaRk
import Derived.Test.YteiejkkgckdihaaMp
import Derived.WalkKit
import Derived.WalkSpells
import Derived.BigRegion
import Derived.Outline
namespace Go.Proofs.Yteiejkkgckdihaa.Ca
set_option linter.unusedVariables false
open Go.RowKit Go.Proofs.YteiejkkgckdihaaW.PrintWords Go.Proofs.YteiejkkgckdihaaW.PrintLast Go.Proofs.YteiejkkgckdihaaW.PrintMore Go.Proofs.Yteiejkkgckdihaa.Fr Go.Proofs.Yteiejkkgckdihaa.Rg Go.Proofs.Yteiejkkgckdihaa.Rk Go.Proofs.Yteiejkkgckdihaa.Mp
/-- what an element counts -/
def esz (x : Ent) : Nat := x.key.size + x.val.length
def used (L : List Ent) : Nat := (L.map esz).sum
/-- where an element lies -/
def lookE (L : List Ent) (s : ByteArray) : Option Nat := (L.find? (fun x => decide (x.key = s))).map (·.b)
/-- the cells of a cache -/
def Blk (w : World) (c m r : Nat) (lim us hi mi : Int) : Prop := w.heap[c]? = some (.cells #[.int .i64 lim, .int .i64 us, .int .i64 hi, .int .i64 mi, .map (some m), PT r] 53 (0, 0))
/-- the blocks that a cache writes -/
def Own (c m r : Nat) (L : List Ent) (k : Nat) : Prop := k = c ∨ k = m ∨ k = r ∨ ∃ x ∈ L, k = x.b
/-- a cache -/
structure CL (w : World) (c m r n : Nat) (lim hi mi : Int) (L : List Ent) : Prop where
  blk : Blk w c m r lim (used L) hi mi
  ring : Ring w r L
  map : MapS w m n (lookE L)
  keys : (L.map (·.key)).Nodup
  val : ∀ x ∈ L, (Kd.int .u8).C w x.A x.val.length x.val ∧ x.val.length ≤ x.c
  far : ∀ x ∈ L, ∀ ad, x.A = some ad → 0 < x.val.length → ¬ Own c m r L ad.block
  low : 1 ≤ lim ∧ lim ≤ 1048576 ∧ (used L : Int) ≤ lim
theorem none_no (c m r : Nat) (lim us hi mi : Int) (w : World) (h : Blk w c m r lim us hi mi) : Calls Try.prog 22 #[PT c] w fun e w' => e = .returned (.bool false) ∧ w' = w := by
  have c4 := blk_cell h 4
  have heq := fun W => run_eql_map_nil (P := Try.prog) W 48 9 49 (some m) Try.underlying48
  simp at c4
  clear h
  go_enter Try.func22, Try.ntmps22
  go_wp2
  go_ret
  exact ⟨rfl, rfl⟩
theorem none_yes (v : Value) (w : World) (h : v = .pointer none ∨ ∃ c a b d e f, v = PT c ∧ w.heap[c]? = some (.cells #[a, b, d, e, .map none, f] 53 (0, 0))) : Calls Try.prog 22 #[v] w fun e w' => e = .returned (.bool true) ∧ w' = w := by
  rcases h with rfl | ⟨c, a, b, d, e, f, rfl, h⟩
  · go_enter Try.func22, Try.ntmps22
    go_wp2
    go_ret
    exact ⟨rfl, rfl⟩
  · have c4 := blk_cell h 4
    have heq := fun W => run_eql_map_nil (P := Try.prog) W 48 9 49 none Try.underlying48
    simp at c4
    clear h
    go_enter Try.func22, Try.ntmps22
    go_wp2
    go_ret
    exact ⟨rfl, rfl⟩
theorem size_is (s : ByteArray) (A : Option Addr) (n c : Nat) (w : World) (h1 : s.size + n ≤ 9223372036854775807) : Calls Try.prog 23 #[.agg #[.string s, .slice A n c]] w fun e w' => e = .returned (.int .i64 ((s.size : Int) + n)) ∧ w' = w.alloc (.cells #[.string s, .slice A n c] 57) := by
  go_enter Try.func23, Try.ntmps23
  go_wp2
  go_ret
  exact ⟨rfl, rfl⟩
end Go.Proofs.Yteiejkkgckdihaa.Ca
