/- Numbers and texts written one behind the other, as plain Lean. -/
import Derived.Test.YtpgcbdopnkbmhaaDn
namespace Go.Proofs.Ytpgcbdopnkbmhaa.Ea
set_option linter.unusedVariables false
open Go.RowKit Go.Proofs.YtpgcbdopnkbmhaaW.PrintWords Go.Proofs.YtpgcbdopnkbmhaaW.PrintLast Go.Proofs.YtpgcbdopnkbmhaaW.PrintMore
open Go.Proofs.Ytpgcbdopnkbmhaa.A Go.Proofs.Ytpgcbdopnkbmhaa.Cn Go.Proofs.Ytpgcbdopnkbmhaa.Dn
def okI (x : Int) : Prop := -36028797018963968 ≤ x ∧ x < 36028797018963968
def okS (s : ByteArray) : Prop := s.size ≤ 65536
instance (x : Int) : Decidable (okI x) := by unfold okI; infer_instance
instance (s : ByteArray) : Decidable (okS s) := by unfold okS; infer_instance
def eI (x : Int) : List Int := enc 7 (zig x)
def eS (s : ByteArray) : List Int := enc 7 (s.size : Int) ++ bytesOf s
/-- by turns: a number, a text -/
def encAll : List Int → List ByteArray → List Int
  | [], m => (m.map eS).flatten
  | x :: xs, [] => eI x ++ encAll xs []
  | x :: xs, s :: ss => eI x ++ (eS s ++ encAll xs ss)
/-- room for it -/
def room (l : List Int) (m : List ByteArray) : Nat := 8 * l.length + (m.map fun s => 8 + s.size).sum
theorem eI_len (x : Int) : (eI x).length ≤ 8 := enc_len 7 _
theorem eS_len (s : ByteArray) : (eS s).length ≤ 8 + s.size := by
  unfold eS; rw [List.length_append, bytesOf_length]; have := enc_len 7 (s.size : Int); omega
theorem byts_append {a b : List Int} (ha : Byts a) (hb : Byts b) : Byts (a ++ b) := by
  intro c hc; rcases List.mem_append.1 hc with h | h
  · exact ha c h
  · exact hb c h
theorem bytesOf_byts (s : ByteArray) : Byts (bytesOf s) := by
  intro c hc
  unfold bytesOf at hc
  obtain ⟨b, _, rfl⟩ := List.mem_map.1 hc
  have := b.toNat_lt
  omega
theorem eI_byts (x : Int) (h : okI x) : Byts (eI x) := by
  have hz := zig_bd x h.1 h.2
  exact enc_byts 7 _ hz.1 (by omega)
theorem eS_byts (s : ByteArray) (h : okS s) : Byts (eS s) := byts_append (enc_byts 7 _ (by omega) (by unfold okS at h; omega)) (bytesOf_byts s)
theorem flat_len (m : List ByteArray) : (m.map eS).flatten.length ≤ room [] m := by
  induction m with
  | nil => simp
  | cons s ss ih =>
    have h1 := eS_len s
    simp only [List.map_cons, List.flatten_cons, List.length_append, room, List.length_nil, List.sum_cons] at ih ⊢
    omega
theorem flat_byts (m : List ByteArray) (hm : ∀ s ∈ m, okS s) : Byts (m.map eS).flatten := by
  intro c hc
  obtain ⟨l, hl, hcl⟩ := List.mem_flatten.1 hc
  obtain ⟨s, hs, rfl⟩ := List.mem_map.1 hl
  exact eS_byts s (hm s hs) c hcl
theorem encAll_len : ∀ l m, (encAll l m).length ≤ room l m
  | [], m => flat_len m
  | x :: xs, [] => by
    have h1 := eI_len x
    have h2 := encAll_len xs []
    simp only [encAll, List.length_append, room, List.length_cons, List.map_nil, List.sum_nil] at h2 ⊢
    omega
  | x :: xs, s :: ss => by
    have h0 := eI_len x
    have h1 := eS_len s
    have h2 := encAll_len xs ss
    simp only [encAll, List.length_append, room, List.length_cons, List.map_cons, List.sum_cons] at h2 ⊢
    omega
theorem encAll_byts : ∀ l m, (∀ x ∈ l, okI x) → (∀ s ∈ m, okS s) → Byts (encAll l m)
  | [], m => fun _ hm => flat_byts m hm
  | x :: xs, [] => fun hl hm => byts_append (eI_byts x (hl x (by simp))) (encAll_byts xs [] (fun y hy => hl y (by simp [hy])) hm)
  | x :: xs, s :: ss => fun hl hm => byts_append (eI_byts x (hl x (by simp))) (byts_append (eS_byts s (hm s (by simp))) (encAll_byts xs ss (fun y hy => hl y (by simp [hy])) (fun y hy => hm y (by simp [hy]))))
/-- what is still to come at i -/
def tail (l : List Int) (m : List ByteArray) (i : Nat) : List Int := encAll (l.drop i) (m.drop i)
theorem tail_both (l : List Int) (m : List ByteArray) (i : Nat) (h1 : i < l.length) (h2 : i < m.length) : tail l m i = eI l[i] ++ (eS m[i] ++ tail l m (i + 1)) := by
  unfold tail; rw [List.drop_eq_getElem_cons h1, List.drop_eq_getElem_cons h2]; rfl
theorem tail_int (l : List Int) (m : List ByteArray) (i : Nat) (h1 : i < l.length) (h2 : ¬ i < m.length) : tail l m i = eI l[i] ++ tail l m (i + 1) := by
  unfold tail; rw [List.drop_eq_getElem_cons h1, show m.drop i = [] from List.drop_eq_nil_of_le (by omega), show m.drop (i + 1) = [] from List.drop_eq_nil_of_le (by omega)]; rfl
theorem tail_str (l : List Int) (m : List ByteArray) (i : Nat) (h1 : ¬ i < l.length) (h2 : i < m.length) : tail l m i = eS m[i] ++ tail l m (i + 1) := by
  unfold tail; rw [List.drop_eq_getElem_cons h2, show l.drop i = [] from List.drop_eq_nil_of_le (by omega), show l.drop (i + 1) = [] from List.drop_eq_nil_of_le (by omega)]; simp only [encAll, List.map_cons, List.flatten_cons]
theorem tail_none (l : List Int) (m : List ByteArray) (i : Nat) (h1 : ¬ i < l.length) (h2 : ¬ i < m.length) : tail l m i = [] := by
  unfold tail; rw [show m.drop i = [] from List.drop_eq_nil_of_le (by omega), show l.drop i = [] from List.drop_eq_nil_of_le (by omega)]; rfl
theorem tail_len (l : List Int) (m : List ByteArray) (i : Nat) : (tail l m i).length ≤ room l m := by
  have h := encAll_len (l.drop i) (m.drop i)
  have h2 : room (l.drop i) (m.drop i) ≤ room l m := by
    unfold room
    have h3 : ((m.drop i).map fun s => 8 + s.size).sum ≤ (m.map fun s => 8 + s.size).sum := by
      conv => rhs; rw [← List.take_append_drop i m]
      rw [List.map_append, List.sum_append]; omega
    have h4 : (l.drop i).length ≤ l.length := by simp
    omega
  exact Nat.le_trans h h2
theorem tail_byts (l : List Int) (m : List ByteArray) (i : Nat) (hl : ∀ x ∈ l, okI x) (hm : ∀ s ∈ m, okS s) : Byts (tail l m i) :=
  encAll_byts _ _ (fun x hx => hl x (List.mem_of_mem_drop hx)) (fun s hs => hm s (List.mem_of_mem_drop hs))
end Go.Proofs.Ytpgcbdopnkbmhaa.Ea
