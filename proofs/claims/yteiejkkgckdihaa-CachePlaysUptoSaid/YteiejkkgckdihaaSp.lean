/- A call on both caches: they agree. -/
import Derived.Test.YteiejkkgckdihaaPs
import Derived.Test.YteiejkkgckdihaaA1
import Derived.Deep.DeepCutAuto
import Derived.Deep.CutBlock
namespace Go.Proofs.Yteiejkkgckdihaa.Sp
set_option linter.unusedVariables false
set_option linter.unusedSimpArgs false
open Go.Proofs.Yteiejkkgckdihaa.Ps Go.Proofs.Yteiejkkgckdihaa.Pk Go.Proofs.Yteiejkkgckdihaa.Kn Go.Proofs.Yteiejkkgckdihaa.Tk Go.Proofs.Yteiejkkgckdihaa.Le Go.Proofs.Yteiejkkgckdihaa.Rp Go.Proofs.Yteiejkkgckdihaa.A Go.Proofs.Yteiejkkgckdihaa.Sy Go.Proofs.Yteiejkkgckdihaa.Rt Go.Proofs.Yteiejkkgckdihaa.Rq Go.Proofs.Yteiejkkgckdihaa.Rc Go.Proofs.Yteiejkkgckdihaa.Dw Go.RowKit Go.Proofs.YteiejkkgckdihaaW.PrintWords Go.Proofs.YteiejkkgckdihaaW.PrintLast Go.Proofs.YteiejkkgckdihaaW.PrintMore Go.Proofs.Yteiejkkgckdihaa.Fr Go.Proofs.Yteiejkkgckdihaa.Rg Go.Proofs.Yteiejkkgckdihaa.Mp Go.Proofs.Yteiejkkgckdihaa.Ca Go.Proofs.Yteiejkkgckdihaa.Dr Go.Proofs.Yteiejkkgckdihaa.Pu Go.Proofs.Yteiejkkgckdihaa.Ge Go.Proofs.Yteiejkkgckdihaa.Cx Go.Proofs.Yteiejkkgckdihaa.Bo Go.Proofs.Yteiejkkgckdihaa.Mv
/-- what a step leaves -/
def Post (w wx : World) (c m r q B : Nat) (lim : Int) (k : Nat) (hi mi : Int) (L M : List Ent) (S : Value) : Prop :=
  ∃ (hi' mi' : Int) (L' M' : List Ent) (S' : Value), PS wx c m r q B lim (k + 1) hi' mi' L' M' S' ∧ Fr (Pw c m r q L S) w wx ∧ ∀ j, Fp c m r q L' M' S' j → Fp c m r q L M S j ∨ w.heap.size ≤ j
/-- .. and a block that is none of theirs -/
def PostG (w wx : World) (c m r q B : Nat) (lim : Int) (k : Nat) (hi mi : Int) (L M : List Ent) (S : Value) (gb : Nat) : Prop :=
  w.heap.size ≤ gb ∧ ∃ (hi' mi' : Int) (L' M' : List Ent) (S' : Value), PS wx c m r q B lim (k + 1) hi' mi' L' M' S' ∧ Fr (Pw c m r q L S) w wx ∧ (∀ j, Fp c m r q L' M' S' j → Fp c m r q L M S j ∨ w.heap.size ≤ j) ∧ ∀ j, Fp c m r q L' M' S' j → j ≠ gb
section
variable {w w1 wx : World} {c m r q B k gb : Nat} {lim hi mi : Int} {L M : List Ent} {S : Value}
theorem PostG.post (h : PostG w wx c m r q B lim k hi mi L M S gb) : Post w wx c m r q B lim k hi mi L M S := by
  obtain ⟨_, a, b, c', d, e, h1, h2, h3, _⟩ := h
  exact ⟨a, b, c', d, e, h1, h2, h3⟩
theorem PostG.set (h : PostG w wx c m r q B lim k hi mi L M S gb) (i : Nat) (u : Value) : PostG w (wx.setCell ⟨gb, i, none⟩ u) c m r q B lim k hi mi L M S gb := by
  obtain ⟨h0, a, b, c', d, e, h1, h2, h3, h4⟩ := h
  have hf : Fr (fun j => j = gb) wx (wx.setCell ⟨gb, i, none⟩ u) := (Fr.refl (fun j => j = gb) wx).setCell (p := ⟨gb, i, none⟩) (.inl rfl) _
  exact ⟨h0, a, b, c', d, e, h1.fr hf (fun j hj => h4 j hj), h2.trans' hf (fun j hj => .inr (by omega)), h3, h4⟩
theorem Post.below (h : Post w w1 c m r q B lim k hi mi L M S) (hb : Below w1.heap.size w1 wx) : Post w wx c m r q B lim k hi mi L M S := by
  obtain ⟨a, b, c', d, e, h1, h2, h3⟩ := h
  exact ⟨a, b, c', d, e, h1.below hb, h2.trans (Fr.of_below hb _), h3⟩
theorem PostG.below (h : PostG w w1 c m r q B lim k hi mi L M S gb) (hb : Below w1.heap.size w1 wx) : PostG w wx c m r q B lim k hi mi L M S gb := by
  obtain ⟨h0, a, b, c', d, e, h1, h2, h3, h4⟩ := h
  exact ⟨h0, a, b, c', d, e, h1.below hb, h2.trans (Fr.of_below hb _), h3, h4⟩
theorem post_none (h : PS w c m r q B lim k hi mi L M S) (hb : Below w.heap.size w w1) : Post w w1 c m r q B lim k hi mi L M S :=
  ⟨hi, mi, L, M, S, (h.below hb).mono (by omega), Fr.of_below hb _, fun j hj => .inl hj⟩
theorem postG_none (h : PS w c m r q B lim k hi mi L M S) (hb : Below w.heap.size w w1) (hg : w.heap.size ≤ gb) : PostG w w1 c m r q B lim k hi mi L M S gb :=
  ⟨hg, hi, mi, L, M, S, (h.below hb).mono (by omega), Fr.of_below hb _, fun j hj => .inl hj, fun j hj e => by have := (h.fp_lt hj).2; omega⟩
end
theorem lentv_fr {P : Nat → Prop} {w w' : World} {base c : Nat} {A : Option Addr} {l : List Int} (h : LentV w base A c l) (hf : Fr P w w') (hP : ∀ j, P j → j < base) : LentV w' base A c l :=
  ⟨h.1, Kd.R_mono (hf.R (Kd.R_bound h.2) (fun j hj hp => by have := hj.2.1; have := hP j hp; omega)) (fun _ _ => trivial)⟩
theorem arg_C {P : Nat → Prop} {w w' : World} {A : Option Addr} {n B : Nat} {xs : List Int} (h : (Kd.int .u8).C w A n xs) (hf : Fr P w w') (hA : ∀ ad, A = some ad → 0 < n → ad.block < B) (hP : ∀ j, P j → B ≤ j) : (Kd.int .u8).C w' A n xs :=
  hf.C h (fun ad e hp hb => by have := hA ad e hp; have := hP _ hb; omega)
theorem texts_l0 (l : List ByteArray) (hl : l.length ≤ 2000000) : ∀ (d : Nat) (x : Int), 0 ≤ x → x + d = l.length → icehouselaw05_Texts.l0 (d + 1) l l x = some true
  | 0, x, h0, h => by
    simp only [icehouselaw05_Texts.l0]
    rw [if_neg (by omega)]
  | d + 1, x, h0, h => by
    have ih := texts_l0 l hl d (x + 1) (by omega) (by omega)
    have hw : wrap64 (x + 1) = x + 1 := by unfold wrap64; omega
    rw [icehouselaw05_Texts.l0.eq_def]
    simp only
    rw [if_pos (show x < (l.length : Int) by omega), if_pos h0, if_pos (show x < (l.length : Int) by omega), if_pos trivial, hw]
    exact ih
theorem texts_same (l : List ByteArray) (hl : l.length ≤ 2000000) : icehouselaw05_Texts.f (l.length + 1) l l = some true := by
  unfold icehouselaw05_Texts.f
  rw [if_pos (show (l.length : Int) = l.length from rfl)]
  exact texts_l0 l hl l.length 0 (Int.le_refl _) (by omega)
theorem kv_turn {X Y X' Y' : List Ent} {x y : Ent} (h : (X ++ x :: Y).map kv = (X' ++ y :: Y').map kv) (hn : ((X ++ x :: Y).map (·.key)).Nodup) (hn' : ((X' ++ y :: Y').map (·.key)).Nodup) (hk : x.key = y.key) : (X ++ Y ++ [x]).map kv = (X' ++ Y' ++ [y]).map kv := by
  have hv := val_kv h hn (x := x) (y := y) (by simp) (by simp) hk
  have h1 := but_kv x.key (X ++ x :: Y)
  have h2 := but_kv y.key (X' ++ y :: Y')
  rw [but_mid hn] at h1
  rw [but_mid hn', ← h, ← hk, ← h1] at h2
  have e1 : (X ++ Y ++ [x]).map kv = (X ++ Y).map kv ++ [kv x] := by simp
  have e2 : (X' ++ Y' ++ [y]).map kv = (X' ++ Y').map kv ++ [kv y] := by simp
  rw [e1, e2, h2]
  simp [kv, hv, hk]
/-- both have used an element -/
theorem get_join {w wb w2 w3 : World} {c m r q B k : Nat} {lim hi mi : Int} {X Y X' Y' : List Ent} {S S' : Value} {x y : Ent} (h : PS w c m r q B lim k hi mi (X ++ x :: Y) (X' ++ y :: Y') S) (hb1 : Below w.heap.size w wb) (hf2 : Fr (Own c m r (X ++ x :: Y)) wb w2) (hf3 : Fr (Wr q S) w2 w3)
    (hcx : CX w2 c m r B lim (k + 1) (hi + 1) mi (X ++ Y ++ [x])) (hrl : RL w3 q B lim (hi + 1) mi S' (X' ++ Y' ++ [y])) (hk : x.key = y.key) (hS : ∀ j, Wr q S' j → Wr q S j ∨ w2.heap.size ≤ j) :
    Post w w3 c m r q B lim k hi mi (X ++ x :: Y) (X' ++ y :: Y') S ∧ ∀ gb, wb.heap.size ≤ gb → gb < w2.heap.size → PostG w w3 c m r q B lim k hi mi (X ++ x :: Y) (X' ++ y :: Y') S gb := by
  have hpb := h.below hb1
  have hsub : ∀ (P Q : List Ent) (e z : Ent), z ∈ P ++ Q ++ [e] → z ∈ P ++ e :: Q := by
    intro P Q e z hz
    simp at hz ⊢
    rcases hz with hz | hz | hz
    · exact .inl hz
    · exact .inr (.inr hz)
    · exact .inr (.inl hz)
  obtain ⟨hrl2, hty2⟩ := after_cache hpb hf2 (L' := X ++ Y ++ [x]) (fun z hz => .inl (hsub X Y x z hz))
  obtain ⟨hcx3, hty3⟩ := after_ref hcx hty2 hrl2 hf3
  have hs1 := hb1.size
  have hs2 := hf2.size
  have hfp : ∀ N, N ≤ w2.heap.size → ∀ j, Fp c m r q (X ++ Y ++ [x]) (X' ++ Y' ++ [y]) S' j → Fp c m r q (X ++ x :: Y) (X' ++ y :: Y') S j ∨ N ≤ j := fun N hN =>
    fp_sub (fun z hz => .inl (hsub X Y x z hz)) (fun z hz => .inl (hsub X' Y' y z hz)) (fun j hj => by
      rcases hS j hj with hj | hj
      · exact .inl hj
      · exact .inr (by omega))
  have hps : PS w3 c m r q B lim (k + 1) (hi + 1) mi (X ++ Y ++ [x]) (X' ++ Y' ++ [y]) S' := ⟨hcx3, hrl, hty3, kv_turn h.same h.cx.apart h.nodup hk⟩
  have hfr : Fr (Pw c m r q (X ++ x :: Y) S) w w3 := ((Fr.of_below hb1 _).trans (hf2.mono (fun j hj => .inl hj))).trans (hf3.mono (fun j hj => .inr hj))
  refine ⟨⟨_, _, _, _, _, hps, hfr, hfp _ (by omega)⟩, fun gb hg hg2 => ⟨by omega, _, _, _, _, _, hps, hfr, hfp _ (by omega), fun j hj e => ?_⟩⟩
  rcases hfp w2.heap.size (Nat.le_refl _) j hj with h1 | h1
  · have := (h.fp_lt h1).2; omega
  · omega
/-- .. have missed one -/
theorem miss_join {w wb w2 w3 : World} {c m r q B k : Nat} {lim hi mi : Int} {L M : List Ent} {S : Value} (h : PS w c m r q B lim k hi mi L M S) (hb1 : Below w.heap.size w wb) (hf2 : Fr (Own c m r L) wb w2) (hf3 : Fr (Wr q S) w2 w3)
    (hcx : CX w2 c m r B lim (k + 1) hi (mi + 1) L) (hrl : RL w3 q B lim hi (mi + 1) S M) : Post w w3 c m r q B lim k hi mi L M S := by
  have hpb := h.below hb1
  obtain ⟨hrl2, hty2⟩ := after_cache hpb hf2 (L' := L) (fun z hz => .inl hz)
  obtain ⟨hcx3, hty3⟩ := after_ref hcx hty2 hrl2 hf3
  exact ⟨_, _, _, _, _, ⟨hcx3, hrl, hty3, h.same⟩, ((Fr.of_below hb1 _).trans (hf2.mono (fun j hj => .inl hj))).trans (hf3.mono (fun j hj => .inr hj)), fun j hj => .inl hj⟩
/-- .. have dropped one -/
theorem drop_join {w wb w2 w3 : World} {c m r q B k : Nat} {lim hi mi : Int} {L M : List Ent} {S S' : Value} {s : ByteArray} (h : PS w c m r q B lim k hi mi L M S) (hb1 : Below w.heap.size w wb) (hf2 : Fr (Own c m r L) wb w2) (hf3 : Fr (Wr q S) w2 w3)
    (hcx : CX w2 c m r B lim k hi mi (but s L)) (hrl : RL w3 q B lim hi mi S' (but s M)) (hS : ∀ j, Wr q S' j → Wr q S j ∨ w2.heap.size ≤ j) : Post w w3 c m r q B lim k hi mi L M S := by
  have hpb := h.below hb1
  obtain ⟨hrl2, hty2⟩ := after_cache hpb hf2 (L' := but s L) (fun z hz => .inl (but_mem.1 hz).1)
  obtain ⟨hcx3, hty3⟩ := after_ref hcx hty2 hrl2 hf3
  have hs1 := hb1.size
  have hs2 := hf2.size
  refine ⟨_, _, _, _, _, ⟨hcx3.mono (by omega), hrl, hty3, by rw [but_kv, but_kv, h.same]⟩, ((Fr.of_below hb1 _).trans (hf2.mono (fun j hj => .inl hj))).trans (hf3.mono (fun j hj => .inr hj)), fp_sub (fun z hz => .inl (but_mem.1 hz).1) (fun z hz => .inl (but_mem.1 hz).1) (fun j hj => ?_)⟩
  rcases hS j hj with hj | hj
  · exact .inl hj
  · exact .inr (by omega)
/-- both have put an element -/
theorem put_join {w w1 w2 w3 : World} {c m r q B k : Nat} {lim hi mi : Int} {L M : List Ent} {S S' : Value} {x y : Ent} {sz : Nat} {s : ByteArray} (h : PS w c m r q B lim k hi mi L M S) (hb1 : Below w.heap.size w w1) (hf2 : Fr (Own c m r L) w1 w2) (hf3 : Fr (Wr q S) w2 w3)
    (hcx : CX w2 c m r B lim (k + 1) hi mi (evict lim sz (but s L) ++ [x])) (hrl2 : RL w2 q B lim hi mi S M) (hty : Ty5 w2 B (evict lim sz (but s L) ++ [x])) (hrl : RL w3 q B lim hi mi S' (evict lim sz (but s M) ++ [y]))
    (hxb : w1.heap.size ≤ x.b) (hx : ∀ ad, x.A = some ad → 0 < x.val.length → w1.heap.size ≤ ad.block) (hy : ∀ ad, y.A = some ad → w2.heap.size ≤ ad.block) (hS : ∀ j, Wr q S' j → Wr q S j ∨ w2.heap.size ≤ j) (he : kv x = kv y) (gb : Nat) (hg : w.heap.size ≤ gb) (hg1 : gb < w1.heap.size) :
    PostG w w3 c m r q B lim k hi mi L M S gb := by
  obtain ⟨hcx3, hty3⟩ := after_ref hcx hty hrl2 hf3
  have hs1 := hb1.size
  have hs2 := hf2.size
  have hsub : ∀ l : List Ent, ∀ z ∈ evict lim sz (but s l), z ∈ l := fun l z hz => (but_mem.1 (evict_sub z hz)).1
  have hfp : ∀ N, N ≤ w1.heap.size → ∀ j, Fp c m r q (evict lim sz (but s L) ++ [x]) (evict lim sz (but s M) ++ [y]) S' j → Fp c m r q L M S j ∨ N ≤ j := fun N hN => by
    refine fp_sub (fun z hz => ?_) (fun z hz => ?_) (fun j hj => ?_)
    · rcases List.mem_append.1 hz with hz | hz
      · exact .inl (hsub L z hz)
      · simp only [List.mem_singleton] at hz; subst hz
        exact .inr ⟨by omega, fun ad e hp => by have := hx ad e hp; omega⟩
    · rcases List.mem_append.1 hz with hz | hz
      · exact .inl (hsub M z hz)
      · simp only [List.mem_singleton] at hz; subst hz
        exact .inr (fun ad e hp => by have := hy ad e; omega)
    · rcases hS j hj with hj | hj
      · exact .inl hj
      · exact .inr (by omega)
  refine ⟨hg, hi, mi, _, _, S', ⟨hcx3, hrl, hty3, ?_⟩, ?_, hfp _ hs1, fun j hj e => ?_⟩
  · rw [List.map_append, List.map_append, evict_kv, evict_kv, but_kv, but_kv, h.same]
    simp [he]
  · exact ((Fr.of_below hb1 _).trans (hf2.mono (fun j hj => .inl hj))).trans (hf3.mono (fun j hj => .inr hj))
  · rcases hfp w1.heap.size (Nat.le_refl _) j hj with h1 | h1
    · have := (h.fp_lt h1).2; omega
    · omega
theorem lent_C {w : World} {base c : Nat} {A : Option Addr} {l : List Int} (h : LentV w base A c l) : (Kd.int .u8).C w A l.length l := by
  obtain ⟨_, _, hCx⟩ := Kd.R_reads' h.2
  have hT := Kd.C_take (m := l.length) (xs := l ++ [77, 78]) hCx (by simp)
  have e : (l ++ [77, 78]).take l.length = l := by simp
  rw [e] at hT
  exact hT
theorem cx_mi {w : World} {c m r B k : Nat} {lim hi mi : Int} {L : List Ent} (h : CX w c m r B lim k hi mi L) (hk : k ≤ 900000) : 0 ≤ mi ∧ mi ≤ 4611686018427387904 := by
  obtain ⟨nn, _, _, _, _, h4, _⟩ := h
  omega
theorem cx_hi {w : World} {c m r B k : Nat} {lim hi mi : Int} {L : List Ent} (h : CX w c m r B lim k hi mi L) (hk : k ≤ 900000) : 0 ≤ hi ∧ hi ≤ 4611686018427387904 := by
  obtain ⟨nn, _, _, _, h3, _⟩ := h
  omega
theorem get_miss' {w : World} {c m r B k : Nat} {lim hi mi : Int} {L : List Ent} (h : CX w c m r B lim k hi mi L) (hk : k ≤ 1000000) (s : ByteArray) (hs : s.size ≤ maxLen) (hl : lookE L s = none) :
    Calls Try.prog 12 #[PT c, .string s] w fun e w' => e = .returned (.tuple #[.slice none 0 0, .bool false]) ∧ CX w' c m r B lim (k + 1) hi (mi + 1) L ∧ Fr (Own c m r L) w w' := by
  obtain ⟨nn, h, h1, h2, h3, h4, h5⟩ := h
  refine (Pb.get_miss c m r nn lim hi mi L s w h hs hl (by omega)).mono ?_
  rintro e w' ⟨rfl, hh, hf⟩
  exact ⟨rfl, ⟨nn, hh, by omega, by omega, ⟨h3.1, by omega⟩, ⟨by omega, by omega⟩, h5⟩, hf.mono (fun j hj => .inl hj)⟩
theorem get_hit' {w : World} {c m r B k : Nat} {lim hi mi : Int} {X Y : List Ent} {x : Ent} {s : ByteArray} (h : CX w c m r B lim k hi mi (X ++ x :: Y)) (hk : k ≤ 1000000) (hX : ∀ z ∈ X, z.key ≠ s) (hs : x.key = s) :
    Calls Try.prog 12 #[PT c, .string s] w fun e w' => ∃ v, e = .returned (.tuple #[v, .bool true]) ∧ (Kd.int .u8).R 5 w' w.heap.size (fun _ => True) v x.val ∧ CX w' c m r B lim (k + 1) (hi + 1) mi (X ++ Y ++ [x]) ∧ Fr (Own c m r (X ++ x :: Y)) w w' := by
  subst hs
  obtain ⟨nn, h, h1, h2, h3, h4, h5⟩ := h
  refine (get_hit c m r nn lim hi mi X Y x w h (by omega)).mono ?_
  rintro e w' ⟨v, rfl, hR, hh, hf⟩
  refine ⟨v, rfl, hR, ⟨nn, hh, by omega, ?_, ⟨by omega, by omega⟩, ⟨h4.1, by omega⟩, fun j hj => h5 j (Tu.own_turn hj)⟩, hf⟩
  simp at h2 ⊢
  omega
theorem peek_miss' {w : World} {c m r B k : Nat} {lim hi mi : Int} {L : List Ent} (h : CX w c m r B lim k hi mi L) (s : ByteArray) (hs : s.size ≤ maxLen) (hl : lookE L s = none) :
    Calls Try.prog 11 #[PT c, .string s] w fun e w' => e = .returned (.tuple #[.slice none 0 0, .bool false]) ∧ w' = w := by
  obtain ⟨nn, h, _⟩ := h
  exact peek_miss c m r nn lim hi mi L s w h hs hl
theorem cx_hits {w : World} {c m r B k : Nat} {lim hi mi : Int} {L : List Ent} (h : CX w c m r B lim k hi mi L) : Calls Try.prog 18 #[PT c] w fun e w' => e = .returned (.tuple #[.int .i64 hi, .int .i64 mi]) ∧ ∃ k, w' = w.drewN k := by
  obtain ⟨nn, h, _⟩ := h
  exact hits_is c m r nn lim hi mi L w h
theorem cx_lim {w : World} {c m r B k : Nat} {lim hi mi : Int} {L : List Ent} (h : CX w c m r B lim k hi mi L) : 1 ≤ lim ∧ lim ≤ 1048576 := by
  obtain ⟨nn, h, _⟩ := h
  exact ⟨h.low.1, h.low.2.1⟩
set_option maxHeartbeats 16000000 in
set_option maxRecDepth 100000 in
theorem step_is (w : World) (c m r q B k : Nat) (lim hi mi : Int) (L M : List Ent) (S : Value) (h : PS w c m r q B lim k hi mi L M S) (hk : k ≤ 900000) (hB : B ≤ w.heap.size) (kd : Int) (s : ByteArray) (A : Option Addr) (cc : Nat) (xs : List Int)
    (hC : (Kd.int .u8).C w A xs.length xs) (hc : xs.length ≤ cc) (hs : s.size + xs.length ≤ 1048576) (hA : ∀ ad, A = some ad → 0 < xs.length → ad.block < B) :
    Calls Try.prog 17 #[PT c, PT q, .agg #[.int .i64 kd, .string s, .slice A xs.length cc]] w fun e w' => e = .returned (.bool true) ∧ Post w w' c m r q B lim k hi mi L M S := by
  have H := Aside0.mk h
  have HC := Aside0.mk hC
  have HCC := Aside0.mk hc
  have HA := Aside0.mk hA
  have HB := Aside0.mk hB
  obtain ⟨n, hn⟩ : ∃ n, n = xs.length := ⟨_, rfl⟩
  rw [← hn] at hs hc ⊢
  have HN := Aside0.mk hn
  have HSK : Aside0 (s.size ≤ maxLen) := ⟨by simp only [maxLen]; omega⟩
  clear h hC hA hB hn
  go_enter Try.func17, Try.ntmps17
  obtain ⟨wb, hwb⟩ : ∃ wb, wb = w.alloc (.cells #[.int .i64 kd, .string s, .slice A n cc] 31) := ⟨_, rfl⟩
  obtain ⟨bx, hbx⟩ : ∃ bx, bx = w.heap.size := ⟨_, rfl⟩
  have bb : Below w.heap.size w wb := by rw [hwb]; exact below_alloc (Below.refl _ _) _
  have hx : wb.heap[bx]? = some (.cells #[.int .i64 kd, .string s, .slice A n cc] 31 (0, 0)) := by rw [hwb, hbx]; exact blk_new _ _
  go_upto_block 0 with fail
  rw [← hwb, ← hbx]
  have BB := Aside0.mk bb
  have HX := Aside0.mk hx
  have x0 := blk_cell hx 0
  have x1 := blk_cell hx 1
  have x2 := blk_cell hx 2
  simp at x0 x1 x2
  have HBX : Aside0 (bx = w.heap.size) := ⟨hbx⟩
  clear hwb hbx bb hx
  go_cut [7] (fun s7 wx => s7 = .bool true ∧ Aside0 (Post w wx c m r q B lim k hi mi L M S))
  case first =>
    have HPB := Aside0.mk (H.out.below BB.out)
    by_cases h0 : kd = 0
    · subst h0
      have hle := lent_is A cc xs wb (Kd.C_below HC.out BB.out) (by have := HN.out; omega)
      rw [← HN.out] at hle
      go_wp2_with fail
      refine hle.mono ?_
      rintro e w1 ⟨A1, c1, rfl, hlv, hb1⟩
      have HLV := Aside0.mk hlv
      have HB1 := Aside0.mk hb1
      have HBW1 := Aside0.mk (below_then BB.out BB.out.size hb1)
      have hx1 := (hb1.block bx (blk_lt HX.out)).trans HX.out
      have HX1 := Aside0.mk hx1
      clear hle hlv hb1 x0 x1 x2
      obtain ⟨gb, cur, hA1, hg1, hg2, hg3, hg4⟩ := ints_blk HLV.out.2 (by omega)
      subst hA1
      have y1 := blk_cell hx1 1
      have y2 := blk_cell hx1 2
      simp at y1 y2
      have HGB : Aside0 (w.heap.size ≤ gb ∧ gb < w1.heap.size) := ⟨Nat.le_trans BB.out.size hg1, hg2⟩
      clear hx1 hg1 hg2 hg3 hg4
      go_upto_region 5 with fail
      go_cut [7] (fun s7 wx => s7 = .bool true ∧ Aside0 (PostG w wx c m r q B lim k hi mi L M S gb) ∧ Aside0 (∃ cur, wx.heap[gb]? = some (.cells cur 5 (0, 0)) ∧ ∀ i, i < n → ∃ v, cur[i]? = some (.int .u8 v)))
      case first =>
        have hps := H.out.below (HBW1.out.trans (below_drew (Below.refl _ _)))
        by_cases hbig : lim < (s.size : Int) + n
        · have HFIT := Aside0.mk hbig
          have HPS := Aside0.mk hps
          have HBS : Aside0 (B ≤ w1.drew.heap.size) := ⟨Nat.le_trans HB.out HBW1.out.size⟩
          have HCL : Aside0 ((Kd.int .u8).C w1 (some ⟨gb, 0, none⟩) xs.length xs) := ⟨lent_C HLV.out⟩
          clear hbig hps
          refine start_ (S := fun W => W.cell? ⟨bx, 1, none⟩ = some (.string s) ∧ W.cell? ⟨bx, 2, none⟩ = some (.slice A n cc)) (ds := []) #[false, false, false, false, false, false, false, false, false, false, false, false, false, false, false, false, false, false, false, false] (by kernel_rfl) rfl rfl ⟨y1, y2⟩ (fun hHeld => ?_)
          refine take_ (i := 0) (N := (some 24)) #[true, false, false, false, false, false, false, false, false, false, false, false, false, false, false, false, false, false, false, false] rfl rfl (by kernel_rfl) (fun _ _ _ h => h) (.inl ⟨by rfl, by (intro w hSw; (try dsimp only at hSw); go_simp <;> with_reducible rfl)⟩) hHeld rfl ?_
          (try simp only [Act.put, List.setIfInBounds_toArray, List.set_cons_zero, List.set_cons_succ])
          refine take_ (i := 1) (N := (some 25)) #[true, true, false, false, false, false, false, false, false, false, false, false, false, false, false, false, false, false, false, false] rfl rfl (by kernel_rfl) (fun _ _ _ h => h) (.inl ⟨by rfl, by (intro w hSw; (try dsimp only at hSw); go_simp <;> with_reducible rfl)⟩) hHeld rfl ?_
          (try simp only [Act.put, List.setIfInBounds_toArray, List.set_cons_zero, List.set_cons_succ])
          refine take_ (i := 2) (N := (some 26)) #[true, true, true, false, false, false, false, false, false, false, false, false, false, false, false, false, false, false, false, false] rfl rfl (by kernel_rfl) (fun _ _ _ h => h) (.inl ⟨by rfl, by (intro w hSw; (try dsimp only at hSw); go_simp <;> with_reducible rfl)⟩) hHeld rfl ?_
          (try simp only [Act.put, List.setIfInBounds_toArray, List.set_cons_zero, List.set_cons_succ])
          refine take_ (i := 3) (N := (some 27)) #[true, true, true, true, false, false, false, false, false, false, false, false, false, false, false, false, false, false, false, false] rfl rfl (by kernel_rfl) (fun _ _ _ h => h) (.inl ⟨by rfl, by (intro w hSw; (try dsimp only at hSw); go_simp <;> with_reducible rfl)⟩) hHeld rfl ?_
          (try simp only [Act.put, List.setIfInBounds_toArray, List.set_cons_zero, List.set_cons_succ])
          refine take_ (i := 6) (N := (some 30)) #[true, true, true, true, false, false, true, false, false, false, false, false, false, false, false, false, false, false, false, false] rfl rfl (by kernel_rfl) (fun _ _ _ h => h) (.inl ⟨by rfl, by (intro w hSw; (try dsimp only at hSw); go_simp <;> with_reducible rfl)⟩) hHeld rfl ?_
          (try simp only [Act.put, List.setIfInBounds_toArray, List.set_cons_zero, List.set_cons_succ])
          refine take_ (i := 7) (N := (some 31)) #[true, true, true, true, false, false, true, true, false, false, false, false, false, false, false, false, false, false, false, false] rfl rfl (by kernel_rfl) (fun _ _ _ h => h) (.inl ⟨by rfl, by (intro w hSw; (try dsimp only at hSw); go_simp <;> with_reducible rfl)⟩) hHeld rfl ?_
          (try simp only [Act.put, List.setIfInBounds_toArray, List.set_cons_zero, List.set_cons_succ])
          refine take_ (i := 8) (N := (some 32)) #[true, true, true, true, false, false, true, true, true, false, false, false, false, false, false, false, false, false, false, false] rfl rfl (by kernel_rfl) (fun _ _ _ h => h) (.inl ⟨by rfl, by (intro w hSw; (try dsimp only at hSw); go_simp <;> with_reducible rfl)⟩) hHeld rfl ?_
          (try simp only [Act.put, List.setIfInBounds_toArray, List.set_cons_zero, List.set_cons_succ])
          refine take_ (i := 9) (N := (some 33)) #[true, true, true, true, false, false, true, true, true, true, false, false, false, false, false, false, false, false, false, false] rfl rfl (by kernel_rfl) (fun _ _ _ h => h) (.inl ⟨by rfl, by (intro w hSw; (try dsimp only at hSw); go_simp <;> with_reducible rfl)⟩) hHeld rfl ?_
          (try simp only [Act.put, List.setIfInBounds_toArray, List.set_cons_zero, List.set_cons_succ])
          refine take_ (i := 10) (N := (some 34)) #[true, true, true, true, false, false, true, true, true, true, true, false, false, false, false, false, false, false, false, false] rfl rfl (by kernel_rfl) (fun _ _ _ h => h) (.inl ⟨by rfl, by (intro w hSw; (try dsimp only at hSw); go_simp <;> with_reducible rfl)⟩) hHeld rfl ?_
          (try simp only [Act.put, List.setIfInBounds_toArray, List.set_cons_zero, List.set_cons_succ])
          refine one_ (i := 4) (N := (some 28)) #[true, true, true, true, true, false, true, true, true, true, true, false, false, false, false, false, false, false, false, false] rfl rfl (by kernel_rfl) (by simp) (fun K hK => ?_)
          go_simp
          have hcx := HPS.out.cx
          have hput := cx_big hcx s (some ⟨gb, 0, none⟩) c1 xs (by rw [← HN.out]; omega) (by rw [← HN.out]; exact HFIT.out) (Kd.C_drew HCL.out) (by have := HLV.out.1; omega) (by rw [← HN.out]; omega)
          rw [← HN.out] at hput
          (with_reducible refine hput.mono ?_)
          rintro e w2 ⟨rfl, hbe⟩
          have hb2 : w2.heap[bx]? = some (.cells #[.int .i64 0, .string s, .slice A n cc] 31 (0, 0)) := (hbe.block bx (blk_lt HX1.out)).trans HX1.out
          have z1 := blk_cell hb2 1
          have z2 := blk_cell hb2 2
          simp at z1 z2
          have zz1 := z1
          have zz2 := z2
          have hps2 := HPS.out.below hbe
          have hC2 := Kd.C_below HC.out (HBW1.out.trans ((below_drew (Below.refl _ w1)).trans (hbe.mono (Nat.le_refl _)) |>.mono HBW1.out.size))
          have hlv2 : LentV w2 wb.heap.size (some ⟨gb, 0, none⟩) c1 xs := ⟨HLV.out.1, Kd.R_below (Kd.R_drew HLV.out.2) hbe⟩
          have hrp := rput_big w2 q B lim hi mi S M s A cc n hps2.rl (by omega) HFIT.out
          have hst := stays_is (some ⟨gb, 0, none⟩) c1 A cc xs w2 wb.heap.size hlv2 hC2 (by rw [← HN.out]; omega)
          rw [← HN.out] at hst
          have hnm := num_is 6 w2
          have HBE := Aside0.mk hbe
          have HLV3 := Aside0.mk hlv2
          clear hput hcx hb2 hps2 hC2 hlv2 hbe
          refine hK.out _ _ ⟨z1, z2⟩ (fun hHeld => ?_)
          clear hK K
          (try simp only [Act.put, List.setIfInBounds_toArray, List.set_cons_zero, List.set_cons_succ])
          refine one_ (i := 5) (N := (some 29)) #[true, true, true, true, true, true, true, true, true, true, true, false, false, false, false, false, false, false, false, false] rfl rfl (by kernel_rfl) (by simp) (fun K hK => ?_)
          go_simp
          (with_reducible refine hnm.mono ?_)
          rintro e wt ⟨rfl, hwt⟩
          rw [hwt]
          clear hwt wt
          refine hK.out _ _ ⟨z1, z2⟩ (fun hHeld => ?_)
          clear hK K
          (try simp only [Act.put, List.setIfInBounds_toArray, List.set_cons_zero, List.set_cons_succ])
          refine one_ (i := 11) (N := (some 35)) #[true, true, true, true, true, true, true, true, true, true, true, true, false, false, false, false, false, false, false, false] rfl rfl (by kernel_rfl) (by simp) (fun K hK => ?_)
          go_simp
          (with_reducible refine hrp.mono ?_)
          rintro e wt ⟨rfl, hwt⟩
          rw [hwt]
          clear hwt wt
          refine hK.out _ _ ⟨zz1, zz2⟩ (fun hHeld => ?_)
          clear hK K
          (try simp only [Act.put, List.setIfInBounds_toArray, List.set_cons_zero, List.set_cons_succ])
          refine take_ (i := 12) (N := (some 36)) #[true, true, true, true, true, true, true, true, true, true, true, true, true, false, false, false, false, false, false, false] rfl rfl (by kernel_rfl) (fun _ _ _ h => h) (.inl ⟨by rfl, by (intro w hSw; (try dsimp only at hSw); go_simp <;> with_reducible rfl)⟩) hHeld rfl ?_
          (try simp only [Act.put, List.setIfInBounds_toArray, List.set_cons_zero, List.set_cons_succ])
          refine take_ (i := 13) (N := (some 37)) #[true, true, true, true, true, true, true, true, true, true, true, true, true, true, false, false, false, false, false, false] rfl rfl (by kernel_rfl) (fun _ _ _ h => h) (.inl ⟨by rfl, by (intro w hSw; (try dsimp only at hSw); go_simp <;> with_reducible rfl)⟩) hHeld rfl ?_
          (try simp only [Act.put, List.setIfInBounds_toArray, List.set_cons_zero, List.set_cons_succ])
          refine take_ (i := 14) (N := (some 38)) #[true, true, true, true, true, true, true, true, true, true, true, true, true, true, true, false, false, false, false, false] rfl rfl (by kernel_rfl) (fun _ _ _ h => h) (.inl ⟨by rfl, by (intro w hSw; (try dsimp only at hSw); go_simp <;> with_reducible rfl)⟩) hHeld rfl ?_
          (try simp only [Act.put, List.setIfInBounds_toArray, List.set_cons_zero, List.set_cons_succ])
          refine take_ (i := 15) (N := (some 39)) #[true, true, true, true, true, true, true, true, true, true, true, true, true, true, true, true, false, false, false, false] rfl rfl (by kernel_rfl) (fun _ _ _ h => h) (.inl ⟨by rfl, by (intro w hSw; (try dsimp only at hSw); go_simp <;> with_reducible rfl)⟩) hHeld rfl ?_
          (try simp only [Act.put, List.setIfInBounds_toArray, List.set_cons_zero, List.set_cons_succ])
          refine take_ (i := 16) (N := (some 40)) #[true, true, true, true, true, true, true, true, true, true, true, true, true, true, true, true, true, false, false, false] rfl rfl (by kernel_rfl) (fun _ _ _ h => h) (.inl ⟨by rfl, by (intro w hSw; (try dsimp only at hSw); go_simp <;> with_reducible rfl)⟩) hHeld rfl ?_
          (try simp only [Act.put, List.setIfInBounds_toArray, List.set_cons_zero, List.set_cons_succ])
          refine one_ (i := 17) (N := (some 41)) #[true, true, true, true, true, true, true, true, true, true, true, true, true, true, true, true, true, true, false, false] rfl rfl (by kernel_rfl) (by simp) (fun K hK => ?_)
          go_simp
          (with_reducible refine hst.mono ?_)
          rintro e w4 ⟨rfl, kq, hw4⟩
          have zz3 : w4.cell? ⟨bx, 1, none⟩ = some (.string s) := by rw [hw4]; exact zz1
          have zz4 : w4.cell? ⟨bx, 2, none⟩ = some (.slice A n cc) := by rw [hw4]; exact zz2
          have HW4 := Aside0.mk hw4
          clear hw4 hst
          refine hK.out _ _ ⟨zz3, zz4⟩ (fun hHeld => ?_)
          clear hK K
          (try simp only [Act.put, List.setIfInBounds_toArray, List.set_cons_zero, List.set_cons_succ])
          refine take_ (i := 18) (N := (some 42)) #[true, true, true, true, true, true, true, true, true, true, true, true, true, true, true, true, true, true, true, false] rfl rfl (by kernel_rfl) (fun _ _ _ h => h) (.inl ⟨by rfl, by (intro w hSw; (try dsimp only at hSw); go_simp <;> with_reducible rfl)⟩) hHeld rfl ?_
          (try simp only [Act.put, List.setIfInBounds_toArray, List.set_cons_zero, List.set_cons_succ])
          refine take_ (i := 19) (N := (some 7)) #[true, true, true, true, true, true, true, true, true, true, true, true, true, true, true, true, true, true, true, true] rfl rfl (by kernel_rfl) (fun _ _ _ h => h) (.inl ⟨by rfl, by (intro w hSw; (try dsimp only at hSw); go_simp <;> with_reducible rfl)⟩) hHeld rfl ?_
          (try simp only [Act.put, List.setIfInBounds_toArray, List.set_cons_zero, List.set_cons_succ])
          refine done_ (by kernel_rfl) ?_
          go_wp2_with fail
          go_meet
          refine ⟨rfl, ⟨?_⟩, ⟨?_⟩⟩
          · rw [HW4.out]
            refine PostG.below ?_ (pw_below_drewN (Below.refl _ _) kq)
            exact postG_none H.out (HBW1.out.trans ((below_drew (Below.refl _ w1)).trans HBE.out |>.mono HBW1.out.size)) HGB.out.1
          · obtain ⟨gb', cur, hA', _, _, hg3, hg4⟩ := ints_blk HLV3.out.2 (by omega)
            injection hA' with hA'
            injection hA' with hA' _ _
            subst hA'
            rw [HW4.out]
            exact ⟨cur, hg3, fun i hi => hg4 i (by have := HN.out; omega)⟩

        · have HFIT := Aside0.mk hbig
          have HPS := Aside0.mk hps
          have HBS : Aside0 (B ≤ w1.drew.heap.size) := ⟨Nat.le_trans HB.out HBW1.out.size⟩
          have HCL : Aside0 ((Kd.int .u8).C w1 (some ⟨gb, 0, none⟩) xs.length xs) := ⟨lent_C HLV.out⟩
          clear hbig hps
          refine start_ (S := fun W => W.cell? ⟨bx, 1, none⟩ = some (.string s) ∧ W.cell? ⟨bx, 2, none⟩ = some (.slice A n cc)) (ds := []) #[false, false, false, false, false, false, false, false, false, false, false, false, false, false, false, false, false, false, false, false] (by kernel_rfl) rfl rfl ⟨y1, y2⟩ (fun hHeld => ?_)
          refine take_ (i := 0) (N := (some 24)) #[true, false, false, false, false, false, false, false, false, false, false, false, false, false, false, false, false, false, false, false] rfl rfl (by kernel_rfl) (fun _ _ _ h => h) (.inl ⟨by rfl, by (intro w hSw; (try dsimp only at hSw); go_simp <;> with_reducible rfl)⟩) hHeld rfl ?_
          (try simp only [Act.put, List.setIfInBounds_toArray, List.set_cons_zero, List.set_cons_succ])
          refine take_ (i := 1) (N := (some 25)) #[true, true, false, false, false, false, false, false, false, false, false, false, false, false, false, false, false, false, false, false] rfl rfl (by kernel_rfl) (fun _ _ _ h => h) (.inl ⟨by rfl, by (intro w hSw; (try dsimp only at hSw); go_simp <;> with_reducible rfl)⟩) hHeld rfl ?_
          (try simp only [Act.put, List.setIfInBounds_toArray, List.set_cons_zero, List.set_cons_succ])
          refine take_ (i := 2) (N := (some 26)) #[true, true, true, false, false, false, false, false, false, false, false, false, false, false, false, false, false, false, false, false] rfl rfl (by kernel_rfl) (fun _ _ _ h => h) (.inl ⟨by rfl, by (intro w hSw; (try dsimp only at hSw); go_simp <;> with_reducible rfl)⟩) hHeld rfl ?_
          (try simp only [Act.put, List.setIfInBounds_toArray, List.set_cons_zero, List.set_cons_succ])
          refine take_ (i := 3) (N := (some 27)) #[true, true, true, true, false, false, false, false, false, false, false, false, false, false, false, false, false, false, false, false] rfl rfl (by kernel_rfl) (fun _ _ _ h => h) (.inl ⟨by rfl, by (intro w hSw; (try dsimp only at hSw); go_simp <;> with_reducible rfl)⟩) hHeld rfl ?_
          (try simp only [Act.put, List.setIfInBounds_toArray, List.set_cons_zero, List.set_cons_succ])
          refine take_ (i := 6) (N := (some 30)) #[true, true, true, true, false, false, true, false, false, false, false, false, false, false, false, false, false, false, false, false] rfl rfl (by kernel_rfl) (fun _ _ _ h => h) (.inl ⟨by rfl, by (intro w hSw; (try dsimp only at hSw); go_simp <;> with_reducible rfl)⟩) hHeld rfl ?_
          (try simp only [Act.put, List.setIfInBounds_toArray, List.set_cons_zero, List.set_cons_succ])
          refine take_ (i := 7) (N := (some 31)) #[true, true, true, true, false, false, true, true, false, false, false, false, false, false, false, false, false, false, false, false] rfl rfl (by kernel_rfl) (fun _ _ _ h => h) (.inl ⟨by rfl, by (intro w hSw; (try dsimp only at hSw); go_simp <;> with_reducible rfl)⟩) hHeld rfl ?_
          (try simp only [Act.put, List.setIfInBounds_toArray, List.set_cons_zero, List.set_cons_succ])
          refine take_ (i := 8) (N := (some 32)) #[true, true, true, true, false, false, true, true, true, false, false, false, false, false, false, false, false, false, false, false] rfl rfl (by kernel_rfl) (fun _ _ _ h => h) (.inl ⟨by rfl, by (intro w hSw; (try dsimp only at hSw); go_simp <;> with_reducible rfl)⟩) hHeld rfl ?_
          (try simp only [Act.put, List.setIfInBounds_toArray, List.set_cons_zero, List.set_cons_succ])
          refine take_ (i := 9) (N := (some 33)) #[true, true, true, true, false, false, true, true, true, true, false, false, false, false, false, false, false, false, false, false] rfl rfl (by kernel_rfl) (fun _ _ _ h => h) (.inl ⟨by rfl, by (intro w hSw; (try dsimp only at hSw); go_simp <;> with_reducible rfl)⟩) hHeld rfl ?_
          (try simp only [Act.put, List.setIfInBounds_toArray, List.set_cons_zero, List.set_cons_succ])
          refine take_ (i := 10) (N := (some 34)) #[true, true, true, true, false, false, true, true, true, true, true, false, false, false, false, false, false, false, false, false] rfl rfl (by kernel_rfl) (fun _ _ _ h => h) (.inl ⟨by rfl, by (intro w hSw; (try dsimp only at hSw); go_simp <;> with_reducible rfl)⟩) hHeld rfl ?_
          (try simp only [Act.put, List.setIfInBounds_toArray, List.set_cons_zero, List.set_cons_succ])
          refine one_ (i := 4) (N := (some 28)) #[true, true, true, true, true, false, true, true, true, true, true, false, false, false, false, false, false, false, false, false] rfl rfl (by kernel_rfl) (by simp) (fun K hK => ?_)
          go_simp
          have hcx := HPS.out.cx
          have hput := cx_put hcx (by omega) HBS.out s (some ⟨gb, 0, none⟩) c1 xs (by rw [← HN.out]; omega) (by rw [← HN.out]; exact HFIT.out) (Kd.C_drew HCL.out) (by have := HLV.out.1; omega) (by rw [← HN.out]; omega)
          rw [← HN.out] at hput
          (with_reducible refine hput.mono ?_)
          rintro e w2 ⟨rfl, x, kx, vx, gx, hx2, hf2, hxA⟩
          have hb2 : w2.heap[bx]? = some (.cells #[.int .i64 0, .string s, .slice A n cc] 31 (0, 0)) := hf2.heap (w := w1.drew) HX1.out (own_not hcx (w := w1.drew) HX1.out (by decide) (by decide))
          have z1 := blk_cell hb2 1
          have z2 := blk_cell hb2 2
          simp at z1 z2
          obtain ⟨hrl2, hty2⟩ := after_cache HPS.out hf2 (L' := evict lim (s.size + n) (but s L) ++ [x]) (fun z hz => by
            rcases List.mem_append.1 hz with hz | hz
            · exact .inl (but_mem.1 (evict_sub z hz)).1
            · simp only [List.mem_singleton] at hz
              subst hz
              exact .inr (fun ad e hp => ⟨Nat.le_trans HBS.out (hxA ad e hp).1, (hxA ad e hp).2⟩))
          have hC2 := arg_C (Kd.C_below HC.out (HBW1.out.trans (below_drew (Below.refl _ _)))) hf2 HA.out (cx_base hcx)
          have hlv2 := lentv_fr (w := w1.drew) ⟨HLV.out.1, Kd.R_drew HLV.out.2⟩ hf2 (fun j hj => HPB.out.cx.own_lt hj)
          have hrp := rput_fit w2 q B lim hi mi S M s A cc xs hrl2 HPS.out.nodup (by rw [HPS.out.len]; obtain ⟨_, _, _, h2, _⟩ := hcx; omega) (Nat.le_trans HBS.out hf2.size) (by rw [← HN.out]; omega) (by rw [← HN.out]; exact HFIT.out) (cx_lim hcx) (by rw [HPS.out.usedM]; exact hcx.low) hC2 (by rw [← HN.out]; exact hc) (fun ad e hp hw => by have h1 := HA.out ad e hp; have h2 := (HPS.out.fp_lt (.inl (.inr hw))).1; omega)
          rw [← HN.out] at hrp
          have hnm := num_is 0 w2
          have HX2 := Aside0.mk hx2
          have HF2 := Aside0.mk hf2
          have HXA := Aside0.mk hxA
          have KX := Aside0.mk kx
          have VX := Aside0.mk vx
          have GX := Aside0.mk gx
          have HRL2 := Aside0.mk hrl2
          have HTY2 := Aside0.mk hty2
          have HC2 := Aside0.mk hC2
          have HLV2 := Aside0.mk hlv2
          have HBX2 := Aside0.mk hb2
          clear hput hcx kx vx gx hx2 hf2 hxA hrl2 hty2 hC2 hlv2 hb2
          refine hK.out _ _ ⟨z1, z2⟩ (fun hHeld => ?_)
          clear hK K
          (try simp only [Act.put, List.setIfInBounds_toArray, List.set_cons_zero, List.set_cons_succ])
          refine one_ (i := 5) (N := (some 29)) #[true, true, true, true, true, true, true, true, true, true, true, false, false, false, false, false, false, false, false, false] rfl rfl (by kernel_rfl) (by simp) (fun K hK => ?_)
          go_simp
          (with_reducible refine hnm.mono ?_)
          rintro e wt ⟨rfl, hwt⟩
          rw [hwt]
          clear hwt wt
          refine hK.out _ _ ⟨z1, z2⟩ (fun hHeld => ?_)
          clear hK K
          (try simp only [Act.put, List.setIfInBounds_toArray, List.set_cons_zero, List.set_cons_succ])
          refine one_ (i := 11) (N := (some 35)) #[true, true, true, true, true, true, true, true, true, true, true, true, false, false, false, false, false, false, false, false] rfl rfl (by kernel_rfl) (by simp) (fun K hK => ?_)
          go_simp
          (with_reducible refine hrp.mono ?_)
          rintro e w3 ⟨rfl, S3, y, ky, vy, hyA, hrl3, hf3, hS3⟩
          have hb3 : w3.heap[bx]? = some (.cells #[.int .i64 0, .string s, .slice A n cc] 31 (0, 0)) := hf3.heap HBX2.out (fun hw => by
            rcases wr_ty HRL2.out hw with ⟨cs, e⟩ | ⟨cs, e⟩
            · exact absurd (cells_ty HBX2.out e) (by decide)
            · exact absurd (cells_ty HBX2.out e) (by decide))
          have zz1 := blk_cell hb3 1
          have zz2 := blk_cell hb3 2
          simp at zz1 zz2
          have hC3 := arg_C HC2.out hf3 HA.out (fun j hj => (HPS.out.fp_lt (.inl (.inr hj))).1)
          have hlv3 := lentv_fr HLV2.out hf3 (fun j hj => HPB.out.rl.wr_lt hj)
          have hst := stays_is (some ⟨gb, 0, none⟩) c1 A cc xs w3 wb.heap.size hlv3 hC3 (by rw [← HN.out]; omega)
          rw [← HN.out] at hst
          have HRL3 := Aside0.mk hrl3
          have HF3 := Aside0.mk hf3
          have HYA := Aside0.mk hyA
          have HS3 := Aside0.mk hS3
          have KY := Aside0.mk ky
          have VY := Aside0.mk vy
          have HLV3 := Aside0.mk hlv3
          clear hrp hb3 hC3 hlv3 hrl3 hf3 hyA hS3 ky vy
          refine hK.out _ _ ⟨zz1, zz2⟩ (fun hHeld => ?_)
          clear hK K
          (try simp only [Act.put, List.setIfInBounds_toArray, List.set_cons_zero, List.set_cons_succ])
          refine take_ (i := 12) (N := (some 36)) #[true, true, true, true, true, true, true, true, true, true, true, true, true, false, false, false, false, false, false, false] rfl rfl (by kernel_rfl) (fun _ _ _ h => h) (.inl ⟨by rfl, by (intro w hSw; (try dsimp only at hSw); go_simp <;> with_reducible rfl)⟩) hHeld rfl ?_
          (try simp only [Act.put, List.setIfInBounds_toArray, List.set_cons_zero, List.set_cons_succ])
          refine take_ (i := 13) (N := (some 37)) #[true, true, true, true, true, true, true, true, true, true, true, true, true, true, false, false, false, false, false, false] rfl rfl (by kernel_rfl) (fun _ _ _ h => h) (.inl ⟨by rfl, by (intro w hSw; (try dsimp only at hSw); go_simp <;> with_reducible rfl)⟩) hHeld rfl ?_
          (try simp only [Act.put, List.setIfInBounds_toArray, List.set_cons_zero, List.set_cons_succ])
          refine take_ (i := 14) (N := (some 38)) #[true, true, true, true, true, true, true, true, true, true, true, true, true, true, true, false, false, false, false, false] rfl rfl (by kernel_rfl) (fun _ _ _ h => h) (.inl ⟨by rfl, by (intro w hSw; (try dsimp only at hSw); go_simp <;> with_reducible rfl)⟩) hHeld rfl ?_
          (try simp only [Act.put, List.setIfInBounds_toArray, List.set_cons_zero, List.set_cons_succ])
          refine take_ (i := 15) (N := (some 39)) #[true, true, true, true, true, true, true, true, true, true, true, true, true, true, true, true, false, false, false, false] rfl rfl (by kernel_rfl) (fun _ _ _ h => h) (.inl ⟨by rfl, by (intro w hSw; (try dsimp only at hSw); go_simp <;> with_reducible rfl)⟩) hHeld rfl ?_
          (try simp only [Act.put, List.setIfInBounds_toArray, List.set_cons_zero, List.set_cons_succ])
          refine take_ (i := 16) (N := (some 40)) #[true, true, true, true, true, true, true, true, true, true, true, true, true, true, true, true, true, false, false, false] rfl rfl (by kernel_rfl) (fun _ _ _ h => h) (.inl ⟨by rfl, by (intro w hSw; (try dsimp only at hSw); go_simp <;> with_reducible rfl)⟩) hHeld rfl ?_
          (try simp only [Act.put, List.setIfInBounds_toArray, List.set_cons_zero, List.set_cons_succ])
          refine one_ (i := 17) (N := (some 41)) #[true, true, true, true, true, true, true, true, true, true, true, true, true, true, true, true, true, true, false, false] rfl rfl (by kernel_rfl) (by simp) (fun K hK => ?_)
          go_simp
          (with_reducible refine hst.mono ?_)
          rintro e w4 ⟨rfl, kq, hw4⟩
          have zz3 : w4.cell? ⟨bx, 1, none⟩ = some (.string s) := by rw [hw4]; exact zz1
          have zz4 : w4.cell? ⟨bx, 2, none⟩ = some (.slice A n cc) := by rw [hw4]; exact zz2
          have HW4 := Aside0.mk hw4
          clear hw4 hst
          refine hK.out _ _ ⟨zz3, zz4⟩ (fun hHeld => ?_)
          clear hK K
          (try simp only [Act.put, List.setIfInBounds_toArray, List.set_cons_zero, List.set_cons_succ])
          refine take_ (i := 18) (N := (some 42)) #[true, true, true, true, true, true, true, true, true, true, true, true, true, true, true, true, true, true, true, false] rfl rfl (by kernel_rfl) (fun _ _ _ h => h) (.inl ⟨by rfl, by (intro w hSw; (try dsimp only at hSw); go_simp <;> with_reducible rfl)⟩) hHeld rfl ?_
          (try simp only [Act.put, List.setIfInBounds_toArray, List.set_cons_zero, List.set_cons_succ])
          refine take_ (i := 19) (N := (some 7)) #[true, true, true, true, true, true, true, true, true, true, true, true, true, true, true, true, true, true, true, true] rfl rfl (by kernel_rfl) (fun _ _ _ h => h) (.inl ⟨by rfl, by (intro w hSw; (try dsimp only at hSw); go_simp <;> with_reducible rfl)⟩) hHeld rfl ?_
          (try simp only [Act.put, List.setIfInBounds_toArray, List.set_cons_zero, List.set_cons_succ])
          refine done_ (by kernel_rfl) ?_
          go_wp2_with fail
          go_meet
          refine ⟨rfl, ⟨?_⟩, ⟨?_⟩⟩
          · rw [HW4.out]
            refine PostG.below ?_ (pw_below_drewN (Below.refl _ _) kq)
            exact put_join (w1 := w1.drew) H.out (HBW1.out.trans (below_drew (Below.refl _ w1))) HF2.out HF3.out HX2.out HRL2.out HTY2.out HRL3.out GX.out (fun ad e hp => (HXA.out ad e hp).1) HYA.out HS3.out (by simp only [kv]; rw [KX.out, VX.out, KY.out, VY.out]) gb HGB.out.1 HGB.out.2
          · obtain ⟨gb', cur, hA', _, _, hg3, hg4⟩ := ints_blk HLV3.out.2 (by omega)
            injection hA' with hA'
            injection hA' with hA' _ _
            subst hA'
            rw [HW4.out]
            exact ⟨cur, hg3, fun i hi => hg4 i (by have := HN.out; omega)⟩

      case rest =>
        obtain ⟨rfl, HPG, HCU⟩ := hcut
        clear y1 y2
        go_wp2
        go_loopg [9] n (fun g s9 wx => ∃ i : Nat, s9 = .int .i64 (i : Int) ∧ Aside0 (i + g = n) ∧ Aside0 (PostG w wx c m r q B lim k hi mi L M S gb) ∧ Aside0 (∃ cur, wx.heap[gb]? = some (.cells cur 5 (0, 0)) ∧ ∀ i, i < n → ∃ v, cur[i]? = some (.int .u8 v)))
        case atStart => exact ⟨0, rfl, ⟨by omega⟩, HPG, HCU⟩
        case round =>
          obtain ⟨i, rfl, HI, HPG2, HCU2⟩ := hrel
          have hin : i ≤ n := by have := HI.out; omega
          by_cases hlt : (i : Int) < n
          · obtain ⟨cur, hb, hv⟩ := HCU2.out
            obtain ⟨v, hvi⟩ := hv i (by omega)
            have e1 := blk_cell hb i
            have f1 := blk_frozen hb i
            rw [hvi] at e1
            have HBK := Aside0.mk hb
            have HVV := Aside0.mk hv
            clear hb hv hvi HCU2
            go_wp2
            go_roundg (gk - 1)
            case measure => have := HI.out; omega
            case rel =>
              refine ⟨i + 1, by go_num, ⟨by have := HI.out; omega⟩, ⟨HPG2.out.set i _⟩, ⟨_, blk_put HBK.out i _ rfl, fun j hj => ?_⟩⟩
              obtain ⟨u, hu⟩ := HVV.out j hj
              rw [Array.getElem?_setIfInBounds]
              split
              · split
                · exact ⟨_, rfl⟩
                · rename_i h1 h2
                  subst h1
                  have := (Array.getElem?_eq_some_iff.1 hu).1
                  exact absurd this h2
              · exact ⟨u, hu⟩
          · clear HI hin
            go_wp2
            go_meet
            exact ⟨rfl, ⟨HPG2.out.post⟩⟩
    · by_cases h12 : kd = 1 ∨ kd = 2
      · rcases h12 with rfl | rfl
        · have q0 : ((1 : Int) == 0) = false := by decide
          have hpb := HPB.out
          have hbu : used L ≤ 1048576 := by have h2 := hpb.cx.low; have h3 := cx_lim hpb.cx; omega
          have hll : M.length ≤ 1000000 := by rw [hpb.len]; obtain ⟨_, _, _, h2, _⟩ := hpb.cx; omega
          have hbs : B ≤ wb.heap.size := Nat.le_trans HB.out BB.out.size
          have HBU := Aside0.mk hbu
          have HLL := Aside0.mk hll
          have HBS := Aside0.mk hbs
          clear h0 hpb hbu hll hbs
          go_upto_if 62 with fail
          go_cut [10, 11, 12, 13] (fun s10 s11 s12 s13 wx => ∃ (A1 : Option Addr) (c1 : Nat) (A2 : Option Addr) (c2 nv : Nat) (val : List Int) (ok : Bool), s10 = .slice A1 nv c1 ∧ s11 = .slice A2 nv c2 ∧ s12 = .bool ok ∧ s13 = .bool ok ∧ Aside0 (nv = val.length ∧ nv ≤ 1048576) ∧ Aside0 (nv ≤ c1) ∧ Aside0 ((Kd.int .u8).C wx A1 nv val) ∧ Aside0 ((Kd.int .u8).C wx A2 nv val) ∧ Aside0 (Post w wx c m r q B lim k hi mi L M S) ∧ Aside0 (0 < nv → ∃ gb cur, A1 = some ⟨gb, 0, none⟩ ∧ PostG w wx c m r q B lim k hi mi L M S gb ∧ wx.heap[gb]? = some (.cells cur 5 (0, 0)) ∧ ∀ i, i < nv → ∃ v, cur[i]? = some (.int .u8 v)))
          case first =>
            cases hl : (lookE L s) with
            | none =>
              have hlM : (lookE M s).isSome = false := by rw [look_kv, ← H.out.same, ← look_kv, hl]; rfl
              have hno := look_no hlM
              have hget := get_miss' HPB.out.cx (by omega) s HSK.out hl
              go_wp2_with fail
              refine hget.mono ?_
              rintro e w2 ⟨rfl, hx2, hf2⟩
              obtain ⟨hrl2, hty2⟩ := after_cache HPB.out hf2 (L' := L) (fun z hz => .inl hz)
              have hx2b : w2.heap[bx]? = some (.cells #[.int .i64 1, .string s, .slice A n cc] 31 (0, 0)) := hf2.heap HX.out (own_not HPB.out.cx HX.out (by decide) (by decide))
              have z1 := blk_cell hx2b 1
              simp at z1
              have hrg := rget_miss w2 q B lim hi mi S M s hrl2 hno (by have := HLL.out; omega) (cx_mi HPB.out.cx hk)
              have HX2 := Aside0.mk hx2
              have HF2 := Aside0.mk hf2
              clear hget hx2 hf2 hrl2 hty2 hx2b x0 x1 x2
              go_wp2_with fail
              refine hrg.mono ?_
              rintro e w3 ⟨rfl, hrl3, hf3⟩
              have HPO := Aside0.mk (miss_join H.out BB.out HF2.out (hf3.mono (fun j hj => .inl hj)) HX2.out hrl3)
              clear hrg hrl3 hf3 z1
              go_wp2
              go_meet
              exact ⟨none, 0, none, 0, 0, [], false, rfl, rfl, rfl, rfl, ⟨⟨rfl, by omega⟩⟩, ⟨Nat.le_refl _⟩, ⟨Kd.C_nil _ _⟩, ⟨Kd.C_nil _ _⟩, HPO, ⟨fun h => absurd h (Nat.lt_irrefl 0)⟩⟩
            | some b =>
              have hlM : (lookE M s).isSome = true := by rw [look_kv, ← H.out.same, ← look_kv, hl]; rfl
              obtain ⟨b', hl2⟩ := Option.isSome_iff_exists.1 hlM
              obtain ⟨X', y, Y', hM, hyk, _, hX'⟩ := look_split hl2
              obtain ⟨X, x, Y, hL, hxk, _, hX⟩ := look_split hl
              subst hL hM
              have hvv : x.val = y.val := val_kv H.out.same H.out.cx.apart (x := x) (y := y) (by simp) (by simp) (hxk.trans hyk.symm)
              have hnv : x.val.length ≤ 1048576 := by have h1 := HBU.out; have h2 := used_app X (x :: Y); have h3 := used_cons x Y; simp only [esz] at h3; omega
              have HVV := Aside0.mk hvv
              have HNV := Aside0.mk hnv
              have hget := get_hit' HPB.out.cx (by omega) hX hxk
              go_wp2_with fail
              refine hget.mono ?_
              rintro e w2 ⟨v2, rfl, hR2, hx2, hf2⟩
              obtain ⟨hrl2, hty2⟩ := after_cache HPB.out hf2 (L' := X ++ x :: Y) (fun z hz => .inl hz)
              have hx2b : w2.heap[bx]? = some (.cells #[.int .i64 1, .string s, .slice A n cc] 31 (0, 0)) := hf2.heap HX.out (own_not HPB.out.cx HX.out (by decide) (by decide))
              have z1 := blk_cell hx2b 1
              simp at z1
              have hrg := rget_hit w2 q B lim hi mi S X' Y' y hrl2 (fun z hz => by rw [hyk]; exact hX' z hz) HLL.out (Nat.le_trans HBS.out hf2.size) (cx_hi HPB.out.cx hk)
              rw [hyk] at hrg
              have HX2 := Aside0.mk hx2
              have HF2 := Aside0.mk hf2
              have HR2 := Aside0.mk hR2
              have HYK := Aside0.mk (hxk.trans hyk.symm)
              clear hget hx2 hf2 hrl2 hty2 hx2b hR2 hl hl2 hlM hX hX' hxk hyk hvv hnv x0 x1 x2
              go_wp2_with fail
              refine hrg.mono ?_
              rintro e w3 ⟨rfl, S3, hrl3, hf3, hS3⟩
              obtain ⟨hpo, hpg⟩ := get_join H.out BB.out HF2.out hf3 HX2.out hrl3 HYK.out hS3
              have hR3 := hf3.R (Kd.R_bound HR2.out) (fun j hj hw => by have h1 := HPB.out.rl.wr_lt hw; have h2 := hj.2.1; omega)
              have hgw : ∀ gb, (v2.ownBlock = some gb) → gb < w2.heap.size := fun gb hg => by have h := Kd.Q_lt (Kd.Q_of_R HR2.out) gb hg; exact h
              obtain ⟨A1, c1, rfl, hc1, hC1⟩ := Kd.R_reads hR3
              have hyv := (hrl3.val y (by simp)).1
              rw [← HVV.out] at hyv
              have HPO := Aside0.mk hpo
              have HPG := Aside0.mk hpg
              have HR3 := Aside0.mk hR3
              have HGW := Aside0.mk hgw
              have HC1 := Aside0.mk hC1
              have HC2 := Aside0.mk hyv
              have HCA := Aside0.mk hc1
              have hle : y.val.length = x.val.length := by rw [HVV.out]
              rw [hle]
              obtain ⟨nv, hnv⟩ : ∃ nv, nv = x.val.length := ⟨_, rfl⟩
              rw [← hnv]
              have HNN := Aside0.mk hnv
              clear hrg hrl3 hf3 hS3 hpo hpg hR3 hgw hC1 hyv hc1 hle hnv z1
              go_wp2
              go_meet
              refine ⟨A1, c1, y.A, y.c, nv, x.val, true, rfl, rfl, rfl, rfl, ⟨⟨HNN.out, by rw [HNN.out]; exact HNV.out⟩⟩, ⟨by rw [HNN.out]; exact HCA.out⟩, ⟨by rw [HNN.out]; exact HC1.out⟩, ⟨by rw [HNN.out]; exact HC2.out⟩, HPO, ⟨fun h0 => ?_⟩⟩
              obtain ⟨gb, cur, hA1, hg1, hg2, hg3, hg4⟩ := ints_blk HR3.out (by rw [← HNN.out]; exact h0)
              exact ⟨gb, cur, hA1, HPG.out gb hg1 (HGW.out gb (by rw [hA1]; rfl)), hg3, fun i hi => hg4 i (by rw [← HNN.out]; exact hi)⟩
          case rest =>
            obtain ⟨A1, c1, A2, c2, nv, val, ok, rfl, rfl, rfl, rfl, HNV, HCA, HC1, HC2, HPO, HG⟩ := hcut
            have hs1 := str_C (c := c1) HC1.out
            have hs2 := str_C (c := c2) HC2.out
            obtain ⟨sv, hsv⟩ : ∃ sv, sv = strOfNums val := ⟨_, rfl⟩
            rw [← hsv] at hs1 hs2
            clear hsv x0 x1 x2
            have hnv : nv ≤ 1048576 := HNV.out.2
            go_upto_region 22 with fail
            go_wp2
            go_loopg [14] nv (fun g s14 wx => ∃ i : Nat, s14 = .int .i64 (i : Int) ∧ Aside0 (i + g = nv) ∧ Aside0 (Post w wx c m r q B lim k hi mi L M S) ∧ Aside0 (0 < nv → ∃ gb cur, A1 = some ⟨gb, 0, none⟩ ∧ PostG w wx c m r q B lim k hi mi L M S gb ∧ wx.heap[gb]? = some (.cells cur 5 (0, 0)) ∧ ∀ i, i < nv → ∃ v, cur[i]? = some (.int .u8 v)))
            case atStart => exact ⟨0, rfl, ⟨by omega⟩, HPO, HG⟩
            case round =>
              obtain ⟨i, rfl, HI, HPO2, HG2⟩ := hrel
              have hin : i ≤ nv := by have := HI.out; omega
              by_cases hlt : (i : Int) < nv
              · obtain ⟨gb, cur, hA1, hpg, hb, hv⟩ := HG2.out (by omega)
                subst hA1
                obtain ⟨v, hvi⟩ := hv i (by omega)
                have e1 := blk_cell hb i
                have f1 := blk_frozen hb i
                rw [hvi] at e1
                have HBK := Aside0.mk hb
                have HVV := Aside0.mk hv
                have HPG := Aside0.mk hpg
                clear hb hv hvi hpg HG2 HPO2 hs1 hs2
                go_wp2
                go_roundg (gk - 1)
                case measure => have := HI.out; omega
                case rel =>
                  refine ⟨i + 1, by go_num, ⟨by have := HI.out; omega⟩, ⟨(HPG.out.set i _).post⟩, ⟨fun _ => ⟨gb, _, rfl, HPG.out.set i _, blk_put HBK.out i _ rfl, fun j hj => ?_⟩⟩⟩
                  obtain ⟨u, hu⟩ := HVV.out j hj
                  rw [Array.getElem?_setIfInBounds]
                  split
                  · split
                    · exact ⟨_, rfl⟩
                    · rename_i h1 h2
                      subst h1
                      have := (Array.getElem?_eq_some_iff.1 hu).1
                      exact absurd this h2
                  · exact ⟨u, hu⟩
              · clear HI hin HG2 hs1 hs2
                go_wp2
                go_meet
                exact ⟨rfl, HPO2⟩
        · have q0 : ((2 : Int) == 0) = false := by decide
          have hpb := HPB.out
          have hbu : used L ≤ 1048576 := by have h2 := hpb.cx.low; have h3 := cx_lim hpb.cx; omega
          have hll : M.length ≤ 1000000 := by rw [hpb.len]; obtain ⟨_, _, _, h2, _⟩ := hpb.cx; omega
          have hbs : B ≤ wb.heap.size := Nat.le_trans HB.out BB.out.size
          have HBU := Aside0.mk hbu
          have HLL := Aside0.mk hll
          have HBS := Aside0.mk hbs
          clear h0 hpb hbu hll hbs
          go_upto_if 62 with fail
          go_cut [10, 11, 12, 13] (fun s10 s11 s12 s13 wx => ∃ (A1 : Option Addr) (c1 : Nat) (A2 : Option Addr) (c2 nv : Nat) (val : List Int) (ok : Bool), s10 = .slice A1 nv c1 ∧ s11 = .slice A2 nv c2 ∧ s12 = .bool ok ∧ s13 = .bool ok ∧ Aside0 (nv = val.length ∧ nv ≤ 1048576) ∧ Aside0 (nv ≤ c1) ∧ Aside0 ((Kd.int .u8).C wx A1 nv val) ∧ Aside0 ((Kd.int .u8).C wx A2 nv val) ∧ Aside0 (Post w wx c m r q B lim k hi mi L M S) ∧ Aside0 (0 < nv → ∃ gb cur, A1 = some ⟨gb, 0, none⟩ ∧ PostG w wx c m r q B lim k hi mi L M S gb ∧ wx.heap[gb]? = some (.cells cur 5 (0, 0)) ∧ ∀ i, i < nv → ∃ v, cur[i]? = some (.int .u8 v)))
          case first =>
            cases hl : (lookE L s) with
            | none =>
              have hlM : (lookE M s).isSome = false := by rw [look_kv, ← H.out.same, ← look_kv, hl]; rfl
              have hno := look_no hlM
              have hget := peek_miss' HPB.out.cx s HSK.out hl
              have hrg := rpeek_miss wb q B lim hi mi S M s HPB.out.rl hno (by have := HLL.out; omega)
              go_wp2_with fail
              refine hget.mono ?_
              rintro e wt ⟨rfl, hwt⟩
              rw [hwt]
              clear hwt wt hget
              go_wp2_with fail
              refine hrg.mono ?_
              rintro e wt ⟨rfl, hwt⟩
              rw [hwt]
              clear hwt wt hrg x0 x1 x2
              have HPO := Aside0.mk (post_none H.out BB.out)
              go_wp2
              go_meet
              exact ⟨none, 0, none, 0, 0, [], false, rfl, rfl, rfl, rfl, ⟨⟨rfl, by omega⟩⟩, ⟨Nat.le_refl _⟩, ⟨Kd.C_nil _ _⟩, ⟨Kd.C_nil _ _⟩, HPO, ⟨fun h => absurd h (Nat.lt_irrefl 0)⟩⟩
            | some b =>
              have hlM : (lookE M s).isSome = true := by rw [look_kv, ← H.out.same, ← look_kv, hl]; rfl
              obtain ⟨b', hl2⟩ := Option.isSome_iff_exists.1 hlM
              obtain ⟨X', y, Y', hM, hyk, _, hX'⟩ := look_split hl2
              obtain ⟨X, x, Y, hL, hxk, _, hX⟩ := look_split hl
              subst hL hM
              have hvv : x.val = y.val := val_kv H.out.same H.out.cx.apart (x := x) (y := y) (by simp) (by simp) (hxk.trans hyk.symm)
              have hnv : x.val.length ≤ 1048576 := by have h1 := HBU.out; have h2 := used_app X (x :: Y); have h3 := used_cons x Y; simp only [esz] at h3; omega
              have HVV := Aside0.mk hvv
              have HNV := Aside0.mk hnv
              have hget := peek_at HPB.out.cx
              rw [hxk] at hget
              go_wp2_with fail
              refine hget.mono ?_
              rintro e w2 ⟨v2, rfl, hR2, hb2⟩
              have hp2 := HPB.out.below hb2
              have hx2b : w2.heap[bx]? = some (.cells #[.int .i64 2, .string s, .slice A n cc] 31 (0, 0)) := (hb2.block bx (blk_lt HX.out)).trans HX.out
              have z1 := blk_cell hx2b 1
              simp at z1
              have hrg := rpeek_hit w2 q B lim hi mi S X' Y' y hp2.rl (fun z hz => by rw [hyk]; exact hX' z hz) (by have := HLL.out; omega)
              rw [hyk] at hrg
              have HB2 := Aside0.mk (below_then BB.out BB.out.size hb2)
              obtain ⟨A1, c1, rfl, hc1, hC1⟩ := Kd.R_reads hR2
              have hyv := (hp2.rl.val y (by simp)).1
              rw [← HVV.out] at hyv
              have HR3 := Aside0.mk hR2
              have HC1 := Aside0.mk hC1
              have HC2 := Aside0.mk hyv
              have HCA := Aside0.mk hc1
              have hle : y.val.length = x.val.length := by rw [HVV.out]
              rw [hle] at hrg
              obtain ⟨nv, hnv⟩ : ∃ nv, nv = x.val.length := ⟨_, rfl⟩
              rw [← hnv] at hrg ⊢
              have HNN := Aside0.mk hnv
              clear hget hp2 hx2b hR2 hl hl2 hlM hX hX' hxk hyk hvv hC1 hyv hc1 hle hnv hb2 x0 x1 x2
              go_wp2_with fail
              refine hrg.mono ?_
              rintro e wt ⟨rfl, hwt⟩
              rw [hwt]
              clear hwt wt hrg z1
              go_wp2
              go_meet
              refine ⟨A1, c1, y.A, y.c, nv, x.val, true, rfl, rfl, rfl, rfl, ⟨⟨HNN.out, by rw [HNN.out]; exact HNV.out⟩⟩, ⟨by rw [HNN.out]; exact HCA.out⟩, ⟨by rw [HNN.out]; exact HC1.out⟩, ⟨by rw [HNN.out]; exact HC2.out⟩, ⟨post_none H.out HB2.out⟩, ⟨fun h0 => ?_⟩⟩
              obtain ⟨gb, cur, hA1, hg1, hg2, hg3, hg4⟩ := ints_blk HR3.out (by rw [← HNN.out]; exact h0)
              exact ⟨gb, cur, hA1, postG_none H.out HB2.out (Nat.le_trans BB.out.size hg1), hg3, fun i hi => hg4 i (by rw [← HNN.out]; exact hi)⟩
          case rest =>
            obtain ⟨A1, c1, A2, c2, nv, val, ok, rfl, rfl, rfl, rfl, HNV, HCA, HC1, HC2, HPO, HG⟩ := hcut
            have hs1 := str_C (c := c1) HC1.out
            have hs2 := str_C (c := c2) HC2.out
            obtain ⟨sv, hsv⟩ : ∃ sv, sv = strOfNums val := ⟨_, rfl⟩
            rw [← hsv] at hs1 hs2
            clear hsv x0 x1 x2
            have hnv : nv ≤ 1048576 := HNV.out.2
            go_upto_region 22 with fail
            go_wp2
            go_loopg [14] nv (fun g s14 wx => ∃ i : Nat, s14 = .int .i64 (i : Int) ∧ Aside0 (i + g = nv) ∧ Aside0 (Post w wx c m r q B lim k hi mi L M S) ∧ Aside0 (0 < nv → ∃ gb cur, A1 = some ⟨gb, 0, none⟩ ∧ PostG w wx c m r q B lim k hi mi L M S gb ∧ wx.heap[gb]? = some (.cells cur 5 (0, 0)) ∧ ∀ i, i < nv → ∃ v, cur[i]? = some (.int .u8 v)))
            case atStart => exact ⟨0, rfl, ⟨by omega⟩, HPO, HG⟩
            case round =>
              obtain ⟨i, rfl, HI, HPO2, HG2⟩ := hrel
              have hin : i ≤ nv := by have := HI.out; omega
              by_cases hlt : (i : Int) < nv
              · obtain ⟨gb, cur, hA1, hpg, hb, hv⟩ := HG2.out (by omega)
                subst hA1
                obtain ⟨v, hvi⟩ := hv i (by omega)
                have e1 := blk_cell hb i
                have f1 := blk_frozen hb i
                rw [hvi] at e1
                have HBK := Aside0.mk hb
                have HVV := Aside0.mk hv
                have HPG := Aside0.mk hpg
                clear hb hv hvi hpg HG2 HPO2 hs1 hs2
                go_wp2
                go_roundg (gk - 1)
                case measure => have := HI.out; omega
                case rel =>
                  refine ⟨i + 1, by go_num, ⟨by have := HI.out; omega⟩, ⟨(HPG.out.set i _).post⟩, ⟨fun _ => ⟨gb, _, rfl, HPG.out.set i _, blk_put HBK.out i _ rfl, fun j hj => ?_⟩⟩⟩
                  obtain ⟨u, hu⟩ := HVV.out j hj
                  rw [Array.getElem?_setIfInBounds]
                  split
                  · split
                    · exact ⟨_, rfl⟩
                    · rename_i h1 h2
                      subst h1
                      have := (Array.getElem?_eq_some_iff.1 hu).1
                      exact absurd this h2
                  · exact ⟨u, hu⟩
              · clear HI hin HG2 hs1 hs2
                go_wp2
                go_meet
                exact ⟨rfl, HPO2⟩
      · by_cases h3 : kd = 3
        · subst h3
          have q0 : ((3 : Int) == 0) = false := by decide
          have hpb := HPB.out
          have HLL : Aside0 (M.length ≤ 1000000) := ⟨by rw [hpb.len]; obtain ⟨_, _, _, h2, _⟩ := hpb.cx; omega⟩
          have HBS : Aside0 (B ≤ wb.heap.size) := ⟨Nat.le_trans HB.out BB.out.size⟩
          have HPD : Aside0 (PS wb.drew c m r q B lim k hi mi L M S) := ⟨hpb.below (below_drew (Below.refl _ _))⟩
          obtain ⟨bv, hbv⟩ : ∃ bv, bv = (lookE L s).isSome := ⟨_, rfl⟩
          have HBV := Aside0.mk hbv
          have HBM : Aside0 (bv = (lookE M s).isSome) := ⟨by rw [hbv, look_kv, look_kv, H.out.same]⟩
          clear h0 h12 hpb hbv x0 x2
          go_upto_region 27 with fail
          refine start_ (S := fun W => W.cell? ⟨bx, 1, none⟩ = some (.string s)) (ds := []) #[false, false, false, false, false, false, false, false, false, false] (by kernel_rfl) rfl rfl x1 (fun hHeld => ?_)
          refine take_ (i := 0) (N := (some 112)) #[true, false, false, false, false, false, false, false, false, false] rfl rfl (by kernel_rfl) (fun _ _ _ h => h) (.inl ⟨by rfl, by (intro w hSw; (try dsimp only at hSw); go_simp <;> with_reducible rfl)⟩) hHeld rfl ?_
          (try simp only [Act.put, List.setIfInBounds_toArray, List.set_cons_zero, List.set_cons_succ])
          refine take_ (i := 1) (N := (some 113)) #[true, true, false, false, false, false, false, false, false, false] rfl rfl (by kernel_rfl) (fun _ _ _ h => h) (.inl ⟨by rfl, by (intro w hSw; (try dsimp only at hSw); go_simp <;> with_reducible rfl)⟩) hHeld rfl ?_
          (try simp only [Act.put, List.setIfInBounds_toArray, List.set_cons_zero, List.set_cons_succ])
          refine take_ (i := 2) (N := (some 114)) #[true, true, true, false, false, false, false, false, false, false] rfl rfl (by kernel_rfl) (fun _ _ _ h => h) (.inl ⟨by rfl, by (intro w hSw; (try dsimp only at hSw); go_simp <;> with_reducible rfl)⟩) hHeld rfl ?_
          (try simp only [Act.put, List.setIfInBounds_toArray, List.set_cons_zero, List.set_cons_succ])
          refine take_ (i := 4) (N := (some 116)) #[true, true, true, false, true, false, false, false, false, false] rfl rfl (by kernel_rfl) (fun _ _ _ h => h) (.inl ⟨by rfl, by (intro w hSw; (try dsimp only at hSw); go_simp <;> with_reducible rfl)⟩) hHeld rfl ?_
          (try simp only [Act.put, List.setIfInBounds_toArray, List.set_cons_zero, List.set_cons_succ])
          refine take_ (i := 5) (N := (some 117)) #[true, true, true, false, true, true, false, false, false, false] rfl rfl (by kernel_rfl) (fun _ _ _ h => h) (.inl ⟨by rfl, by (intro w hSw; (try dsimp only at hSw); go_simp <;> with_reducible rfl)⟩) hHeld rfl ?_
          (try simp only [Act.put, List.setIfInBounds_toArray, List.set_cons_zero, List.set_cons_succ])
          refine take_ (i := 6) (N := (some 118)) #[true, true, true, false, true, true, true, false, false, false] rfl rfl (by kernel_rfl) (fun _ _ _ h => h) (.inl ⟨by rfl, by (intro w hSw; (try dsimp only at hSw); go_simp <;> with_reducible rfl)⟩) hHeld rfl ?_
          (try simp only [Act.put, List.setIfInBounds_toArray, List.set_cons_zero, List.set_cons_succ])
          refine one_ (i := 3) (N := (some 115)) #[true, true, true, true, true, true, true, false, false, false] rfl rfl (by kernel_rfl) (by simp) (fun K hK => ?_)
          go_simp
          have hdr := HPD.out.cx.drop s HSK.out
          rw [← HBV.out] at hdr
          (with_reducible refine hdr.mono ?_)
          rintro e w2 ⟨rfl, hx2, hf2⟩
          obtain ⟨hrl2, hty2⟩ := after_cache HPD.out hf2 (L' := but s L) (fun z hz => .inl (but_mem.1 hz).1)
          have hx2b : w2.heap[bx]? = some (.cells #[.int .i64 3, .string s, .slice A n cc] 31 (0, 0)) := hf2.heap (w := wb.drew) HX.out (own_not HPD.out.cx (w := wb.drew) HX.out (by decide) (by decide))
          have z1 := blk_cell hx2b 1
          simp at z1
          have hrd := rdrop w2 q B lim hi mi S M s hrl2 HPD.out.nodup (by have := HLL.out; omega) (Nat.le_trans HBS.out hf2.size)
          rw [← HBM.out] at hrd
          have HX2 := Aside0.mk hx2
          have HF2 := Aside0.mk hf2
          have HX2B := Aside0.mk hx2b
          have HRL2 := Aside0.mk hrl2
          clear hdr hx2 hf2 hrl2 hty2 hx2b
          refine hK.out _ _ z1 (fun hHeld => ?_)
          clear hK K
          (try simp only [Act.put, List.setIfInBounds_toArray, List.set_cons_zero, List.set_cons_succ])
          refine one_ (i := 7) (N := (some 119)) #[true, true, true, true, true, true, true, true, false, false] rfl rfl (by kernel_rfl) (by simp) (fun K hK => ?_)
          go_simp
          (with_reducible refine hrd.mono ?_)
          rintro e w3 ⟨rfl, S3, hrl3, hf3, hS3⟩
          have hx3b : w3.heap[bx]? = some (.cells #[.int .i64 3, .string s, .slice A n cc] 31 (0, 0)) := hf3.heap HX2B.out (fun e => absurd (cells_ty HX2B.out (by rw [e]; exact HRL2.out.blk)) (by decide))
          have zz1 := blk_cell hx3b 1
          simp at zz1
          have HPO := Aside0.mk (drop_join (wb := wb.drew) H.out (BB.out.trans ((below_drew (Below.refl _ wb)).mono BB.out.size)) HF2.out (hf3.mono (fun j hj => .inl hj)) HX2.out hrl3 hS3)
          clear hrd hrl3 hf3 hS3 hx3b
          refine hK.out _ _ zz1 (fun hHeld => ?_)
          clear hK K
          (try simp only [Act.put, List.setIfInBounds_toArray, List.set_cons_zero, List.set_cons_succ])
          refine take_ (i := 8) (N := (some 120)) #[true, true, true, true, true, true, true, true, true, false] rfl rfl (by kernel_rfl) (fun _ _ _ h => h) (.inl ⟨by rfl, by (intro w hSw; (try dsimp only at hSw); go_simp <;> with_reducible rfl)⟩) hHeld rfl ?_
          (try simp only [Act.put, List.setIfInBounds_toArray, List.set_cons_zero, List.set_cons_succ])
          refine take_ (i := 9) (N := (some 7)) #[true, true, true, true, true, true, true, true, true, true] rfl rfl (by kernel_rfl) (fun _ _ _ h => h) (.inl ⟨by rfl, by (intro w hSw; (try dsimp only at hSw); go_simp <;> with_reducible rfl)⟩) hHeld rfl ?_
          (try simp only [Act.put, List.setIfInBounds_toArray, List.set_cons_zero, List.set_cons_succ])
          refine done_ (by kernel_rfl) ?_
          go_wp2_with fail
          go_meet
          exact ⟨rfl, HPO⟩
        · have q0 : (kd == 0) = false := by simpa using h0
          have q1 : (kd == 1) = false := by simp; exact fun e => h12 (.inl e)
          have q2 : (kd == 2) = false := by simp; exact fun e => h12 (.inr e)
          have q3 : (kd == 3) = false := by simpa using h3
          clear h0 h12 h3 x0 x1 x2
          go_wp2
          go_meet
          exact ⟨rfl, ⟨post_none H.out BB.out⟩⟩
  case rest =>
    obtain ⟨rfl, HPO⟩ := hcut
    clear x0 x1 x2 HX
    obtain ⟨hi', mi', L', M', S', hps, hfr, hfp⟩ := HPO.out
    have HPS := Aside0.mk hps
    have hbu : used M' ≤ 1048576 := by have h1 := hps.usedM; have h2 := hps.cx.low; have h3 := cx_lim hps.cx; omega
    have hll : L'.length ≤ 1000000 := by obtain ⟨_, _, _, h2, _⟩ := hps.cx; omega
    have hh := cx_hits hps.cx
    obtain ⟨kh, hkh⟩ : ∃ kh : List ByteArray, kh = keysOf L' := ⟨_, rfl⟩
    have hkm : keysOf M' = kh := by rw [hkh, keys_kv, keys_kv, hps.same]
    have hkl : kh.length ≤ 1000000 := by rw [hkh]; simpa [keysOf] using hll
    have hum := hps.usedM
    have HPO2 := HPO
    clear hps hfr hfp HPO
    go_wp2_with fail
    refine hh.mono ?_
    rintro e w1 ⟨rfl, kq, hw1⟩
    have hp1 := HPS.out.below (w' := w1) (by rw [hw1]; exact pw_below_drewN (Below.refl _ _) kq)
    have hus := hp1.cx.used
    have hru := rused w1 q B lim hi' mi' S' M' hp1.rl (by rw [hp1.len]; omega) hbu
    rw [hum] at hru
    obtain ⟨us, hus0⟩ : ∃ us, us = used L' := ⟨_, rfl⟩
    rw [← hus0] at hus hru
    have HP1 := Aside0.mk hp1
    have HW1 : Aside0 (Below wc.heap.size wc w1) := ⟨by rw [hw1]; exact pw_below_drewN (Below.refl _ _) kq⟩
    have HKH := Aside0.mk hkh
    have HKM := Aside0.mk hkm
    have HLL := Aside0.mk hll
    have HKL := Aside0.mk hkl
    have HPL := Aside0.mk hp1.len
    clear hh hw1 hp1 hbu hum hus0 hkh hkm hll hkl
    go_wp2_with fail
    refine hus.mono ?_
    rintro e wt ⟨rfl, hwt⟩
    rw [hwt]
    clear hwt hus wt
    go_wp2_with fail
    refine hru.mono ?_
    rintro e w2 ⟨rfl, kq2, hw2⟩
    have hp2 := HP1.out.below (w' := w2) (by rw [hw2]; exact pw_below_drewN (Below.refl _ _) kq2)
    have hks := hp2.cx.keys (by omega)
    have HP2 := Aside0.mk hp2
    have HW2 : Aside0 (Below w1.heap.size w1 w2) := ⟨by rw [hw2]; exact pw_below_drewN (Below.refl _ _) kq2⟩
    rw [← HKH.out] at hks
    clear hru hw2 hp2
    go_wp2_with fail
    refine hks.mono ?_
    rintro e w3 ⟨v3, rfl, hR3, hb3⟩
    have hp3 := HP2.out.below hb3
    have hrk := rkeys w3 q B lim hi' mi' S' M' hp3.rl (by have := HPL.out; have := HLL.out; omega)
    rw [HKM.out] at hrk
    have HP3 := Aside0.mk hp3
    have HB3 := Aside0.mk hb3
    have HR3 := Aside0.mk hR3
    clear hks hp3 hb3 hR3
    go_wp2_with fail
    refine hrk.mono ?_
    rintro e w4 ⟨v4, rfl, hR4, hb4⟩
    have HP4 := Aside0.mk (HP3.out.below hb4)
    have HB4 := Aside0.mk hb4
    obtain ⟨A3, c3, rfl, hc3, hC3⟩ := Kd.R_reads (Kd.R_below HR3.out hb4)
    obtain ⟨A4, c4, rfl, hc4, hC4⟩ := Kd.R_reads hR4
    have htx := icehouselaw05_Texts.calls _ A3 c3 kh A4 c4 kh true w4 hC3 hc3 hC4 hc4 (texts_same kh (by have := HKL.out; omega))
    clear hrk hb4 hR4 hC3 hc3 hC4 hc4
    go_wp2_with fail
    refine htx.mono ?_
    rintro e w5 ⟨rfl, hd5⟩
    have hb5 := hd5.below
    have hp5 := HP4.out.below hb5
    have c1 := blk_cell hp5.rl.blk 1
    have c2 := blk_cell hp5.rl.blk 2
    simp at c1 c2
    have HP5 := Aside0.mk hp5
    have HB5 : Aside0 (Below wc.heap.size wc w5) := ⟨below_step (below_step (below_step (below_step HW1.out HW2.out) HB3.out) HB4.out) hb5⟩
    clear htx hd5 hb5 hp5
    go_wp2
    go_ret
    exact ⟨rfl, HPO2.out.below HB5.out⟩
end Go.Proofs.Yteiejkkgckdihaa.Sp
