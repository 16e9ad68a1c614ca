/- Unframe of a frame and bytes behind it is the frame; of a frame that is cut off it is the end. -/
import Derived.Test.YtpgcbdopnkbmhaaDoorUn
namespace Go.Proofs.YtpgcbdopnkbmhaaDoor.Uf
set_option linter.unusedVariables false
open Go.RowKit Go.Proofs.YtpgcbdopnkbmhaaDoorW.PrintWords Go.Proofs.YtpgcbdopnkbmhaaDoorW.PrintLast Go.Proofs.YtpgcbdopnkbmhaaDoorW.PrintMore
open Go.Proofs.YtpgcbdopnkbmhaaDoor.A Go.Proofs.YtpgcbdopnkbmhaaDoor.Cn Go.Proofs.YtpgcbdopnkbmhaaDoor.Dn Go.Proofs.YtpgcbdopnkbmhaaDoor.Cr Go.Proofs.YtpgcbdopnkbmhaaDoor.Fr Go.Proofs.YtpgcbdopnkbmhaaDoor.Su Go.Proofs.YtpgcbdopnkbmhaaDoor.Le Go.Proofs.YtpgcbdopnkbmhaaDoor.Cc Go.Proofs.YtpgcbdopnkbmhaaDoor.Fm Go.Proofs.YtpgcbdopnkbmhaaDoor.Un
theorem mid_cut (pre mid post : List Int) (a : Nat) (ha : a = pre.length) (e : Nat) (he : e = pre.length + mid.length) : ((pre ++ (mid ++ post)).take e).drop a = mid := by
  subst ha; subst he
  rw [← List.append_assoc, List.take_left' (by simp), List.drop_left]
theorem enc_len8 (n : Int) : (enc 7 n).length ≤ 8 := enc_len 7 n
theorem headB_len (kind : Int) (b : List Int) : (headB kind b).length = 1 + (enc 7 (b.length : Int)).length := by unfold headB; simp; omega
theorem frameB_len (kind : Int) (b : List Int) : (frameB kind b).length = (enc 7 (b.length : Int)).length + 6 + b.length := by
  unfold frameB four; simp only [List.length_append, headB_len, List.length_cons, List.length_nil]; omega
theorem four_byts (c : Int) : Byts (four c) := by intro x hx; unfold four at hx; simp at hx; omega
theorem frameB_byts (kind : Int) (b : List Int) (hb : Byts b) (hl : b.length ≤ 1048576) : Byts (frameB kind b) := by
  intro x hx
  unfold frameB at hx
  rcases List.mem_append.1 hx with h | h
  · rcases List.mem_append.1 h with h | h
    · rcases List.mem_append.1 h with h | h
      · simp at h; omega
      · exact head_byts kind b hl x h
    · exact four_byts _ x h
  · exact hb x h
theorem be_four (c : Int) (h0 : 0 ≤ c) (h1 : c < 4294967296) : be (c / 16777216 % 256) (c / 65536 % 256) (c / 256 % 256) (c % 256) = c := by unfold be; omega
/-- any row that begins as a frame: the first byte, the kind, the length, four bytes, the rest -/
theorem frame_shape (kind : Int) (b more : List Int) : frameB kind b ++ more = 165 :: (kind % 256) :: (enc 7 (b.length : Int) ++ (four (crc (headB kind b ++ b)) ++ (b ++ more))) := by
  unfold frameB headB; simp
/-- Unframe of a frame and more -/
theorem un_frame (kind : Int) (h0 : 0 ≤ kind) (h1 : kind ≤ 255) (b more : List Int) (hl : b.length ≤ 1048576) (hb : Byts b) (hmb : Byts more) (hm : more.length ≤ 4611686018427387904) (A : Option Addr) (c : Nat) (w : World)
    (hC : (Kd.int .u8).C w A (frameB kind b ++ more).length (frameB kind b ++ more)) (hc : (frameB kind b ++ more).length ≤ c) (hT : Tab w) :
    Calls Tryd.prog 17 #[.slice A (frameB kind b ++ more).length c] w fun e w' => ∃ v, e = .returned (.tuple #[.int .i64 kind, v, .int .i64 ((frameB kind b).length : Nat), .int .i64 0]) ∧ Kd.R (Kd.int .u8) 5 w' w.heap.size (fun _ => True) v b ∧ Below w.heap.size w w' := by
  have hfl := frameB_len kind b
  have he8 := enc_len8 (b.length : Int)
  have he1 := enc_pos 7 (b.length : Int)
  have hsh := frame_shape kind b more
  obtain ⟨xs, hxs⟩ : ∃ xs, xs = frameB kind b ++ more := ⟨_, rfl⟩
  have hlen : xs.length = (frameB kind b).length + more.length := by rw [hxs]; simp
  obtain ⟨ee, hee⟩ : ∃ ee, ee = enc 7 (b.length : Int) := ⟨_, rfl⟩
  rw [← hee] at hfl he8 he1 hsh
  have hxb : Byts xs := by rw [hxs]; intro x hx; rcases List.mem_append.1 hx with h | h; exact frameB_byts kind b hb hl x h; exact hmb x h
  have hmb' := hmb
  rw [← hxs] at hC hc hsh ⊢
  have hx0 : xs[0]'(by omega) = 165 := by simp [hsh]
  have hk : kind % 256 = kind := by omega
  obtain ⟨S, hS⟩ : ∃ S, S = crc (headB kind b ++ b) := ⟨_, rfl⟩
  rw [← hS] at hsh
  have hSr := crc_range (headB kind b ++ b)
  rw [← hS] at hSr
  have hd : dn 8 (xs.drop 2) 0 0 = ((b.length : Int), (ee.length : Int), 0) := by
    rw [hsh, hee]
    exact read_enc (b.length : Int) _ (by omega) (by omega)
  have e0 : xs[ee.length + 2]? = some (S / 16777216 % 256) := by rw [hsh]; simp [four]
  have e1 : xs[ee.length + 3]? = some (S / 65536 % 256) := by rw [hsh, show ee.length + 3 = (ee.length + 1) + 2 from rfl]; simp [four]
  have e2 : xs[ee.length + 4]? = some (S / 256 % 256) := by rw [hsh, show ee.length + 4 = (ee.length + 2) + 2 from rfl]; simp [four]
  have e3 : xs[ee.length + 5]? = some (S % 256) := by rw [hsh, show ee.length + 5 = (ee.length + 3) + 2 from rfl]; simp [four]
  have ek : xs[1]? = some kind := by rw [hsh, hk]; simp
  have hz : (xs.take (ee.length + 2)).drop 1 = headB kind b := by
    rw [hsh]
    have := mid_cut [165] ((kind % 256) :: ee) (four S ++ (b ++ more)) 1 rfl (ee.length + 2) (by simp; omega)
    rw [hee] at this ⊢
    exact this
  have hy : (xs.take (ee.length + 6 + b.length)).drop (ee.length + 6) = b := by
    rw [hsh]
    have := mid_cut (165 :: (kind % 256) :: (ee ++ four S)) b more (ee.length + 6) (by simp [four]) (ee.length + 6 + b.length) (by simp [four])
    simpa using this
  have h := un_sum A c xs w hC hxb hc (by omega) hx0 b.length ee.length hd hl he8 he1 (by omega) (by omega) hT S (by rw [hz, hy]; exact hS) _ _ _ _ kind e0 e1 e2 e3 ek
  refine h.mono ?_
  rintro e w' ⟨hb', ⟨hne, rfl⟩ | ⟨_, v, rfl, hr⟩⟩
  · exact absurd (be_four S hSr.1 hSr.2).symm hne
  · rw [hy] at hr
    exact ⟨v, by rw [hfl], hr, hb'⟩
/-- a prefix of a number is no number: the end -/
theorem dn_cut : ∀ f m acc (i e p : Nat), 0 ≤ m → m < 128 ^ (f + 1) → p < (enc f m).length → dn (f + 1 + e) ((enc f m).take p) acc i = (0, 0, 20) := by
  intro f
  induction f with
  | zero =>
    intro m acc i e p h0 h1 hp
    have : p = 0 := by simp [enc] at hp; exact hp
    subst this
    rw [show 0 + 1 + e = e + 1 from by omega]
    simp [dn]
  | succ f ih =>
    intro m acc i e p h0 h1 hp
    rw [show f + 1 + 1 + e = (f + 1 + e) + 1 from by omega]
    unfold enc at hp ⊢
    by_cases hm : m > 127
    · rw [if_pos hm] at hp ⊢
      cases p with
      | zero => simp [dn]
      | succ p =>
        simp only [List.take_succ_cons, dn]
        rw [if_neg (by omega)]
        exact ih (m / 128) _ (i + 1) e p (by omega) (pow_step m f h1) (by simpa using hp)
    · rw [if_neg hm] at hp ⊢
      have : p = 0 := by simpa using hp
      subst this
      simp [dn]
/-- Unframe of a frame that is cut off -/
theorem un_cut (kind : Int) (b : List Int) (hl : b.length ≤ 1048576) (hb : Byts b) (p : Nat) (hp : p < (frameB kind b).length) (A : Option Addr) (c : Nat) (w : World)
    (hC : (Kd.int .u8).C w A p ((frameB kind b).take p)) (hc : p ≤ c) : Calls Tryd.prog 17 #[.slice A p c] w (NoFrame w 20) := by
  have hfl := frameB_len kind b
  have he8 := enc_len8 (b.length : Int)
  have he1 := enc_pos 7 (b.length : Int)
  have hsh := frame_shape kind b []
  rw [List.append_nil] at hsh
  have hbb := frameB_byts kind b hb hl
  obtain ⟨fs, hfs⟩ : ∃ fs, fs = frameB kind b := ⟨_, rfl⟩
  rw [← hfs] at hp hC hfl hsh hbb
  obtain ⟨ee, hee⟩ : ∃ ee, ee = enc 7 (b.length : Int) := ⟨_, rfl⟩
  rw [← hee] at hfl he8 he1 hsh
  match p, hp, hC, hc with
  | 0, _, _, _ => exact un_none A c w
  | 1, _, hC, _ =>
    rw [hsh] at hC
    exact un_one A c w hC
  | p + 2, hp, hC, hc =>
    obtain ⟨xs, hxs⟩ : ∃ xs, xs = fs.take (p + 2) := ⟨_, rfl⟩
    have hlx : xs.length = p + 2 := by rw [hxs, List.length_take]; omega
    have hxb : Byts xs := by rw [hxs]; exact fun x hx => hbb x (List.mem_of_mem_take hx)
    have hx0 : xs[0]'(by omega) = 165 := by simp [hxs, hsh]
    have hdr : xs.drop 2 = (ee ++ (four (crc (headB kind b ++ b)) ++ (b ++ []))).take p := by rw [hxs, hsh]; rfl
    rw [← hxs] at hC
    rw [← hlx] at hC hc ⊢
    by_cases hpe : p < ee.length
    · have hd : dn 8 (xs.drop 2) 0 0 = (0, 0, 20) := by
        rw [hdr, List.take_append_of_le_length (by omega), hee]
        exact dn_cut 7 (b.length : Int) 0 0 0 p (by omega) (by omega) (by rw [← hee]; exact hpe)
      exact un_num A c xs w hC hxb hc (by omega) hx0 0 0 20 hd (by decide)
    · have hd : dn 8 (xs.drop 2) 0 0 = ((b.length : Int), (ee.length : Int), 0) := by
        rw [hdr, List.take_append, List.take_of_length_le (by omega), hee]
        exact read_enc (b.length : Int) _ (by omega) (by omega)
      exact un_end A c xs w hC hxb hc (by omega) hx0 b.length ee.length hd hl he8 (by omega) (by omega)
end Go.Proofs.YtpgcbdopnkbmhaaDoor.Uf
