/- Rolls in plain words: reading, byte behind byte. -/
import Derived.Test.YtpgdcpkggmkooaaFv
import Derived.Test.YtpgdcpkggmkooaaR2w
namespace Go.Proofs.Ytpgdcpkggmkooaa
open Go.RowKit
set_option linter.unusedVariables false
set_option linter.unusedSimpArgs false
theorem ro_size (t m : ByteArray) : (t ++ m).size = t.size + m.size := by simp
theorem ro_app (t m : ByteArray) {i : Nat} (h : i < t.size) : bt (t ++ m) i = bt t i := by
  unfold bt
  rw [ByteArray.data_append, Array.toList_append, List.getD_eq_getElem?_getD, List.getD_eq_getElem?_getD, List.getElem?_append_left (by simpa using h)]
theorem ro_app2 (t m : ByteArray) {i : Nat} (h : t.size ≤ i) : bt (t ++ m) i = bt m (i - t.size) := by
  unfold bt
  rw [ByteArray.data_append, Array.toList_append, List.getD_eq_getElem?_getD, List.getD_eq_getElem?_getD, List.getElem?_append_right (by simpa using h)]
  simp
theorem ro_nil (x : ByteArray) : (⟨#[]⟩ : ByteArray) ++ x = x := by apply ByteArray.ext; simp
theorem ro_nil2 (x : ByteArray) : x ++ (⟨#[]⟩ : ByteArray) = x := by apply ByteArray.ext; simp
theorem ro_assoc (a b c : ByteArray) : a ++ b ++ c = a ++ (b ++ c) := ByteArray.append_assoc
/-- one byte. -/
def B1 (c : Nat) : ByteArray := ⟨#[UInt8.ofNat c]⟩
theorem b1_size (c : Nat) : (B1 c).size = 1 := rfl
theorem b1_bt {c : Nat} (h : c < 256) : bt (B1 c) 0 = c := by
  show ((UInt8.ofNat c).toNat : Int) = c
  rw [UInt8.toNat_ofNat']; omega
theorem b1_enc {c : Nat} (h : c < 128) : Utf8.encode (c : Int) = B1 c := enc_byte ⟨c, h⟩
theorem name_b1 {s : Nat} (h : s < 64) : nameB s = B1 (97 + s % 8) ++ B1 (49 + s / 8) := by
  rw [nameB_in (by omega) (by omega), show ((s : Int) % 8).toNat = s % 8 by omega, show ((s : Int) / 8).toNat = s / 8 by omega]
  apply ByteArray.ext; simp [B1]
theorem let_b1 : ∀ k : Fin 7, 0 < k.val → ∃ c : Nat, c < 91 ∧ 64 < c ∧ letterB (k.val : Int) = B1 c ∧ ofZ (B1 c) = k.val := by
  have D : ∀ k : Fin 7, 0 < k.val → (letterB (k.val : Int) = B1 (bt (letterB (k.val : Int)) 0).toNat ∧ (bt (letterB (k.val : Int)) 0).toNat < 91 ∧ 64 < (bt (letterB (k.val : Int)) 0).toNat ∧ ofZ (B1 (bt (letterB (k.val : Int)) 0).toNat) = k.val) := by decide +kernel
  intro k hk
  obtain ⟨h1, h2, h3, h4⟩ := D k hk
  exact ⟨_, h2, h3, h1, h4⟩
/-- a text stands at a place. -/
def RAt (t : ByteArray) (i : Nat) (u : ByteArray) : Prop := ∀ j, j < u.size → bt t (i + j) = bt u j
theorem RAt.left {t u v : ByteArray} {i : Nat} (h : RAt t i (u ++ v)) : RAt t i u := fun j hj => by
  rw [h j (by rw [ro_size]; omega), ro_app _ _ hj]
theorem RAt.right {t u v : ByteArray} {i : Nat} (h : RAt t i (u ++ v)) : RAt t (i + u.size) v := fun j hj => by
  have := h (u.size + j) (by rw [ro_size]; omega)
  rw [ro_app2 _ _ (by omega), show u.size + j - u.size = j by omega] at this
  rw [Nat.add_assoc, this]
/-- a reader: the board, what reads next, the side, the rest of its word, the man, the file. -/
abbrev RS := List Int × Int × Int × ByteArray × Int × ByteArray
def stepR (k : Nat) (s : RS) (c : Int) : Option (Bool × RS) :=
  if s.2.1 = 68 then i_roll_words.f s.1 s.2.1 s.2.2.1 s.2.2.2.1 s.2.2.2.2.1 s.2.2.2.2.2 c
  else if s.2.1 = 82 then i_roll_blank.f s.1 s.2.1 s.2.2.1 s.2.2.2.1 s.2.2.2.2.1 s.2.2.2.2.2 c
  else if s.2.1 = 90 then i_roll_letter.f s.1 s.2.1 s.2.2.1 s.2.2.2.1 s.2.2.2.2.1 s.2.2.2.2.2 c
  else if s.2.1 = 94 then i_roll_file.f s.1 s.2.1 s.2.2.1 s.2.2.2.1 s.2.2.2.2.1 s.2.2.2.2.2 c
  else if s.2.1 = 95 then i_roll_rank.f k s.1 s.2.1 s.2.2.1 s.2.2.2.1 s.2.2.2.2.1 s.2.2.2.2.2 c
  else none
def rdL (k : Nat) (t : ByteArray) (s : RS) (p : Nat) : Option (List Int × Int × Int) := i_roll_Read.l0 k t s.1 s.2.1 s.2.2.1 s.2.2.2.1 s.2.2.2.2.1 s.2.2.2.2.2 p
theorem rd_step {t : ByteArray} {p k : Nat} (s : RS) {c : Int} (hp : p < t.size) (hb : bt t p = c) (hc : c < 128) : rdL (k + 1) t s p = (stepR k s c).bind fun r => if r.1 = true then rdL k t r.2 (p + 1) else some (zL, (p : Int), 2) := by
  obtain ⟨e1, e2⟩ := dec_lo t p hp (by omega)
  unfold rdL stepR
  rw [i_roll_Read.l0, if_pos hp, e1, e2, hb]
  by_cases h1 : s.2.1 = 68
  · rw [if_pos h1, if_pos h1]
  · rw [if_neg h1, if_neg h1]
    by_cases h2 : s.2.1 = 82
    · rw [if_pos h2, if_pos h2]
    · rw [if_neg h2, if_neg h2]
      by_cases h3 : s.2.1 = 90
      · rw [if_pos h3, if_pos h3]
      · rw [if_neg h3, if_neg h3]
        by_cases h4 : s.2.1 = 94
        · rw [if_pos h4, if_pos h4]
        · rw [if_neg h4, if_neg h4]
          by_cases h5 : s.2.1 = 95
          · rw [if_pos h5, if_pos h5]
          · rw [if_neg h5, if_neg h5]; rfl
/-- a text leads from a reader to another. -/
def Rd (u : ByteArray) (s s' : RS) : Prop := ∀ (t : ByteArray) (p k : Nat), RAt t p u → p + u.size ≤ t.size → 10 ≤ k → rdL (k + u.size) t s p = rdL k t s' (p + u.size)
theorem Rd.nil (s : RS) : Rd ⟨#[]⟩ s s := fun t p k _ _ _ => rfl
theorem Rd.app {u v : ByteArray} {s s' s'' : RS} (h1 : Rd u s s') (h2 : Rd v s' s'') : Rd (u ++ v) s s'' := fun t p k ha hs hk => by
  rw [ro_size] at hs ⊢
  rw [show k + (u.size + v.size) = (k + v.size) + u.size by omega, h1 t p (k + v.size) ha.left (by omega) (by omega), h2 t (p + u.size) k ha.right (by omega) hk, Nat.add_assoc]
theorem Rd.one {c : Nat} {s s' : RS} (hc : c < 128) (h : ∀ k, 10 ≤ k → stepR k s c = some (true, s')) : Rd (B1 c) s s' := fun t p k ha hs hk => by
  have hb := ha 0 (by rw [b1_size]; omega)
  rw [b1_size] at hs ⊢
  rw [Nat.add_zero, b1_bt (by omega)] at hb
  rw [rd_step s (by omega) hb (by omega), h k hk]
  rfl
section
variable {B : List Int} {sd m : Int} {w f : ByteArray}
theorem st_blank (k : Nat) : stepR k (B, 82, sd, w, m, f) (32 : Nat) = some (true, (B, 90, sd, w, m, f)) := by
  unfold stepR
  simp only []
  rw [if_neg (by decide), if_pos trivial]; rfl
theorem make_is {kd : Nat} (h0 : 0 < kd) (h : kd < 7) (hs : sd = 0 ∨ sd = 1) : i_men_Make.f kd sd = some (if sd = 0 then (kd : Int) else -(kd : Int)) := by
  unfold i_men_Make.f
  rw [if_neg (by omega), if_neg (by omega)]
  rcases hs with rfl | rfl
  · rfl
  · rw [if_neg (by decide), if_pos rfl, if_neg (by decide), w64 (by omega) (by omega)]
theorem st_letter {kd c : Nat} (k : Nat) (h0 : 0 < kd) (h : kd < 7) (hs : sd = 0 ∨ sd = 1) (hc : c < 91) (hz : ofZ (B1 c) = kd) :
    stepR k (B, 90, sd, w, m, f) c = some (true, (B, 94, sd, w, (if sd = 0 then (kd : Int) else -(kd : Int)), f)) := by
  unfold stepR
  simp only []
  rw [if_neg (by decide), if_neg (by decide), if_pos trivial]
  unfold i_roll_letter.f
  rw [b1_enc (show c < 128 by omega), hz, make_is h0 h hs]
  have hne : ((kd : Int) != 0) = true := by simp; omega
  simp only [Option.bind_some, hne, if_true]
  rw [if_pos (show (kd : Int) > 0 by omega), decide_eq_true (show (c : Int) ≤ 90 by omega)]
  rcases hs with rfl | rfl
  · rw [if_pos rfl, if_neg (by omega)]
  · rw [if_neg (by decide)]
theorem st_file {x : Nat} (k : Nat) (hx : x < 8) : stepR k (B, 94, sd, w, m, f) (97 + x : Nat) = some (true, (B, 95, sd, w, m, B1 (97 + x))) := by
  unfold stepR
  simp only []
  rw [if_neg (by decide), if_neg (by decide), if_neg (by decide), if_pos trivial]
  unfold i_roll_file.f
  rw [if_pos (by omega), decide_eq_true (by omega), b1_enc (by omega)]
theorem ro_w32 {x : Int} (h0 : -2147483648 ≤ x) (h1 : x < 2147483648) : wrap32 x = x := by unfold wrap32; omega
theorem ro_at {x r : Int} (h0 : 0 ≤ x) (h1 : x < 8) (h2 : 0 ≤ r) (h3 : r < 8) : i_square_At.f x r = some (8 * r + x, true) := by
  unfold i_square_At.f i_square_on.f
  rw [if_pos h0, if_pos h2, w64 (x := 8 * r) (by omega) (by omega), w64 (by omega) (by omega)]
  simp [h1, h3]
theorem ro_parse {u : ByteArray} (hs : u.size = 2) (h0 : 97 ≤ bt u 0 ∧ bt u 0 ≤ 104) (h : 49 ≤ bt u 1 ∧ bt u 1 ≤ 56) {k : Nat} (hk : 2 < k) : i_square_Parse.f k u = some (8 * (bt u 1 - 49) + (bt u 0 - 97), true) := by
  obtain ⟨k, rfl⟩ : ∃ m, k = m + 3 := ⟨k - 3, by omega⟩
  obtain ⟨e1, e2⟩ := dec_lo u 0 (by omega) (by omega)
  obtain ⟨f1, f2⟩ := dec_lo u 1 (by omega) (by omega)
  unfold i_square_Parse.f
  rw [show k + 3 = (k + 2) + 1 from rfl, i_square_Parse.l0, if_pos (by omega), e1, e2, if_pos rfl, if_pos h0.1, if_pos h0.2, w64 (x := 0 + 1) (by omega) (by omega), Nat.zero_add, Int.zero_add]
  rw [show k + 2 = (k + 1) + 1 from rfl, i_square_Parse.l0, if_pos (by omega), f1, f2, if_neg (by decide), if_pos rfl, if_pos h.1, if_pos h.2, w64 (x := 1 + 1) (by omega) (by omega)]
  rw [i_square_Parse.l0, if_neg (by omega), if_pos (by decide)]
  rw [ro_w32 (x := bt u 0 - 97) (by omega) (by omega), ro_w32 (x := bt u 1 - 49) (by omega) (by omega), w64 (x := bt u 0 - 97) (by omega) (by omega), w64 (x := bt u 1 - 49) (by omega) (by omega)]
  show ((i_square_At.f (bt u 0 - 97) (bt u 1 - 49)).bind fun b => some (b.1, b.2)) = _
  rw [ro_at (by omega) (by omega) (by omega) (by omega)]
  rfl
theorem name_parse {s k : Nat} (h : s < 64) (hk : 2 < k) : i_square_Parse.f k (B1 (97 + s % 8) ++ B1 (49 + s / 8)) = some ((s : Int), true) := by
  have e0 : bt (B1 (97 + s % 8) ++ B1 (49 + s / 8)) 0 = 97 + (s % 8 : Nat) := by rw [ro_app _ _ (by rw [b1_size]; omega), b1_bt (by omega)]; omega
  have e1 : bt (B1 (97 + s % 8) ++ B1 (49 + s / 8)) 1 = 49 + (s / 8 : Nat) := by rw [ro_app2 _ _ (by rw [b1_size]; omega), b1_size, b1_bt (by omega)]; omega
  rw [ro_parse (by rw [ro_size, b1_size, b1_size]) (by rw [e0]; omega) (by rw [e1]; omega) hk, e0, e1]
  congr 2; omega
theorem st_rank {s : Nat} (k : Nat) (hk : 10 ≤ k) (h : s < 64) (hm : -128 ≤ m ∧ m < 128) : stepR k (B, 95, sd, w, m, B1 (97 + s % 8)) (49 + s / 8 : Nat) = some (if nt B s 0 = 0 then (true, (B.set s m, 82, sd, w, m, B1 (97 + s % 8))) else (false, (B, 95, sd, w, m, B1 (97 + s % 8)))) := by
  unfold stepR
  simp only []
  rw [if_neg (by decide), if_neg (by decide), if_neg (by decide), if_neg (by decide), if_pos trivial]
  unfold i_roll_rank.f
  rw [b1_enc (show 49 + s / 8 < 128 by omega), if_pos (by rw [b1_size, b1_size]; omega), name_parse h (by omega)]
  simp only [Option.bind_some, if_true]
  rw [if_pos (show (0 : Int) ≤ s by omega), if_pos (show (s : Int) < 64 by omega), Int.toNat_natCast, wi8 hm.1 hm.2]
  split <;> rfl
/-- a man and its square. -/
def itemT (kd s : Nat) : ByteArray := B1 32 ++ letterB (kd : Int) ++ nameB s
theorem rd_item {kd s : Nat} (h0 : 0 < kd) (h : kd < 7) (hs : s < 64) (hsd : sd = 0 ∨ sd = 1) (hz : nt B s 0 = 0) :
    Rd (itemT kd s) (B, 82, sd, w, m, f) (B.set s (if sd = 0 then (kd : Int) else -(kd : Int)), 82, sd, w, (if sd = 0 then (kd : Int) else -(kd : Int)), B1 (97 + s % 8)) := by
  obtain ⟨c, hc, _, hl, ho⟩ := let_b1 ⟨kd, h⟩ h0
  unfold itemT
  rw [name_b1 hs, show letterB (kd : Int) = B1 c from hl, ro_assoc]
  refine (Rd.one (by omega) fun k hk => st_blank k).app ((Rd.one (by omega) fun k hk => st_letter k h0 h hsd hc ho).app ((Rd.one (by omega) fun k hk => st_file k (by omega)).app (Rd.one (by omega) fun k hk => ?_)))
  rw [st_rank k hk hs (by split <;> omega), if_pos hz]
/-- a man to a square that is taken already. -/
theorem rd_taken {kd s : Nat} (h0 : 0 < kd) (h : kd < 7) (hs : s < 64) (hsd : sd = 0 ∨ sd = 1) (hz : nt B s 0 ≠ 0) {t : ByteArray} {p k : Nat} (ha : RAt t p (itemT kd s)) (ht : p + (itemT kd s).size ≤ t.size) (hk : 10 ≤ k) :
    rdL (k + (itemT kd s).size) t (B, 82, sd, w, m, f) p = some (zL, ((p + (itemT kd s).size - 1 : Nat) : Int), 2) := by
  obtain ⟨c, hc, _, hl, ho⟩ := let_b1 ⟨kd, h⟩ h0
  have e : itemT kd s = (B1 32 ++ B1 c ++ B1 (97 + s % 8)) ++ B1 (49 + s / 8) := by
    unfold itemT
    rw [name_b1 hs, show letterB (kd : Int) = B1 c from hl]
    simp only [ro_assoc]
  rw [e] at ha ht ⊢
  have sz : (B1 32 ++ B1 c ++ B1 (97 + s % 8)).size = 3 := by rw [ro_size, ro_size, b1_size, b1_size, b1_size]
  rw [ro_size, sz, b1_size] at ht ⊢
  have R : Rd (B1 32 ++ B1 c ++ B1 (97 + s % 8)) (B, 82, sd, w, m, f) (B, 95, sd, w, (if sd = 0 then (kd : Int) else -(kd : Int)), B1 (97 + s % 8)) :=
    ((Rd.one (by omega) fun k hk => st_blank k).app (Rd.one (by omega) fun k hk => st_letter k h0 h hsd hc ho)).app (Rd.one (by omega) fun k hk => st_file k (by omega))
  have r1 := R t p (k + 1) ha.left (by rw [sz]; omega) (by omega)
  rw [sz] at r1
  rw [show k + (3 + 1) = k + 1 + 3 by omega, r1]
  have hb := ha.right 0 (by rw [b1_size]; omega)
  rw [sz, Nat.add_zero, b1_bt (by omega)] at hb
  rw [rd_step _ (by omega) hb (by omega), st_rank k hk hs (by split <;> omega), if_neg hz]
  simp only [Option.bind_some]
  rw [if_neg (by decide)]
  congr 3
theorem st_word {c d : Nat} {w' : ByteArray} (k : Nat) (h : i_roll_words.f B 68 sd w m f c = some (true, B, (d : Int), sd, w', m, f)) : stepR k (B, 68, sd, w, m, f) c = some (true, (B, (d : Int), sd, w', m, f)) := by
  unfold stepR
  simp only []
  rw [if_pos trivial]; exact h
theorem words_go {c : Nat} {w' : ByteArray} (hc : c < 128) (h1 : 1 ≤ w.size) (h2 : (B1 c).toList = (w.extract 0 1).toList) (h3 : w.extract 1 w.size = w') (h4 : w'.toList ≠ []) : Rd (B1 c) (B, 68, sd, w, m, f) (B, 68, sd, w', m, f) := Rd.one hc fun k hk => st_word (d := 68) k (by
  unfold i_roll_words.f
  rw [if_pos (by omega), b1_enc hc, if_pos h2, h3, if_neg h4]; rfl)
theorem words_end {c : Nat} (hc : c < 128) (h1 : 1 ≤ w.size) (h2 : (B1 c).toList = (w.extract 0 1).toList) (h3 : w.extract 1 w.size = ⟨#[]⟩) : Rd (B1 c) (B, 68, sd, w, m, f) (B, 82, sd, ⟨#[]⟩, m, f) := Rd.one hc fun k hk => st_word (d := 82) k (by
  unfold i_roll_words.f
  rw [if_pos (by omega), b1_enc hc, if_pos h2, h3, if_pos (by decide +kernel)]; rfl)
def whiteT : ByteArray := ⟨#[119, 104, 105, 116, 101]⟩
def blackT : ByteArray := ⟨#[98, 108, 97, 99, 107]⟩
theorem rd_white : Rd whiteT (B, 68, sd, whiteT, m, f) (B, 82, sd, ⟨#[]⟩, m, f) := by
  have e : whiteT = B1 119 ++ (B1 104 ++ (B1 105 ++ (B1 116 ++ B1 101))) := by decide +kernel
  rw [show Rd whiteT = Rd (B1 119 ++ (B1 104 ++ (B1 105 ++ (B1 116 ++ B1 101)))) by rw [← e]]
  exact (words_go (w' := ⟨#[104, 105, 116, 101]⟩) (by decide) (by decide) (by decide +kernel) (by decide +kernel) (by decide +kernel)).app ((words_go (w' := ⟨#[105, 116, 101]⟩) (by decide) (by decide) (by decide +kernel) (by decide +kernel) (by decide +kernel)).app ((words_go (w' := ⟨#[116, 101]⟩) (by decide) (by decide) (by decide +kernel) (by decide +kernel) (by decide +kernel)).app ((words_go (w' := ⟨#[101]⟩) (by decide) (by decide) (by decide +kernel) (by decide +kernel) (by decide +kernel)).app (words_end (by decide) (by decide) (by decide +kernel) (by decide +kernel)))))
theorem st_black (k : Nat) : stepR k (B, 90, 0, w, m, f) (98 : Nat) = some (true, (B, 68, 1, ⟨#[108, 97, 99, 107]⟩, m, f)) := by
  unfold stepR
  simp only []
  rw [if_neg (by decide), if_neg (by decide), if_pos trivial]
  unfold i_roll_letter.f
  rw [if_pos rfl, if_pos (by decide)]
  rw [show (⟨#[98, 108, 97, 99, 107]⟩ : ByteArray).extract 1 (⟨#[98, 108, 97, 99, 107]⟩ : ByteArray).size = ⟨#[108, 97, 99, 107]⟩ by decide +kernel]
theorem rd_black : Rd (B1 32 ++ blackT) (B, 82, 0, w, m, f) (B, 82, 1, ⟨#[]⟩, m, f) := by
  have e : blackT = B1 98 ++ (B1 108 ++ (B1 97 ++ (B1 99 ++ B1 107))) := by decide +kernel
  rw [show Rd (B1 32 ++ blackT) = Rd (B1 32 ++ (B1 98 ++ (B1 108 ++ (B1 97 ++ (B1 99 ++ B1 107))))) by rw [← e]]
  exact (Rd.one (by decide) fun k hk => st_blank k).app ((Rd.one (by decide) fun k hk => st_black k).app ((words_go (w' := ⟨#[97, 99, 107]⟩) (by decide) (by decide) (by decide +kernel) (by decide +kernel) (by decide +kernel)).app ((words_go (w' := ⟨#[99, 107]⟩) (by decide) (by decide) (by decide +kernel) (by decide +kernel) (by decide +kernel)).app ((words_go (w' := ⟨#[107]⟩) (by decide) (by decide) (by decide +kernel) (by decide +kernel) (by decide +kernel)).app (words_end (by decide) (by decide) (by decide +kernel) (by decide +kernel))))))
/-- the end of a roll. -/
def overB (t : ByteArray) : Bool := decide (bt t (t.size - 1) = 107) || (decide (49 ≤ bt t (t.size - 1)) && decide (bt t (t.size - 1) ≤ 56))
theorem rd_end {t : ByteArray} {k : Nat} (h0 : 0 < t.size) (hs : t.size < 100000) (ho : overB t = true) : rdL (k + 1) t (B, 82, 1, ⟨#[]⟩, m, f) t.size = some (B, (t.size : Int), 0) := by
  unfold rdL
  rw [i_roll_Read.l0, if_neg (by omega)]
  unfold i_roll_reader_over.f
  simp only []
  rw [if_pos trivial, if_pos (by decide +kernel), w64 (x := (t.size : Int) - 1) (by omega) (by omega), if_pos (by omega), if_pos (by omega), show ((t.size : Int) - 1).toNat = t.size - 1 by omega]
  unfold overB at ho
  generalize bt t (t.size - 1) = c at ho ⊢
  simp only [Bool.or_eq_true, Bool.and_eq_true, decide_eq_true_eq] at ho
  by_cases h1 : c = 107
  · rw [if_pos h1]; rfl
  · rw [if_neg h1, if_pos (by omega), decide_eq_true (by omega)]; rfl
end
end Go.Proofs.Ytpgdcpkggmkooaa
