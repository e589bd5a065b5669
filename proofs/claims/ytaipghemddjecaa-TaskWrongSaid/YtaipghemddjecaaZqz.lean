import Derived.Test.YtaipghemddjecaaLgz
import Derived.Test.YtaipghemddjecaaLnnz
import Derived.Test.YtaipghemddjecaaL5wz
import Derived.Test.YtaipghemddjecaaL6wz
namespace Go.Proofs.Ytaipghemddjecaa
open Go.RowKit
set_option linter.unusedVariables false
set_option linter.unusedSimpArgs false
theorem w32z {x : Int} (h0 : -2147483648 ≤ x) (h1 : x < 2147483648) : wrap32 x = x := by unfold wrap32; omega
theorem bt_out (t : ByteArray) {i : Nat} (h : t.size ≤ i) : bt t i = 0 := by
  unfold bt
  rw [List.getD_eq_getElem?_getD, List.getElem?_eq_none (by simpa using h)]; rfl
theorem bt_app2 (t m : ByteArray) {i : Nat} (h : t.size ≤ i) : bt (t ++ m) i = bt m (i - t.size) := by
  unfold bt
  rw [ByteArray.data_append, Array.toList_append, List.getD_eq_getElem?_getD, List.getD_eq_getElem?_getD, List.getElem?_append_right (by simpa using h)]
  simp
theorem enc_lo {c : Int} (h0 : 0 ≤ c) (h : c < 128) : (Utf8.encode c).size = 1 ∧ bt (Utf8.encode c) 0 = c := by
  have hv : Utf8.valid c = true := by unfold Utf8.valid; simp; omega
  unfold Utf8.encode
  simp only [hv, if_true]
  rw [if_pos (by omega)]
  refine ⟨rfl, ?_⟩
  show ((UInt8.ofNat c.toNat).toNat : Int) = c
  rw [UInt8.toNat_ofNat']; omega
theorem enc_hi {c : Int} (h : 128 ≤ c) : 0 < (Utf8.encode c).size ∧ (Utf8.encode c).size ≤ 4 ∧ 128 ≤ bt (Utf8.encode c) 0 := by
  unfold Utf8.encode
  obtain ⟨n, hn, h1, h2⟩ : ∃ n : Nat, (if Utf8.valid c = true then c.toNat else Utf8.runeError) = n ∧ 128 ≤ n ∧ n ≤ 1114111 := by
    refine ⟨_, rfl, ?_, ?_⟩
    · split
      · omega
      · unfold Utf8.runeError; omega
    · split
      · rename_i hv
        unfold Utf8.valid at hv
        simp at hv
        omega
      · unfold Utf8.runeError; omega
  simp only [hn]
  have b : ∀ m : Nat, 128 ≤ m → m < 256 → (128 : Int) ≤ ((UInt8.ofNat m).toNat : Int) := fun m a1 a2 => by rw [UInt8.toNat_ofNat']; omega
  rw [if_neg (by omega)]
  split
  · exact ⟨by show 0 < 2; omega, by show 2 ≤ 4; omega, b _ (by omega) (by omega)⟩
  · split
    · exact ⟨by show 0 < 3; omega, by show 3 ≤ 4; omega, b _ (by omega) (by omega)⟩
    · exact ⟨by show 0 < 4; omega, by show 4 ≤ 4; omega, b _ (by omega) (by omega)⟩
theorem rune_in (s : ByteArray) (p : Nat) (h : p < s.size) {a b : Int} (ha : 0 ≤ a) (hb : b < 128) : (a ≤ ((Utf8.decode s p).1 : Int) ∧ ((Utf8.decode s p).1 : Int) ≤ b) ↔ (a ≤ bt s p ∧ bt s p ≤ b) := by
  rcases Int.lt_or_le (bt s p) 128 with h1 | h1
  · rw [(dec_lo s p h h1).1]
  · have := dec_hi s p h h1
    omega
theorem parse_0 {u : ByteArray} (hs : 0 < u.size) (h : ¬ (97 ≤ bt u 0 ∧ bt u 0 ≤ 104)) {k : Nat} (hk : 0 < k) : i_square_Parse.f k u = some (0, false) := by
  obtain ⟨k, rfl⟩ : ∃ m, k = m + 1 := ⟨k - 1, by omega⟩
  have hc := mt (rune_in u 0 hs (a := 97) (b := 104) (by omega) (by omega)).mp h
  unfold i_square_Parse.f
  rw [i_square_Parse.l0, if_pos hs]
  generalize ((Utf8.decode u 0).1 : Int) = c at hc ⊢
  (repeat' split) <;> first | rfl | omega
theorem parse_1 {u : ByteArray} (hs : 1 < u.size) (h0 : 97 ≤ bt u 0 ∧ bt u 0 ≤ 104) (h : ¬ (49 ≤ bt u 1 ∧ bt u 1 ≤ 56)) {k : Nat} (hk : 1 < k) : i_square_Parse.f k u = some (0, false) := by
  obtain ⟨k, rfl⟩ : ∃ m, k = m + 2 := ⟨k - 2, by omega⟩
  have hc := mt (rune_in u 1 hs (a := 49) (b := 56) (by omega) (by omega)).mp h
  obtain ⟨e1, e2⟩ := dec_lo u 0 (by omega) (by omega)
  unfold i_square_Parse.f
  rw [show k + 2 = (k + 1) + 1 from rfl, i_square_Parse.l0, if_pos (by omega), e1, e2, if_pos rfl, if_pos h0.1, if_pos h0.2, w64 (x := 0 + 1) (by omega) (by omega), Nat.zero_add, Int.zero_add]
  rw [i_square_Parse.l0, if_pos hs]
  generalize ((Utf8.decode u 1).1 : Int) = c at hc ⊢
  (repeat' split) <;> first | rfl | omega
theorem at_in {f r : Int} (h0 : 0 ≤ f) (h1 : f < 8) (h2 : 0 ≤ r) (h3 : r < 8) : i_square_At.f f r = some (8 * r + f, true) := by
  unfold i_square_At.f i_square_on.f
  rw [if_pos h0, if_pos h2, w64 (x := 8 * r) (by omega) (by omega), w64 (by omega) (by omega)]
  simp [h1, h3]
theorem parse_2 {u : ByteArray} (hs : u.size = 2) (h0 : 97 ≤ bt u 0 ∧ bt u 0 ≤ 104) (h : 49 ≤ bt u 1 ∧ bt u 1 ≤ 56) {k : Nat} (hk : 2 < k) : i_square_Parse.f k u = some (8 * (bt u 1 - 49) + (bt u 0 - 97), true) := by
  obtain ⟨k, rfl⟩ : ∃ m, k = m + 3 := ⟨k - 3, by omega⟩
  obtain ⟨e1, e2⟩ := dec_lo u 0 (by omega) (by omega)
  obtain ⟨f1, f2⟩ := dec_lo u 1 (by omega) (by omega)
  unfold i_square_Parse.f
  rw [show k + 3 = (k + 2) + 1 from rfl, i_square_Parse.l0, if_pos (by omega), e1, e2, if_pos rfl, if_pos h0.1, if_pos h0.2, w64 (x := 0 + 1) (by omega) (by omega), Nat.zero_add, Int.zero_add]
  rw [show k + 2 = (k + 1) + 1 from rfl, i_square_Parse.l0, if_pos (by omega), f1, f2, if_neg (by decide), if_pos rfl, if_pos h.1, if_pos h.2, w64 (x := 1 + 1) (by omega) (by omega)]
  rw [i_square_Parse.l0, if_neg (by omega), if_pos (by decide)]
  rw [w32z (x := bt u 0 - 97) (by omega) (by omega), w32z (x := bt u 1 - 49) (by omega) (by omega), w64 (x := bt u 0 - 97) (by omega) (by omega), w64 (x := bt u 1 - 49) (by omega) (by omega)]
  show ((i_square_At.f (bt u 0 - 97) (bt u 1 - 49)).bind fun b => some (b.1, b.2)) = _
  rw [at_in (by omega) (by omega) (by omega) (by omega)]
  rfl
def sqZ (t : ByteArray) (a : Nat) : Int × Int × Int :=
  if a = t.size then ((a : Int), 0, 1) else if 97 ≤ bt t a ∧ bt t a ≤ 104 then
    (if a + 1 = t.size then ((a : Int) + 1, 0, 1) else if 49 ≤ bt t (a + 1) ∧ bt t (a + 1) ≤ 56 then ((a : Int) + 2, 8 * (bt t (a + 1) - 49) + (bt t a - 97), 0) else ((a : Int) + 1, 0, 2))
  else ((a : Int), 0, 2)
theorem enc_any {s : ByteArray} {p : Nat} (h : p < s.size) : 0 < (Utf8.encode ((Utf8.decode s p).1 : Int)).size ∧ (Utf8.encode ((Utf8.decode s p).1 : Int)).size ≤ 4 ∧ (bt s p < 128 → (Utf8.encode ((Utf8.decode s p).1 : Int)).size = 1 ∧ bt (Utf8.encode ((Utf8.decode s p).1 : Int)) 0 = bt s p) ∧ (128 ≤ bt s p → 128 ≤ bt (Utf8.encode ((Utf8.decode s p).1 : Int)) 0) := by
  have b0 := bt_lo s p
  rcases Int.lt_or_le (bt s p) 128 with h1 | h1
  · rw [(dec_lo s p h h1).1]
    obtain ⟨e1, e2⟩ := enc_lo b0 h1
    exact ⟨by omega, by omega, fun _ => ⟨e1, e2⟩, fun h => by omega⟩
  · obtain ⟨e1, e2, e3⟩ := enc_hi (dec_hi s p h h1)
    exact ⟨e1, e2, fun h => by omega, fun _ => e3⟩
theorem lsq_2 (t : ByteArray) (a : Nat) (f : ByteArray) (ht : t.size ≤ 1000) (ha : a + 1 < t.size) (h0 : 97 ≤ bt t a ∧ bt t a ≤ 104) (hf : f.size = 1) (hf0 : bt f 0 = bt t a) {k : Nat} (hk : 4 < k) : i_lex_Square.l0 k t a f 1 = some (sqZ t a) := by
  obtain ⟨k, rfl⟩ : ∃ m, k = m + 1 := ⟨k - 1, by omega⟩
  have hs : 1 < (t.extract a t.size).size := by rw [ext_size]; omega
  have hb := bt_ext t a 1 (by omega)
  obtain ⟨E1, E2, E3, E4⟩ := enc_any hs
  have X0 : bt (f ++ Utf8.encode ((Utf8.decode (t.extract a t.size) 1).1 : Int)) 0 = bt t a := by rw [bt_app _ _ (by omega), hf0]
  have X1 : bt (f ++ Utf8.encode ((Utf8.decode (t.extract a t.size) 1).1 : Int)) 1 = bt (Utf8.encode ((Utf8.decode (t.extract a t.size) 1).1 : Int)) 0 := by rw [bt_app2 _ _ (by omega), hf]
  have XS := size_app f (Utf8.encode ((Utf8.decode (t.extract a t.size) 1).1 : Int))
  rw [i_lex_Square.l0, Int.toNat_natCast, if_pos hs, if_neg (by decide), if_pos (by omega), Int.natCast_one]
  unfold sqZ
  rw [if_neg (by omega), if_pos h0, if_neg (by omega)]
  by_cases h1 : 49 ≤ bt t (a + 1) ∧ bt t (a + 1) ≤ 56
  · obtain ⟨E5, E6⟩ := E3 (by omega)
    rw [if_pos h1, parse_2 (by omega) (by omega) (by omega) (by omega), X0, X1, E6, hb]
    simp only [Option.bind_some, if_true]
    rw [w64 (x := (a : Int) + 1) (by omega) (by omega), w64 (by omega) (by omega)]
    rw [show (a : Int) + 1 + 1 = a + 2 by omega]
  · have hn : ¬ (49 ≤ bt (f ++ Utf8.encode ((Utf8.decode (t.extract a t.size) 1).1 : Int)) 1 ∧ bt (f ++ Utf8.encode ((Utf8.decode (t.extract a t.size) 1).1 : Int)) 1 ≤ 56) := by
      rw [X1]
      rcases Int.lt_or_le (bt (t.extract a t.size) 1) 128 with q | q
      · rw [(E3 q).2, hb]; exact h1
      · have := E4 q; omega
    rw [if_neg h1, parse_1 (by omega) (by omega) hn (by omega)]
    simp only [Option.bind_some]
    rw [if_neg (by decide), w64 (x := (a : Int) + 1) (by omega) (by omega)]
theorem lsq_is (t : ByteArray) (a : Nat) (ht : t.size ≤ 1000) (ha : a ≤ t.size) {k : Nat} (hk : 6 < k) : i_lex_Square.l0 k t a ⟨#[]⟩ 0 = some (sqZ t a) := by
  obtain ⟨k, rfl⟩ : ∃ m, k = m + 1 := ⟨k - 1, by omega⟩
  rw [i_lex_Square.l0, Int.toNat_natCast]
  by_cases he : a = t.size
  · rw [if_neg (by rw [ext_size]; omega)]
    unfold sqZ
    rw [if_pos he, he]
  · have hs : 0 < (t.extract a t.size).size := by rw [ext_size]; omega
    have hb := bt_ext t a 0 (by omega)
    have hri := rune_in (t.extract a t.size) 0 hs (a := 97) (b := 104) (by omega) (by omega)
    rw [hb, Nat.add_zero] at hri
    rw [Nat.add_zero] at hb
    obtain ⟨E1, E2, E3, E4⟩ := enc_any hs
    rw [if_pos hs, if_pos (by decide)]
    by_cases h0 : 97 ≤ bt t a ∧ bt t a ≤ 104
    · have hr := hri.mpr h0
      rw [if_pos hr.1, if_pos hr.2]
      obtain ⟨d1, d2⟩ := dec_lo (t.extract a t.size) 0 hs (by omega)
      obtain ⟨E5, E6⟩ := E3 (by omega)
      rw [d2]
      by_cases h1 : a + 1 = t.size
      · obtain ⟨k, rfl⟩ : ∃ m, k = m + 1 := ⟨k - 1, by omega⟩
        rw [i_lex_Square.l0, Int.toNat_natCast, if_neg (by rw [ext_size]; omega)]
        unfold sqZ
        rw [if_neg he, if_pos h0, if_pos h1]
        rw [show (t.size : Int) = a + 1 by omega]
      · exact lsq_2 t a _ ht (by omega) h0 E5 (by rw [E6, hb]) (by omega)
    · have hr := mt hri.mp h0
      have P : ∀ u : ByteArray, u = (⟨#[]⟩ : ByteArray) ++ Utf8.encode ((Utf8.decode (t.extract a t.size) 0).1 : Int) → i_square_Parse.f k u = some (0, false) := fun u hu => by
        have hus : u.size = (Utf8.encode ((Utf8.decode (t.extract a t.size) 0).1 : Int)).size := by rw [hu, size_app]; show 0 + _ = _; omega
        have hu0 : bt u 0 = bt (Utf8.encode ((Utf8.decode (t.extract a t.size) 0).1 : Int)) 0 := by rw [hu, bt_app2 _ _ (by show 0 ≤ 0; omega)]; rfl
        refine parse_0 (by omega) ?_ (by omega)
        rw [hu0]
        rcases Int.lt_or_le (bt (t.extract a t.size) 0) 128 with q | q
        · rw [(E3 q).2, hb]; exact h0
        · have := E4 q; omega
      have e := P _ rfl
      unfold sqZ
      rw [if_neg he, if_neg h0]
      have hz : ((⟨#[]⟩ : ByteArray).size + (Utf8.encode ((Utf8.decode (t.extract a t.size) 0).1 : Int)).size ≤ 9223372036854775807) := by show 0 + _ ≤ _; omega
      have fin : ∀ X : Int, X = a → wrap64 (X + ((0 : Nat) : Int)) = a := fun X h => by rw [h, w64 (by omega) (by omega)]; omega
      rw [e, if_pos hz]
      simp only [Option.bind_some]
      rw [if_neg (show ¬ (false = true) by decide), fin _ rfl]
      split
      · rw [if_neg (fun h => hr ⟨by assumption, h⟩)]
      · rfl
end Go.Proofs.Ytaipghemddjecaa
