import Derived.Test.YtaipghemddjecaaLvz
import Derived.Test.YtaipghemddjecaaL2wz
import Derived.Laws.RangeAny
namespace Go.Proofs.Ytaipghemddjecaa
open Go.RowKit
set_option linter.unusedVariables false
set_option linter.unusedSimpArgs false
theorem w32 {x : Int} (h0 : -2147483648 ≤ x) (h1 : x < 2147483648) : wrap32 x = x := by unfold wrap32; omega
def numEnd (t : ByteArray) (a least i n : Int) : Int × Int × Int := if i > a ∧ n ≥ least then (i, n, 0) else if i = t.size then (i, 0, 1) else (i, 0, 2)
theorem num_fin (t : ByteArray) (a least i n : Int) : (if i > a then (if n ≥ least then some (i, n, (0 : Int)) else (if i = (t.size : Int) then some (i, 0, 1) else some (i, 0, 2))) else (if i = (t.size : Int) then some (i, 0, 1) else some (i, 0, 2))) = some (numEnd t a least i n) := by
  unfold numEnd
  by_cases h1 : i > a
  · rw [if_pos h1]
    by_cases h2 : n ≥ least
    · rw [if_pos h2, if_pos ⟨h1, h2⟩]
    · rw [if_neg h2, if_neg (show ¬ (i > a ∧ n ≥ least) from fun h => h2 h.2)]; split <;> rfl
  · rw [if_neg h1, if_neg (show ¬ (i > a ∧ n ≥ least) from fun h => h1 h.1)]; split <;> rfl
def numF (t : ByteArray) (a least most : Int) : Nat → Int → Int → Int × Int × Int
  | 0, i, n => numEnd t a least i n
  | d + 1, i, n => if 48 ≤ bt t i.toNat ∧ bt t i.toNat ≤ 57 then
      (if (i > a ∧ n = 0) ∨ (i = a ∧ 10 * n + (bt t i.toNat - 48) = 0 ∧ least > 0) ∨ 10 * n + (bt t i.toNat - 48) > most then (i, 0, 2) else numF t a least most d (i + 1) (10 * n + (bt t i.toNat - 48)))
      else numEnd t a least i n
theorem ext_size (t : ByteArray) (a : Nat) : (t.extract a t.size).size = t.size - a := by simp
theorem bt_ext (t : ByteArray) (a p : Nat) (h : a + p < t.size) : bt (t.extract a t.size) p = bt t (a + p) := by
  have e : (t.extract a t.size).data.toList = (t.data.toList.take t.size).drop a := by
    simp [ByteArray.data_extract, List.drop_take]
  have e2 : t.data.toList.take t.size = t.data.toList := List.take_of_length_le (by simp)
  unfold bt
  rw [e, e2, List.getD_eq_getElem?_getD, List.getElem?_drop, List.getD_eq_getElem?_getD]
theorem dec_lo (s : ByteArray) (p : Nat) (h : p < s.size) (hb : bt s p < 128) : ((Utf8.decode s p).1 : Int) = bt s p ∧ (Utf8.decode s p).2 = 1 := by
  have e := bt_get s p h
  have d := decode_ascii s p h (by omega)
  rw [d]
  exact ⟨by omega, rfl⟩
theorem dec_hi (s : ByteArray) (p : Nat) (h : p < s.size) (hb : 128 ≤ bt s p) : 128 ≤ ((Utf8.decode s p).1 : Int) := by
  have e := bt_get s p h
  have d := (decode_high s p h (by omega)).1
  omega
theorem num_l (t : ByteArray) (a : Nat) (least most : Int) (ht : t.size ≤ 1000) (ha : a ≤ t.size) (hl : 0 ≤ least) (hm : most ≤ 1000000) : ∀ (d p : Nat) (n : Int) (k : Nat), a + p + d = t.size → d < k → 0 ≤ n → n ≤ 1000000 →
    i_lex_Number.l0 k t a least most n (t.size : Int) p = some (numF t a least most d ((a : Int) + p) n) := by
  intro d
  induction d with
  | zero =>
    intro p n k hd hk hn hn2
    obtain ⟨k, rfl⟩ : ∃ m, k = m + 1 := ⟨k - 1, by omega⟩
    simp only [i_lex_Number.l0, numF]
    rw [Int.toNat_natCast, if_neg (by rw [ext_size]; omega)]
    rw [show (a : Int) + p = (t.size : Int) by omega]
    have F := num_fin t a least t.size n
    simpa using F
  | succ d ih =>
    intro p n k hd hk hn hn2
    obtain ⟨k, rfl⟩ : ∃ m, k = m + 1 := ⟨k - 1, by omega⟩
    have hp : p < (t.extract a t.size).size := by rw [ext_size]; omega
    have be := bt_ext t a p (by omega)
    have b0 := bt_lo t (a + p)
    have b1 := bt_hi t (a + p)
    have dl := dec_lo (t.extract a t.size) p hp
    have dh := dec_hi (t.extract a t.size) p hp
    rw [be] at dl dh
    have fin := num_fin t a least ((a : Int) + p) n
    simp only [i_lex_Number.l0, numF]
    rw [Int.toNat_natCast, if_pos hp, show ((a : Int) + p).toNat = a + p by omega]
    have ih' := fun m h1 h2 => ih (p + 1) m k (by omega) (by omega) h1 h2
    rw [show (a : Int) + ((p + 1 : Nat) : Int) = (a : Int) + p + 1 by omega] at ih'
    rw [w64 (x := (a : Int) + p) (by omega) (by omega)]
    generalize bt t (a + p) = c at *
    by_cases hc : c < 128
    · obtain ⟨e1, e2⟩ := dl hc
      rw [e1, e2]
      by_cases h1 : c < 48
      · rw [if_pos h1, if_neg (show ¬ (48 ≤ c ∧ c ≤ 57) by omega)]; exact fin
      · rw [if_neg h1]
        by_cases h2 : c > 57
        · rw [if_pos h2, if_neg (show ¬ (48 ≤ c ∧ c ≤ 57) by omega)]; exact fin
        · rw [if_neg h2, if_pos (show 48 ≤ c ∧ c ≤ 57 by omega)]
          have e : wrap64 (wrap64 (10 * n) + wrap64 (wrap32 (c - 48))) = 10 * n + (c - 48) := by rw [w32 (by omega) (by omega), w64 (x := 10 * n) (by omega) (by omega), w64 (x := c - 48) (by omega) (by omega), w64 (by omega) (by omega)]
          rw [e]
          by_cases hbad : ((a : Int) + p > a ∧ n = 0) ∨ ((a : Int) + p = a ∧ 10 * n + (c - 48) = 0 ∧ least > 0) ∨ 10 * n + (c - 48) > most
          · rw [if_pos hbad]
            (repeat' split) <;> first | rfl | omega
          · rw [if_neg hbad]
            have I := ih' (10 * n + (c - 48)) (by omega) (by omega)
            (repeat' split) <;> first | exact I | omega
    · have h128 := dh (by omega)
      rw [if_neg (by omega), if_pos (by omega), if_neg (show ¬ (48 ≤ c ∧ c ≤ 57) by omega)]; exact fin
def numZ (t : ByteArray) (a least most : Int) : Int × Int × Int := if (0 ≤ a ∧ a ≤ t.size) ∧ 0 ≤ least ∧ least ≤ most ∧ most ≤ 1000000 then numF t a least most (t.size - a.toNat) a 0 else (0, 0, 5)
theorem num_is {t : ByteArray} {a least most : Int} (ht : t.size ≤ 1000) {k : Nat} (hk : t.size < k) : i_lex_Number.f k t a least most = some (numZ t a least most) ∧ True := by
  unfold i_lex_Number.f numZ
  by_cases h : 0 ≤ a ∧ a ≤ t.size
  · rw [(there_t h.1 h.2).1]
    simp only [Option.bind_some, if_true]
    by_cases h1 : least < 0
    · rw [if_pos h1, if_neg (by omega)]; exact ⟨rfl, trivial⟩
    · rw [if_neg h1]
      by_cases h2 : least > most
      · rw [if_pos h2, if_neg (by omega)]; exact ⟨rfl, trivial⟩
      · rw [if_neg h2]
        by_cases h3 : most > 1000000
        · rw [if_pos h3, if_neg (by omega)]; exact ⟨rfl, trivial⟩
        · rw [if_neg h3, if_pos h.1, if_pos h.2, if_pos ⟨h, by omega, by omega, by omega⟩]
          obtain ⟨b, rfl⟩ : ∃ b : Nat, a = b := ⟨a.toNat, by omega⟩
          have L := num_l t b least most ht (by omega) (by omega) (by omega) (t.size - b) 0 0 k (by omega) (by omega) (by omega) (by omega)
          rw [show (b : Int) + ((0 : Nat) : Int) = (b : Int) by omega] at L
          rw [Int.toNat_natCast]
          exact ⟨L, trivial⟩
  · rw [(there_f h).1, if_neg (show ¬ ((0 ≤ a ∧ a ≤ (t.size : Int)) ∧ 0 ≤ least ∧ least ≤ most ∧ most ≤ 1000000) from fun h' => h h'.1)]; exact ⟨rfl, trivial⟩
end Go.Proofs.Ytaipghemddjecaa
