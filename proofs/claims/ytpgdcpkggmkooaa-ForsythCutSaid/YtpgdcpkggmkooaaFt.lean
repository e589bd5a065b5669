/- Boards as rows of letters, in plain words: the reference's reader; the law ForsythReads. -/
import Derived.Test.YtpgdcpkggmkooaaFu
import Derived.Test.YtpgdcpkggmkooaaF7w
namespace Go.Proofs.Ytpgdcpkggmkooaa
open Go.RowKit
set_option linter.unusedVariables false
set_option linter.unusedSimpArgs false
theorem says_1 (t : ByteArray) (n x r f : Int) : ∀ (d : Nat) (j : Int) (sq : List Int) (k : Nat), j + d = (bt t x.toNat - 48) % 256 → 0 ≤ j → sq.length + d < 1000 →
    i_alfilref04_Says.l1 (k + d + 1) t n x r f j sq = i_alfilref04_Says.l0 k t n (wrap64 (x + 1)) (sq ++ List.replicate d 0) r (wrap64 (f + (bt t x.toNat - 48) % 256)) := by
  intro d
  induction d with
  | zero =>
    intro j sq k hj h0 hl
    simp only [i_alfilref04_Says.l1]
    rw [if_neg (by omega)]
    simp
  | succ d ih =>
    intro j sq k hj h0 hl
    rw [show k + (d + 1) + 1 = (k + d + 1) + 1 by omega]
    rw [i_alfilref04_Says.l1]
    rw [if_pos (by omega), if_pos (by omega), w64 (by omega) (by omega), ih (j + 1) (sq ++ [0]) k (by omega) (by omega) (by simp; omega)]
    simp [List.replicate_succ]
theorem says_2 (t : ByteArray) (n x r f : Int) (sq : List Int) (k : Nat) (hl : sq.length < 1000) :
    i_alfilref04_Says.l2 (k + 2) t n x r f 0 sq = i_alfilref04_Says.l0 k t n (wrap64 (x + 1)) (sq ++ [ofZ (t.extract (x : Int).toNat ((wrap64 (x + 1)) : Int).toNat)]) r (wrap64 (f + 1)) := by
  rw [i_alfilref04_Says.l2, if_pos (by omega), if_pos (by omega), i_alfilref04_Says.l2, if_neg (by rw [w64 (by omega) (by omega)]; omega)]
theorem says_3 (t : ByteArray) (n x r f : Int) (sq : List Int) (k : Nat) (hl : sq.length < 1000) :
    i_alfilref04_Says.l3 (k + 2) t n x r f 0 sq = i_alfilref04_Says.l0 k t n (wrap64 (x + 1)) (sq ++ [ofZ (t.extract (x : Int).toNat ((wrap64 (x + 1)) : Int).toNat)]) r (wrap64 (f + 1)) := by
  rw [i_alfilref04_Says.l3, if_pos (by omega), if_pos (by omega), i_alfilref04_Says.l3, if_neg (by rw [w64 (by omega) (by omega)]; omega)]
def resZ : Option St → List Int × Int × Int × Bool
  | some s => (s.1, s.2.1, s.2.2, true)
  | none => ([], 0, 0, false)
theorem says_l (t : ByteArray) (ht : t.size ≤ 1000) (n : Nat) (hn : n ≤ t.size) : ∀ (d i : Nat) (s : St) (k : Nat), i + d = n → runS t i = some s → 12 * d < k → i_alfilref04_Says.l0 k t n i s.1 s.2.1 s.2.2 = some (resZ (runS t n)) := by
  intro d
  induction d with
  | zero =>
    intro i s k hd hs hk
    obtain ⟨k, rfl⟩ : ∃ m, k = m + 1 := ⟨k - 1, by omega⟩
    rw [i_alfilref04_Says.l0, if_neg (by omega), show n = i by omega, hs]; rfl
  | succ d ih =>
    intro i s k hd hs hk
    obtain ⟨k, rfl⟩ : ∃ m, k = m + 12 := ⟨k - 12, by omega⟩
    have hi := run_inv t i s hs
    have hx : runS t (i + 1) = stp (bt t i) s := by simp only [runS, hs, Option.bind_some]
    have b0 := bt_lo t i
    have b1 := bt_hi t i
    have fail : stp (bt t i) s = none → (some (([] : List Int), (0 : Int), (0 : Int), false) : Option _) = some (resZ (runS t n)) := fun h => by
      have := run_none t (n := i + 1) (by rw [hx, h]) d
      rw [show i + 1 + d = n by omega] at this
      rw [this]; rfl
    have good : ∀ s' k', stp (bt t i) s = some s' → 12 * d < k' → i_alfilref04_Says.l0 k' t n (wrap64 ((i : Int) + 1)) s'.1 s'.2.1 s'.2.2 = some (resZ (runS t n)) := fun s' k' h hk' => by
      rw [w64 (by omega) (by omega)]
      exact ih (i + 1) s' k' (by omega) (by rw [hx, h]) hk'
    obtain ⟨l, r, f⟩ := s
    have ⟨h1, h2, h3, h4, h5, h6⟩ := hi
    simp only at h1 h2 h3 h4 h5 h6
    have he : ofZ (t.extract (i : Int).toNat ((wrap64 ((i : Int) + 1)) : Int).toNat) = manb (bt t i) := by
      rw [w64 (by omega) (by omega), Int.toNat_natCast, show ((i : Int) + 1).toNat = i + 1 by omega, ext_man t (by omega)]
    have byMan : bt t i ≠ 47 → ¬ (49 ≤ bt t i ∧ bt t i ≤ 56) → ∀ X : Option (List Int × Int × Int × Bool), X = i_alfilref04_Says.l0 (k + 9) t n (wrap64 ((i : Int) + 1)) (l ++ [manb (bt t i)]) r (wrap64 (f + 1)) →
        (if (i : Int) ≤ wrap64 ((i : Int) + 1) then (if wrap64 ((i : Int) + 1) ≤ (t.size : Int) then (if ofZ (t.extract (i : Int).toNat ((wrap64 ((i : Int) + 1)) : Int).toNat) = 0 then some (([] : List Int), (0 : Int), (0 : Int), false) else (if wrap64 (f + 1) > 8 then some (([] : List Int), (0 : Int), (0 : Int), false) else X)) else none) else none) = some (resZ (runS t n)) := fun e1 e2 X hX => by
      rw [he, hX]
      rw [if_pos (by rw [w64 (by omega) (by omega)]; omega), if_pos (by rw [w64 (by omega) (by omega)]; omega)]
      have S : stp (bt t i) (l, r, f) = if manb (bt t i) = 0 then none else if f + 1 > 8 then none else some (l ++ [manb (bt t i)], r, f + 1) := by
        unfold stp; rw [if_neg e1, if_neg e2]
      by_cases hz : manb (bt t i) = 0
      · rw [if_pos hz]; exact fail (by rw [S, if_pos hz])
      · rw [if_neg hz, w64 (x := f + 1) (by omega) (by omega)]
        by_cases hf : f + 1 > 8
        · rw [if_pos hf]; exact fail (by rw [S, if_neg hz, if_pos hf])
        · rw [if_neg hf]
          exact good (l ++ [manb (bt t i)], r, f + 1) (k + 9) (by rw [S, if_neg hz, if_neg hf]) (by omega)
    rw [show k + 12 = (k + 11) + 1 from rfl, i_alfilref04_Says.l0]
    rw [if_pos (show (i : Int) < n by omega), if_pos (show (0 : Int) ≤ i by omega), if_pos (show (i : Int) < t.size by omega), Int.toNat_natCast]
    simp only
    by_cases e : bt t i = 47
    · rw [if_pos e]
      by_cases hf : f = 8
      · rw [if_pos hf]
        by_cases hr : r = 7
        · rw [if_pos hr]; exact fail (by unfold stp; rw [if_pos e, if_pos hf, if_pos hr])
        · rw [if_neg hr, w64 (x := r + 1) (by omega) (by omega)]
          exact good (l, r + 1, 0) (k + 11) (by unfold stp; rw [if_pos e, if_pos hf, if_neg hr]) (by omega)
      · rw [if_neg hf]; exact fail (by unfold stp; rw [if_pos e, if_neg hf])
    · rw [if_neg e]
      by_cases g1 : bt t i ≥ 49
      · rw [if_pos g1]
        by_cases g2 : bt t i ≤ 56
        · rw [if_pos g2]
          have em : (bt t i - 48) % 256 = bt t i - 48 := by omega
          rw [em, w64 (x := f + (bt t i - 48)) (by omega) (by omega)]
          by_cases hf : f + (bt t i - 48) > 8
          · rw [if_pos hf]; exact fail (by unfold stp; rw [if_neg e, if_pos ⟨g1, g2⟩, if_pos hf])
          · rw [if_neg hf]
            obtain ⟨q, hq⟩ : ∃ q : Nat, (q : Int) = bt t i - 48 := ⟨(bt t i - 48).toNat, by omega⟩
            have e1 := says_1 t n i r f q 0 l (k + (10 - q)) (by rw [Int.toNat_natCast, em]; omega) (by omega) (by omega)
            rw [show k + (10 - q) + q + 1 = k + 11 by omega] at e1
            rw [e1, Int.toNat_natCast, em, w64 (x := f + (bt t i - 48)) (by omega) (by omega)]
            exact good (l ++ List.replicate q 0, r, f + (bt t i - 48)) (k + (10 - q)) (by unfold stp; rw [if_neg e, if_pos ⟨g1, g2⟩, if_neg hf, show (bt t i - 48).toNat = q by omega]) (by omega)
        · rw [if_neg g2]
          have := says_2 t n i r f l (k + 9) (by omega)
          rw [he] at this
          exact byMan e (by omega) _ this
      · rw [if_neg g1]
        have := says_3 t n i r f l (k + 9) (by omega)
        rw [he] at this
        exact byMan e (by omega) _ this
theorem says_is (t : ByteArray) (ht : t.size ≤ 1000) (n : Nat) (hn : n ≤ t.size) {k : Nat} (hk : 12 * n < k) : i_alfilref04_Says.f k t n = some (resZ (runS t n)) := by
  unfold i_alfilref04_Says.f
  exact says_l t ht n hn n 0 ([], 0, 0) k (by omega) rfl hk
theorem take_next {l : List Int} {i : Nat} (h : i < l.length) : l.take i ++ [nt l i 0] = l.take (i + 1) := by
  rw [nt_get h, List.take_add_one, List.getElem?_eq_getElem h]; rfl
theorem rread_1 (n : Int) (sq : List Int) (hl : sq.length = 64) (hb : ∀ i, -6 ≤ nt sq i 0 ∧ nt sq i 0 ≤ 6) : ∀ (d i k : Nat), i + d = 64 → d < k → i_alfilref04_Read.l1 k n sq i (bd (sq.take i)) = some (bd sq, n, 0) := by
  intro d
  induction d with
  | zero =>
    intro i k hd hk
    obtain ⟨k, rfl⟩ : ∃ m, k = m + 1 := ⟨k - 1, by omega⟩
    rw [i_alfilref04_Read.l1, if_neg (by omega), List.take_of_length_le (by omega)]
  | succ d ih =>
    intro i k hd hk
    obtain ⟨k, rfl⟩ : ∃ m, k = m + 1 := ⟨k - 1, by omega⟩
    have hv := hb i
    have e1 : Int.tdiv (i : Int) 8 = ((i / 8 : Nat) : Int) := by rw [Int.tdiv_eq_ediv_of_nonneg (by omega)]; omega
    have e2 : Int.tmod (i : Int) 8 = ((i % 8 : Nat) : Int) := by rw [Int.tmod_eq_emod_of_nonneg (by omega)]; omega
    have ei : wrap64 (wrap64 (8 * wrap64 (7 - wrap64 (Int.tdiv (i : Int) 8))) + Int.tmod (i : Int) 8) = ((ix i : Nat) : Int) := by
      rw [e1, e2, w64 (x := ((i / 8 : Nat) : Int)) (by omega) (by omega), w64 (x := 7 - _) (by omega) (by omega), w64 (x := 8 * _) (by omega) (by omega), w64 (by omega) (by omega)]
      unfold ix; omega
    have hx := ix_lt (i := i)
    rw [i_alfilref04_Read.l1, if_pos (by omega), if_pos (by omega), if_pos (by omega), ei, if_pos (by omega), if_pos (by omega), Int.toNat_natCast, Int.toNat_natCast, wi8 (by omega) (by omega), w64 (x := (i : Int) + 1) (by omega) (by omega)]
    have hlt : (sq.take i).length = i := by rw [List.length_take]; omega
    have := bd_set (l := sq.take i) (m := nt sq i 0) (by omega)
    rw [hlt, take_next (by omega)] at this
    rw [this]
    exact ih (i + 1) k (by omega) (by omega)
theorem rread_l (t : ByteArray) (ht : t.size ≤ 1000) : ∀ (d i k : Nat) (s : St), i + d = t.size → runS t i = some s → 13 * t.size + d + 100 < k → i_alfilref04_Read.l0 k t i = some (rdF t d i) := by
  intro d
  induction d with
  | zero =>
    intro i k s hd hs hk
    obtain ⟨k, rfl⟩ : ∃ m, k = m + 1 := ⟨k - 1, by omega⟩
    have hi := run_inv t i s hs
    rw [i_alfilref04_Read.l0, if_neg (by omega), says_is t ht i (by omega) (by omega), hs]
    simp only [Option.bind_some, resZ, rdF, hs]
    obtain ⟨l, r, f⟩ := s
    have ⟨h1, h2, h3, h4, h5, h6⟩ := hi
    simp only at h1 h2 h3 h4 h5 h6 ⊢
    by_cases hl : l.length = 64
    · rw [if_neg (by omega), if_pos hl]
      have := rread_1 i l hl h6 64 0 k (by omega) (by omega)
      rw [List.take_zero, bd_nil] at this
      exact this
    · rw [if_pos (by omega), if_neg hl]
  | succ d ih =>
    intro i k s hd hs hk
    obtain ⟨k, rfl⟩ : ∃ m, k = m + 1 := ⟨k - 1, by omega⟩
    rw [i_alfilref04_Read.l0, if_pos (by omega), w64 (by omega) (by omega)]
    have e := says_is t ht (i + 1) (by omega) (k := k) (by omega)
    rw [Int.natCast_add, Int.natCast_one] at e
    rw [e]
    simp only [Option.bind_some, rdF]
    cases hx : runS t (i + 1) with
    | none => simp [resZ]
    | some s' =>
      simp only [resZ, if_true]
      exact ih (i + 1) k s' (by omega) hx (by omega)
theorem rread_is (t : ByteArray) (ht : t.size ≤ 1000) {k : Nat} (hk : 14 * t.size + 100 < k) : i_alfilref04_Read.f k t = some (rdZ t) := by
  unfold i_alfilref04_Read.f rdZ
  exact rread_l t ht t.size 0 k ([], 0, 0) (by omega) rfl (by omega)
theorem fwakes_is {k : Nat} (hk : 100 < k) : i_alfillaw04_wakes.f k = some true := by
  unfold i_alfillaw04_wakes.f
  rw [read_is ⟨#[56, 47, 56, 47, 56, 47, 56, 47, 56, 47, 56, 47, 56, 47, 52, 75, 50, 107]⟩ (by decide) (k := k) (by show 18 < k; omega), read_is ⟨#[56, 47, 57]⟩ (by decide) (k := k) (by show 3 < k; omega)]
  simp only [Option.bind_some]
  rw [show rdZ ⟨#[56, 47, 56, 47, 56, 47, 56, 47, 56, 47, 56, 47, 56, 47, 52, 75, 50, 107]⟩ = (bd (List.replicate 56 0 ++ [0, 0, 0, 0, 6, 0, 0, -6]), 18, 0) by decide +kernel, show rdZ ⟨#[56, 47, 57]⟩ = (zL, 2, 2) by decide +kernel]
  decide +kernel
theorem reads_is (t : ByteArray) : i_alfillaw04_ForsythReads.f 10000 t = some true := by
  unfold i_alfillaw04_ForsythReads.f
  rw [fwakes_is (by decide)]
  simp only [Option.bind_some, if_true]
  by_cases h : (t.size : Int) > 200
  · rw [if_pos h]
  · rw [if_neg h, read_is t (by omega) (by omega), rread_is t (by omega) (by omega)]
    simp
theorem walk_ForsythReads (t : ByteArray) (ht : t.size ≤ maxLen) (w : World) : Calls Try.prog 8 #[.string t] w fun e w' => e = .returned (.bool true) ∧ Below w.heap.size w w' :=
  i_alfillaw04_ForsythReads.calls 10000 t true w (reads_is t)
end Go.Proofs.Ytpgdcpkggmkooaa
