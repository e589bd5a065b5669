import Derived.Test.YtaipghemddjecaaFvz
import Derived.Test.YtaipghemddjecaaF2wz
namespace Go.Proofs.Ytaipghemddjecaa
open Go.RowKit
set_option linter.unusedVariables false
set_option linter.unusedSimpArgs false
theorem at_is {f r : Int} (h0 : 0 ≤ f) (h1 : f < 8) (h2 : 0 ≤ r) (h3 : r < 8) : i_square_At.f f r = some (8 * r + f, true) := by
  unfold i_square_At.f i_square_on.f
  rw [if_pos h0, if_pos h2, w64 (x := 8 * r) (by omega) (by omega), w64 (by omega) (by omega)]
  simp [h1, h3]
theorem man_is {s : FSt} (hi : Inv s) (hf : s.2.2 ≠ 8) (c : Int) : i_forsyth_reader_man.f (bd s.1) s.2.1 s.2.2 c =
    if ofZ (Utf8.encode c) ≠ 0 ∧ c ≤ 122 then some (true, bd (s.1 ++ [ofZ (Utf8.encode c)]), s.2.1, s.2.2 + 1) else some (false, bd s.1, s.2.1, s.2.2) := by
  obtain ⟨l, r, f⟩ := s
  have ⟨h1, h2, h3, h4, h5, h6⟩ := hi
  simp only at h1 h2 h3 h4 h5 h6 hf
  unfold i_forsyth_reader_man.f
  simp only
  rw [w64 (x := 7 - r) (by omega) (by omega), at_is h4 (by omega) (by omega) (by omega)]
  simp only [Option.bind_some]
  have hr := of_range (Utf8.encode c)
  by_cases hz : ofZ (Utf8.encode c) = 0
  · rw [if_neg (by simp [hz]), if_neg (by simp [hz])]
  · rw [if_pos (by simpa using hz), if_pos trivial]
    by_cases hc : c > 122
    · rw [if_pos hc, if_neg (by omega)]
    · rw [if_neg hc, if_pos (show 0 ≤ 8 * (7 - r) + f by omega), if_pos (show 8 * (7 - r) + f < 64 by omega), w64 (x := f + 1) (by omega) (by omega), wi8 (by omega) (by omega), if_pos (⟨hz, by omega⟩ : _ ∧ _), ← bd_set (by omega)]
      rw [show (8 * (7 - r) + f).toNat = ix l.length by unfold ix; omega]
theorem next_is {s : FSt} (hi : Inv s) {c : Int} (h0 : 0 ≤ c) (hc : c < 128) :
    (∀ s', stp c s = some s' → i_forsyth_reader_next.f (bd s.1) s.2.1 s.2.2 c = some (true, bd s'.1, s'.2.1, s'.2.2)) ∧ (stp c s = none → ∃ x, i_forsyth_reader_next.f (bd s.1) s.2.1 s.2.2 c = some (false, x)) := by
  have M := man_is hi
  obtain ⟨l, r, f⟩ := s
  have ⟨h1, h2, h3, h4, h5, h6⟩ := hi
  simp only at h1 h2 h3 h4 h5 h6 M
  unfold i_forsyth_reader_next.f i_forsyth_reader_full.f i_forsyth_reader_over.f i_forsyth_reader_full.f stp
  simp only [Option.bind_some]
  by_cases e : c = 47
  · rw [if_pos e, if_pos e]
    by_cases hf : f = 8
    · simp only [hf, beq_self_eq_true, if_true]
      by_cases hr : r = 7
      · simp [hr]
      · rw [if_neg hr]
        simp only [Option.bind_some]
        rw [if_neg (show ¬ ((r == 7) = true) by simpa using hr), w64 (by omega) (by omega)]
        exact ⟨fun s' hs => (by cases hs; rfl), fun h => (by cases h)⟩
    · rw [if_neg hf, if_neg (show ¬ ((f == 8) = true) by simpa using hf)]
      exact ⟨fun s' hs => (by cases hs), fun _ => ⟨_, rfl⟩⟩
  · rw [if_neg e, if_neg e]
    by_cases hf : f = 8
    · rw [if_pos (show (f == 8) = true by simpa using hf)]
      refine ⟨fun s' hs => ?_, fun _ => ⟨_, rfl⟩⟩
      exfalso
      split at hs
      · rw [if_pos (by omega)] at hs; cases hs
      · split at hs
        · cases hs
        · rw [if_pos (by omega)] at hs; cases hs
    · rw [if_neg (show ¬ ((f == 8) = true) by simpa using hf)]
      have byMan : ¬ (49 ≤ c ∧ c ≤ 56) → ((∀ s', (if 49 ≤ c ∧ c ≤ 56 then (if f + (c - 48) > 8 then none else some (l ++ List.replicate (c - 48).toNat 0, r, f + (c - 48))) else if manb c = 0 then none else if f + 1 > 8 then none else some (l ++ [manb c], r, f + 1)) = some s' →
          ((i_forsyth_reader_man.f (bd l) r f c).bind fun bt48 => some (bt48.1, bt48.2.1, bt48.2.2.1, bt48.2.2.2)) = some (true, bd s'.1, s'.2.1, s'.2.2)) ∧
          ((if 49 ≤ c ∧ c ≤ 56 then (if f + (c - 48) > 8 then none else some (l ++ List.replicate (c - 48).toNat 0, r, f + (c - 48))) else if manb c = 0 then none else if f + 1 > 8 then none else some (l ++ [manb c], r, f + 1)) = none →
          ∃ x, ((i_forsyth_reader_man.f (bd l) r f c).bind fun bt48 => some (bt48.1, bt48.2.1, bt48.2.2.1, bt48.2.2.2)) = some (false, x))) := fun hn => by
        rw [if_neg hn, M hf c, man_enc h0 hc]
        by_cases hz : manb c = 0
        · rw [if_pos hz, if_neg (by simp [hz])]
          exact ⟨fun s' hs => (by cases hs), fun _ => ⟨_, rfl⟩⟩
        · have hc2 : c ≤ 122 := by
            rcases Int.lt_or_le 122 c with h | h
            · exact absurd (manb_hi h (by omega)) hz
            · exact h
          rw [if_neg hz, if_neg (show ¬ f + 1 > 8 by omega), if_pos ⟨hz, hc2⟩]
          exact ⟨fun s' hs => (by cases hs; rfl), fun h => (by cases h)⟩
      by_cases g1 : c ≥ 49
      · rw [if_pos g1]
        by_cases g2 : c ≤ 56
        · rw [if_pos g2, if_pos ⟨g1, g2⟩]
          unfold i_forsyth_reader_empty.f
          rw [w32 (by omega) (by omega), w64 (x := c - 48) (by omega) (by omega), w64 (by omega) (by omega)]
          simp only [Option.bind_some]
          by_cases g3 : f + (c - 48) > 8
          · rw [if_pos g3, show decide (f + (c - 48) ≤ 8) = false from decide_eq_false (by omega)]
            exact ⟨fun s' hs => (by cases hs), fun _ => ⟨_, rfl⟩⟩
          · rw [if_neg g3, show decide (f + (c - 48) ≤ 8) = true from decide_eq_true (by omega)]
            refine ⟨fun s' hs => (by cases hs; simp only; rw [bd_rep]), fun h => (by cases h)⟩
        · rw [if_neg g2]
          exact byMan (by omega)
      · rw [if_neg g1]
        exact byMan (by omega)
theorem next_hi {s : FSt} (hi : Inv s) {c : Int} (hc : 128 ≤ c) : ∃ x, i_forsyth_reader_next.f (bd s.1) s.2.1 s.2.2 c = some (false, x) := by
  have M := man_is hi
  obtain ⟨l, r, f⟩ := s
  simp only at M
  unfold i_forsyth_reader_next.f i_forsyth_reader_full.f
  simp only [Option.bind_some]
  rw [if_neg (by omega)]
  by_cases hf : f = 8
  · rw [if_pos (show (f == 8) = true by simpa using hf)]; exact ⟨_, rfl⟩
  · rw [if_neg (show ¬ ((f == 8) = true) by simpa using hf), if_pos (show c ≥ 49 by omega), if_neg (show ¬ c ≤ 56 by omega), M hf c, if_neg (by omega)]
    exact ⟨_, rfl⟩
theorem stp_hi {c : Int} (h : 128 ≤ c) (h2 : c < 256) (s : FSt) : stp c s = none := by
  unfold stp
  rw [if_neg (by omega), if_neg (by omega), if_pos (manb_hi (by omega) h2)]
def rdF (t : ByteArray) : Nat → Nat → List Int × Int × Int
  | 0, i => match runS t i with
    | some s => if s.1.length = 64 then (bd s.1, (i : Int), 0) else (zL, (i : Int), 1)
    | none => (zL, (i : Int), 2)
  | d + 1, i => match runS t (i + 1) with
    | some _ => rdF t d (i + 1)
    | none => (zL, (i : Int), 2)
def rdZ (t : ByteArray) : List Int × Int × Int := rdF t t.size 0
theorem read_l (t : ByteArray) (ht : t.size ≤ 1000) : ∀ (d i : Nat) (s : FSt) (k : Nat), i + d = t.size → runS t i = some s → d < k → i_forsyth_Read.l0 k t (bd s.1) s.2.1 s.2.2 i = some (rdF t d i) := by
  intro d
  induction d with
  | zero =>
    intro i s k hd hs hk
    obtain ⟨k, rfl⟩ : ∃ m, k = m + 1 := ⟨k - 1, by omega⟩
    have hi := run_inv t i s hs
    simp only [i_forsyth_Read.l0, rdF, hs]
    obtain ⟨l, r, f⟩ := s
    have ⟨h1, h2, h3, h4, h5, h6⟩ := hi
    simp only at h1 h2 h3 h4 h5 h6
    rw [if_neg (by omega)]
    unfold i_forsyth_reader_over.f i_forsyth_reader_full.f
    simp only [Option.bind_some]
    rw [show ((t.size : Nat) : Int) = (i : Int) by omega]
    by_cases hf : f = 8
    · by_cases hr : r = 7
      · rw [if_pos (show l.length = 64 by omega)]
        simp [hf, hr]
      · rw [if_neg (show ¬ l.length = 64 by omega)]
        simp [hf, hr]
    · rw [if_neg (show ¬ l.length = 64 by omega)]
      simp [hf]
  | succ d ih =>
    intro i s k hd hs hk
    obtain ⟨k, rfl⟩ : ∃ m, k = m + 1 := ⟨k - 1, by omega⟩
    have hi := run_inv t i s hs
    have hn : runS t (i + 1) = stp (bt t i) s := by simp only [runS, hs, Option.bind_some]
    have b0 := bt_lo t i
    have b1 := bt_hi t i
    simp only [i_forsyth_Read.l0, rdF]
    rw [if_pos (by omega)]
    by_cases hb : bt t i < 128
    · obtain ⟨e1, e2⟩ := dec_lo t i (by omega) hb
      rw [e1, e2]
      obtain ⟨N1, N2⟩ := next_is hi b0 hb
      cases hst : stp (bt t i) s with
      | none =>
        obtain ⟨x, hx⟩ := N2 hst
        rw [hx, hn, hst]
        simp
      | some s' =>
        rw [N1 s' hst, hn, hst]
        simp only [Option.bind_some, if_true]
        exact ih (i + 1) s' k (by omega) (by rw [hn, hst]) (by omega)
    · obtain ⟨x, hx⟩ := next_hi hi (dec_hi t i (by omega) (by omega))
      rw [hx, hn, stp_hi (by omega) b1]
      simp
theorem read_is (t : ByteArray) (ht : t.size ≤ 1000) {k : Nat} (hk : t.size < k) : i_forsyth_Read.f k t = some (rdZ t) := by
  unfold i_forsyth_Read.f rdZ
  have := read_l t ht t.size 0 ([], 0, 0) k (by omega) rfl hk
  rw [bd_nil] at this
  exact this
end Go.Proofs.Ytaipghemddjecaa
