/- The reference's Of, and the walks of the laws on men. -/
import Derived.Test.YtpgdcpkggmkooaaMn
namespace Go.Proofs.Ytpgdcpkggmkooaa
open Go.RowKit
theorem kind_pos {m : Int} (h0 : -6 ≤ m) (h1 : m ≤ 6) (h2 : m ≠ 0) : 0 < kindZ m := by unfold kindZ; rw [if_neg (by omega)]; split <;> omega
set_option maxHeartbeats 1000000 in
theorem rOf (t : ByteArray) (w : World) :
    Calls Try.prog 75 #[.string t] w fun e w' => e = .returned (.int .i64 (ofZ t)) ∧ Below w.heap.size w w' := by
  go_enter Try.func75, Try.ntmps75
  go_wp2
  go_loopw [3] (fun v wr => ∃ m : Int, -6 ≤ m ∧ m ≤ 7 ∧ v = .int .i64 m ∧ Hid (∀ j : Int, -6 ≤ j → j < m → j ≠ 0 → letterB j ≠ t ∧ signB j ≠ t) ∧ Hid (Below w.heap.size w wr)) (fun v _ => (7 - intOf v).toNat)
  case atStart => exact ⟨-6, by omega, by omega, rfl, hid (by omega), hid (Below.refl _ _)⟩
  case round =>
    obtain ⟨m, h0, h1, rfl, HN, HL⟩ := hrel
    by_cases hlt : m ≤ 6
    · by_cases hz : m = 0
      · subst hz
        have HK := hid (rKind 0)
        rw [show kindZ 0 = 0 from rfl] at HK
        go_wp2_with fail
        (with_reducible refine (HK.out _).mono ?_)
        rintro e w' ⟨rfl, rfl⟩
        go_wp2
        go_roundw
        case rel =>
          exact ⟨1, by omega, by omega, rfl, hid (fun j a b c => HN.out j a (by omega) c), HL⟩
        case measure => simp [intOf]
      · have HK := hid (rKind m)
        have HLe := hid (rLetter m)
        have HSi := hid (rSign m)
        have kp := kind_pos h0 hlt hz
        have HZ := hid hz
        clear hz
        by_cases hl : letterB m = t
        · have HO := hid (of_eq h0 hlt HZ.out (.inl hl))
          have b1 := seq_t hl
          clear hl
          generalize kindZ m = kk at *
          go_wp2_with fail
          (with_reducible refine (HK.out _).mono ?_)
          rintro e w' ⟨rfl, rfl⟩
          go_wp2_with fail
          (with_reducible refine (HLe.out _).mono ?_)
          rintro e w1 ⟨rfl, hb1⟩
          go_wp2
          go_ret
          exact ⟨rv_int HO.out.symm, HL.out.trans (hb1.mono HL.out.size)⟩
        · by_cases hs : signB m = t
          · have HO := hid (of_eq h0 hlt HZ.out (.inr hs))
            have b1 := seq_f hl
            have b2 := seq_t hs
            clear hl hs
            generalize kindZ m = kk at *
            go_wp2_with fail
            (with_reducible refine (HK.out _).mono ?_)
            rintro e w' ⟨rfl, rfl⟩
            go_wp2_with fail
            (with_reducible refine (HLe.out _).mono ?_)
            rintro e w1 ⟨rfl, hb1⟩
            go_wp2_with fail
            (with_reducible refine (HSi.out _).mono ?_)
            rintro e w2 ⟨rfl, hb2⟩
            go_wp2
            go_ret
            have hb := HL.out.trans (hb1.mono HL.out.size)
            exact ⟨rv_int HO.out.symm, hb.trans (hb2.mono hb.size)⟩
          · have HH := hid (show letterB m ≠ t ∧ signB m ≠ t from ⟨hl, hs⟩)
            have b1 := seq_f hl
            have b2 := seq_f hs
            clear hl hs
            generalize kindZ m = kk at *
            go_wp2_with fail
            (with_reducible refine (HK.out _).mono ?_)
            rintro e w' ⟨rfl, rfl⟩
            go_wp2_with fail
            (with_reducible refine (HLe.out _).mono ?_)
            rintro e w1 ⟨rfl, hb1⟩
            go_wp2_with fail
            (with_reducible refine (HSi.out _).mono ?_)
            rintro e w2 ⟨rfl, hb2⟩
            go_wp2
            go_roundw
            case rel =>
              have hb := HL.out.trans (hb1.mono HL.out.size)
              refine ⟨m + 1, by omega, by omega, rfl, hid (fun j a b c => ?_), hid (hb.trans (hb2.mono hb.size))⟩
              by_cases e : j = m
              · rw [e]; exact HH.out
              · exact HN.out j a (by omega) c
            case measure => simp [intOf]; omega
    · have HO := hid (of_none (t := t) (fun j a b c => HN.out j a (by omega) c))
      go_wp2
      go_ret
      exact ⟨rv_int HO.out.symm, HL.out⟩

theorem man_kind (m : Int) : manB m = decide (0 < kindZ m) := by
  unfold manB kindZ
  by_cases h : m = 0 ∨ m < -6 ∨ 6 < m
  · rw [if_pos h, decide_eq_false (by omega)]; rfl
  · rw [if_neg h, decide_eq_true (by omega)]
    split
    · rw [decide_eq_true (by omega)]
    · rw [decide_eq_true (by omega)]
theorem enc_small (i : Int) : (Utf8.encode i).size ≤ maxLen := Nat.le_trans (encode_size_le i) (by decide)
theorem letter_small (m : Int) : (letterB m).size ≤ maxLen := by unfold letterB; split; exact Nat.zero_le _; exact enc_small _
theorem sign_small (m : Int) : (signB m).size ≤ maxLen := by unfold signB; split; exact Nat.zero_le _; exact enc_small _
theorem makeZ_in {k s : Int} (h0 : 1 ≤ k) (h1 : k ≤ 6) : makeZ k s = if s = 0 then k else if s = 1 then -k else 0 := by unfold makeZ; rw [if_neg (by omega)]
end Go.Proofs.Ytpgdcpkggmkooaa
