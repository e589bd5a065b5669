/- The reference's Of, and the walks of the laws on men. -/
import Derived.Test.YtndijmlflijalaaMn
namespace Go.Proofs.Ytndijmlflijalaa
open Go.RowKit
theorem kind_pos {m : Int} (h0 : -6 ≤ m) (h1 : m ≤ 6) (h2 : m ≠ 0) : 0 < kindZ m := by unfold kindZ; rw [if_neg (by omega)]; split <;> omega
set_option maxHeartbeats 1000000 in
theorem rOf (t : ByteArray) (w : World) :
    Calls Try.prog 46 #[.string t] w fun e w' => e = .returned (.int .i64 (ofZ t)) ∧ Below w.heap.size w w' := by
  go_enter Try.func46, Try.ntmps46
  go_wp2
  go_loopw [3] (fun v wr => ∃ m : Int, -6 ≤ m ∧ m ≤ 7 ∧ v = .int .i64 m ∧ Hid (∀ j : Int, -6 ≤ j → j < m → j ≠ 0 → letterB j ≠ t ∧ signB j ≠ t) ∧ Hid (Below w.heap.size w wr)) (fun v _ => (7 - intOf v).toNat)
  case atStart => exact ⟨-6, by omega, by omega, rfl, hid (by omega), hid (Below.refl _ _)⟩
  case round =>
    obtain ⟨m, h0, h1, rfl, HN, HL⟩ := hrel
    by_cases hlt : m ≤ 6
    · by_cases hz : m = 0
      · subst hz
        have HK := hid (rKind 0)
        rw [show kindZ 0 = 0 from rfl] at HK
        go_wp2_with fail
        (with_reducible refine (HK.out _).mono ?_)
        rintro e w' ⟨rfl, rfl⟩
        go_wp2
        go_roundw
        case rel =>
          exact ⟨1, by omega, by omega, rfl, hid (fun j a b c => HN.out j a (by omega) c), HL⟩
        case measure => simp [intOf]
      · have HK := hid (rKind m)
        have HLe := hid (rLetter m)
        have HSi := hid (rSign m)
        have kp := kind_pos h0 hlt hz
        have HZ := hid hz
        clear hz
        by_cases hl : letterB m = t
        · have HO := hid (of_eq h0 hlt HZ.out (.inl hl))
          have b1 := seq_t hl
          clear hl
          generalize kindZ m = kk at *
          go_wp2_with fail
          (with_reducible refine (HK.out _).mono ?_)
          rintro e w' ⟨rfl, rfl⟩
          go_wp2_with fail
          (with_reducible refine (HLe.out _).mono ?_)
          rintro e w1 ⟨rfl, hb1⟩
          go_wp2
          go_ret
          exact ⟨rv_int HO.out.symm, HL.out.trans (hb1.mono HL.out.size)⟩
        · by_cases hs : signB m = t
          · have HO := hid (of_eq h0 hlt HZ.out (.inr hs))
            have b1 := seq_f hl
            have b2 := seq_t hs
            clear hl hs
            generalize kindZ m = kk at *
            go_wp2_with fail
            (with_reducible refine (HK.out _).mono ?_)
            rintro e w' ⟨rfl, rfl⟩
            go_wp2_with fail
            (with_reducible refine (HLe.out _).mono ?_)
            rintro e w1 ⟨rfl, hb1⟩
            go_wp2_with fail
            (with_reducible refine (HSi.out _).mono ?_)
            rintro e w2 ⟨rfl, hb2⟩
            go_wp2
            go_ret
            have hb := HL.out.trans (hb1.mono HL.out.size)
            exact ⟨rv_int HO.out.symm, hb.trans (hb2.mono hb.size)⟩
          · have HH := hid (show letterB m ≠ t ∧ signB m ≠ t from ⟨hl, hs⟩)
            have b1 := seq_f hl
            have b2 := seq_f hs
            clear hl hs
            generalize kindZ m = kk at *
            go_wp2_with fail
            (with_reducible refine (HK.out _).mono ?_)
            rintro e w' ⟨rfl, rfl⟩
            go_wp2_with fail
            (with_reducible refine (HLe.out _).mono ?_)
            rintro e w1 ⟨rfl, hb1⟩
            go_wp2_with fail
            (with_reducible refine (HSi.out _).mono ?_)
            rintro e w2 ⟨rfl, hb2⟩
            go_wp2
            go_roundw
            case rel =>
              have hb := HL.out.trans (hb1.mono HL.out.size)
              refine ⟨m + 1, by omega, by omega, rfl, hid (fun j a b c => ?_), hid (hb.trans (hb2.mono hb.size))⟩
              by_cases e : j = m
              · rw [e]; exact HH.out
              · exact HN.out j a (by omega) c
            case measure => simp [intOf]; omega
    · have HO := hid (of_none (t := t) (fun j a b c => HN.out j a (by omega) c))
      go_wp2
      go_ret
      exact ⟨rv_int HO.out.symm, HL.out⟩

theorem mnWakes (w : World) : Calls Try.prog 31 #[] w fun e w' => e = .returned (.bool true) ∧ Below w.heap.size w w' := by
  have H1 : Hid (∀ w, Calls Try.prog 37 #[.int .i64 (-2)] w fun e w' => e = .returned (.string ⟨#[110]⟩) ∧ Below w.heap.size w w') := hid (mnLetter (-2))
  have H2 : Hid (∀ w, Calls Try.prog 39 #[.int .i64 (-2)] w fun e w' => e = .returned (.string ⟨#[226, 153, 158]⟩) ∧ Below w.heap.size w w') := hid (mnSign (-2))
  go_enter Try.func31, Try.ntmps31
  go_wp2_with fail
  (with_reducible refine (H1.out _).mono ?_)
  rintro e w1 ⟨rfl, hb1⟩
  go_wp2_with fail
  (with_reducible refine (H2.out _).mono ?_)
  rintro e w2 ⟨rfl, hb2⟩
  go_wp2
  go_ret
  exact ⟨rfl, hb1.trans (hb2.mono hb1.size)⟩

theorem man_kind (m : Int) : manB m = decide (0 < kindZ m) := by
  unfold manB kindZ
  by_cases h : m = 0 ∨ m < -6 ∨ 6 < m
  · rw [if_pos h, decide_eq_false (by omega)]; rfl
  · rw [if_neg h, decide_eq_true (by omega)]
    split
    · rw [decide_eq_true (by omega)]
    · rw [decide_eq_true (by omega)]
set_option maxHeartbeats 1000000 in
theorem walk_MenAre (m : Int) (w : World) :
    Calls Try.prog 8 #[.int .i64 m] w fun e w' => e = .returned (.bool true) ∧ Below w.heap.size w w' := by
  have K1 := hid (rKind m)
  have K2 := hid (mnKind m)
  have R1 := hid (mnRight m)
  rw [man_kind] at R1
  have S1 := hid (mnSide m)
  have S2 := hid (rSide m)
  have L1 := hid (mnLetter m)
  have L2 := hid (rLetter m)
  have G1 := hid (mnSign m)
  have G2 := hid (rSign m)
  have W1 := hid (mnWorth m)
  have W2 := hid (rWorth m)
  generalize kindZ m = k at *
  generalize sideZ m = s at *
  generalize letterB m = l at *
  generalize signB m = g at *
  generalize worthZ m = wo at *
  have b1 : (l.toList == l.toList) = true := beq_self_eq_true _
  have b2 : (g.toList == g.toList) = true := beq_self_eq_true _
  go_enter Try.func8, Try.ntmps8
  go_wp2_with fail
  (with_reducible refine (mnWakes _).mono ?_)
  rintro e w1 ⟨rfl, hb1⟩
  go_wp2_with fail
  (with_reducible refine (K1.out _).mono ?_)
  rintro e w' ⟨rfl, rfl⟩
  go_wp2_with fail
  (with_reducible refine (R1.out _).mono ?_)
  rintro e w' ⟨rfl, rfl⟩
  go_wp2_with fail
  (with_reducible refine (K2.out _).mono ?_)
  rintro e w' ⟨rfl, rfl⟩
  go_wp2_with fail
  (with_reducible refine (S1.out _).mono ?_)
  rintro e w' ⟨rfl, rfl⟩
  go_wp2_with fail
  (with_reducible refine (S2.out _).mono ?_)
  rintro e w2 ⟨rfl, hb2⟩
  go_wp2_with fail
  (with_reducible refine (L1.out _).mono ?_)
  rintro e w3 ⟨rfl, hb3⟩
  go_wp2_with fail
  (with_reducible refine (L2.out _).mono ?_)
  rintro e w4 ⟨rfl, hb4⟩
  go_wp2_with fail
  (with_reducible refine (G1.out _).mono ?_)
  rintro e w5 ⟨rfl, hb5⟩
  go_wp2_with fail
  (with_reducible refine (G2.out _).mono ?_)
  rintro e w6 ⟨rfl, hb6⟩
  go_wp2_with fail
  (with_reducible refine (W1.out _).mono ?_)
  rintro e w7 ⟨rfl, hb7⟩
  go_wp2_with fail
  (with_reducible refine (W2.out _).mono ?_)
  rintro e w8 ⟨rfl, hb8⟩
  go_wp2
  go_ret
  refine ⟨rfl, ?_⟩
  have c2 := hb1.trans (hb2.mono hb1.size)
  have c3 := c2.trans (hb3.mono c2.size)
  have c4 := c3.trans (hb4.mono c3.size)
  have c5 := c4.trans (hb5.mono c4.size)
  have c6 := c5.trans (hb6.mono c5.size)
  have c7 := c6.trans (hb7.mono c6.size)
  exact c7.trans (hb8.mono c7.size)

theorem enc_small (i : Int) : (Utf8.encode i).size ≤ maxLen := Nat.le_trans (encode_size_le i) (by decide)
theorem letter_small (m : Int) : (letterB m).size ≤ maxLen := by unfold letterB; split; exact Nat.zero_le _; exact enc_small _
theorem sign_small (m : Int) : (signB m).size ≤ maxLen := by unfold signB; split; exact Nat.zero_le _; exact enc_small _
set_option maxHeartbeats 1000000 in
theorem walk_MenReads (t : ByteArray) (m : Int) (hs : t.size ≤ maxLen) (w : World) :
    Calls Try.prog 10 #[.string t, .int .i64 m] w fun e w' => e = .returned (.bool true) ∧ Below w.heap.size w w' := by
  have hs' := hs
  unfold maxLen at hs'
  by_cases hl : 100 < t.size
  · go_enter Try.func10, Try.ntmps10
    go_wp2_with fail
    (with_reducible refine (mnWakes _).mono ?_)
    rintro e w1 ⟨rfl, hb1⟩
    go_wp2_with fail
    go_ret
    exact ⟨rfl, hb1⟩
  · have O1 := hid (mnOf t hs)
    have O2 := hid (rOf t)
    have K1 := hid (rKind m)
    by_cases hk : kindZ m = 0
    · rw [hk] at K1
      clear hk
      have bz : ((ofZ t != 0) != (ofZ t != 0)) = false := by simp
      generalize ofZ t = o at *
      go_enter Try.func10, Try.ntmps10
      go_wp2_with fail
      (with_reducible refine (mnWakes _).mono ?_)
      rintro e w1 ⟨rfl, hb1⟩
      go_wp2_with fail
      (with_reducible refine (O1.out _).mono ?_)
      rintro e w2 ⟨rfl, hb2⟩
      go_wp2_with fail
      (with_reducible refine (O2.out _).mono ?_)
      rintro e w3 ⟨rfl, hb3⟩
      go_wp2_with fail
      (with_reducible refine (K1.out _).mono ?_)
      rintro e w' ⟨rfl, rfl⟩
      go_wp2_with fail
      go_ret
      have c2 := hb1.trans (hb2.mono hb1.size)
      exact ⟨rfl, c2.trans (hb3.mono c2.size)⟩
    · have hm : -6 ≤ m ∧ m ≤ 6 ∧ m ≠ 0 := by unfold kindZ at hk; split at hk; exact absurd rfl hk; omega
      have L1 := hid (mnLetter m)
      have G1 := hid (mnSign m)
      have O3 := hid (mnOf (letterB m) (letter_small m))
      have O4 := hid (mnOf (signB m) (sign_small m))
      obtain ⟨e1, e2⟩ := of_hit hm.1 hm.2.1 hm.2.2
      rw [e1] at O3
      rw [e2] at O4
      have bk := beq_f hk
      have bm := bne_t hm.2.2
      clear e1 e2 hk hm
      generalize ofZ t = o at *
      generalize kindZ m = k at *
      generalize letterB m = l at *
      generalize signB m = g at *
      go_enter Try.func10, Try.ntmps10
      go_wp2_with fail
      (with_reducible refine (mnWakes _).mono ?_)
      rintro e w1 ⟨rfl, hb1⟩
      go_wp2_with fail
      (with_reducible refine (O1.out _).mono ?_)
      rintro e w2 ⟨rfl, hb2⟩
      go_wp2_with fail
      (with_reducible refine (O2.out _).mono ?_)
      rintro e w3 ⟨rfl, hb3⟩
      go_wp2_with fail
      (with_reducible refine (K1.out _).mono ?_)
      rintro e w' ⟨rfl, rfl⟩
      go_wp2_with fail
      (with_reducible refine (L1.out _).mono ?_)
      rintro e w4 ⟨rfl, hb4⟩
      go_wp2_with fail
      (with_reducible refine (O3.out _).mono ?_)
      rintro e w5 ⟨rfl, hb5⟩
      go_wp2_with fail
      (with_reducible refine (G1.out _).mono ?_)
      rintro e w6 ⟨rfl, hb6⟩
      go_wp2_with fail
      (with_reducible refine (O4.out _).mono ?_)
      rintro e w7 ⟨rfl, hb7⟩
      go_wp2_with fail
      go_ret
      have c2 := hb1.trans (hb2.mono hb1.size)
      have c3 := c2.trans (hb3.mono c2.size)
      have c4 := c3.trans (hb4.mono c3.size)
      have c5 := c4.trans (hb5.mono c4.size)
      have c6 := c5.trans (hb6.mono c5.size)
      exact ⟨rfl, c6.trans (hb7.mono c6.size)⟩
theorem makeZ_in {k s : Int} (h0 : 1 ≤ k) (h1 : k ≤ 6) : makeZ k s = if s = 0 then k else if s = 1 then -k else 0 := by unfold makeZ; rw [if_neg (by omega)]
set_option maxHeartbeats 1000000 in
theorem walk_MenMakes (k s : Int) (w : World) :
    Calls Try.prog 9 #[.int .i64 k, .int .i64 s] w fun e w' => e = .returned (.bool true) ∧ Below w.heap.size w w' := by
  have M1 := hid (mnMake k s)
  have OT := hid (mnOther s)
  by_cases hbad : k < 1 ∨ 6 < k ∨ s < 0 ∨ 1 < s
  · have hz : makeZ k s = 0 := by unfold makeZ; repeat' split
                                  all_goals omega
    rw [hz] at M1
    by_cases hsb : s < 0 ∨ 1 < s
    · have ho : otherZ s = -1 := by unfold otherZ; rw [if_neg (by omega), if_neg (by omega)]
      rw [ho] at OT
      clear hz ho
      rcases (show (k < 1 ∧ s < 0) ∨ (k < 1 ∧ 1 < s) ∨ (1 ≤ k ∧ 6 < k ∧ s < 0) ∨ (1 ≤ k ∧ 6 < k ∧ 1 < s) ∨ (1 ≤ k ∧ k ≤ 6 ∧ s < 0) ∨ (1 ≤ k ∧ k ≤ 6 ∧ 0 ≤ s ∧ 1 < s) by omega) with ⟨h1, h2⟩ | ⟨h1, h2⟩ | ⟨h1, h2, h3⟩ | ⟨h1, h2, h3⟩ | ⟨h1, h2, h3⟩ | ⟨h1, h2, h3, h4⟩
      all_goals
        clear hbad hsb
        have d : (decide (s < 0) || decide (1 < s)) = true := by simp; omega
        go_enter Try.func9, Try.ntmps9
        go_wp2_with fail
        (with_reducible refine (mnWakes _).mono ?_)
        rintro e w1 ⟨rfl, hb1⟩
        go_wp2_with fail
        (with_reducible refine (M1.out _).mono ?_)
        rintro e w' ⟨rfl, rfl⟩
        go_wp2_with fail
        (with_reducible refine (OT.out _).mono ?_)
        rintro e w' ⟨rfl, rfl⟩
        go_wp2_with fail
        go_ret
        exact ⟨rfl, hb1⟩
    · have ho : otherZ s = 1 - s := by unfold otherZ; repeat' split
                                       all_goals omega
      rw [ho] at OT
      have d1 := decide_eq_false (show ¬ 1 < s by omega)
      have d2 := decide_eq_false (show ¬ s < 0 by omega)
      have s0 : 0 ≤ s := by omega
      have s1 : s ≤ 1 := by omega
      have b : (1 - s == -1) = false := beq_f (by omega)
      rcases (show k < 1 ∨ (1 ≤ k ∧ 6 < k) by omega) with h1 | ⟨h1, h2⟩
      all_goals
        clear hbad hsb hz ho
        go_enter Try.func9, Try.ntmps9
        go_wp2_with fail
        (with_reducible refine (mnWakes _).mono ?_)
        rintro e w1 ⟨rfl, hb1⟩
        go_wp2_with fail
        (with_reducible refine (M1.out _).mono ?_)
        rintro e w' ⟨rfl, rfl⟩
        go_wp2_with fail
        (with_reducible refine (OT.out _).mono ?_)
        rintro e w' ⟨rfl, rfl⟩
        go_wp2_with fail
        go_ret
        exact ⟨rfl, hb1⟩
  · have k1 : 1 ≤ k := by omega
    have k6 : k ≤ 6 := by omega
    have d := decide_eq_false (show ¬ 1 < s by omega)
    rw [makeZ_in k1 k6] at M1
    rcases (show s = 0 ∨ s = 1 by omega) with rfl | rfl
    · have O2 := hid (mnOther 1)
      rw [show otherZ 0 = 1 from rfl] at OT
      rw [show otherZ 1 = 0 from rfl] at O2
      rw [if_pos rfl] at M1
      have K1 := hid (mnKind k)
      have S1 := hid (mnSide k)
      have M2 := hid (mnMake k 1)
      rw [makeZ_in k1 k6, if_neg (by omega), if_pos rfl] at M2
      rw [show kindZ k = k by unfold kindZ; rw [if_neg (by omega), if_pos (by omega)]] at K1
      rw [show sideZ k = 0 by unfold sideZ; rw [if_neg (by omega), if_pos (by omega)]] at S1
      clear hbad
      go_enter Try.func9, Try.ntmps9
      go_wp2_with fail
      (with_reducible refine (mnWakes _).mono ?_)
      rintro e w1 ⟨rfl, hb1⟩
      go_wp2_with fail
      (with_reducible refine (M1.out _).mono ?_)
      rintro e w' ⟨rfl, rfl⟩
      go_wp2_with fail
      (with_reducible refine (OT.out _).mono ?_)
      rintro e w' ⟨rfl, rfl⟩
      go_wp2_with fail
      (with_reducible refine (K1.out _).mono ?_)
      rintro e w' ⟨rfl, rfl⟩
      go_wp2_with fail
      (with_reducible refine (S1.out _).mono ?_)
      rintro e w' ⟨rfl, rfl⟩
      go_wp2_with fail
      (with_reducible refine (O2.out _).mono ?_)
      rintro e w' ⟨rfl, rfl⟩
      go_wp2_with fail
      (with_reducible refine (M2.out _).mono ?_)
      rintro e w' ⟨rfl, rfl⟩
      go_wp2_with fail
      go_ret
      exact ⟨rfl, hb1⟩
    · have O2 := hid (mnOther 0)
      rw [show otherZ 0 = 1 from rfl] at O2
      rw [show otherZ 1 = 0 from rfl] at OT
      rw [if_neg (by omega), if_pos rfl] at M1
      have K1 := hid (mnKind (-k))
      have S1 := hid (mnSide (-k))
      have M2 := hid (mnMake k 0)
      rw [makeZ_in k1 k6, if_pos rfl] at M2
      rw [show kindZ (-k) = k by unfold kindZ; rw [if_neg (by omega), if_neg (by omega)]; omega] at K1
      rw [show sideZ (-k) = 1 by unfold sideZ; rw [if_neg (by omega), if_neg (by omega)]] at S1
      clear hbad
      go_enter Try.func9, Try.ntmps9
      go_wp2_with fail
      (with_reducible refine (mnWakes _).mono ?_)
      rintro e w1 ⟨rfl, hb1⟩
      go_wp2_with fail
      (with_reducible refine (M1.out _).mono ?_)
      rintro e w' ⟨rfl, rfl⟩
      go_wp2_with fail
      (with_reducible refine (OT.out _).mono ?_)
      rintro e w' ⟨rfl, rfl⟩
      go_wp2_with fail
      (with_reducible refine (K1.out _).mono ?_)
      rintro e w' ⟨rfl, rfl⟩
      go_wp2_with fail
      (with_reducible refine (S1.out _).mono ?_)
      rintro e w' ⟨rfl, rfl⟩
      go_wp2_with fail
      (with_reducible refine (O2.out _).mono ?_)
      rintro e w' ⟨rfl, rfl⟩
      go_wp2_with fail
      (with_reducible refine (M2.out _).mono ?_)
      rintro e w' ⟨rfl, rfl⟩
      go_wp2_with fail
      go_ret
      exact ⟨rfl, hb1⟩
end Go.Proofs.Ytndijmlflijalaa
