/- The walks of the laws on squares. -/
import Derived.Test.YtndijmlflijalaaSq
namespace Go.Proofs.Ytndijmlflijalaa
open Go.RowKit
theorem sqGap (a b : Int) (h0 : 0 ≤ a) (h1 : a < 8) (h2 : 0 ≤ b) (h3 : b < 8) (w : World) :
    Calls Try.prog 51 #[.int .i64 a, .int .i64 b] w fun e w' => e = .returned (.int .i64 (distZ a b)) ∧ w = w' := by
  go_enter Try.func51, Try.ntmps51
  go_wp2
  all_goals
    go_ret
    exact ⟨rv_int (by unfold distZ; split <;> omega), rfl⟩
theorem sqFile_in (s : Int) (h0 : 0 ≤ s) (h1 : s < 64) (w : World) :
    Calls Try.prog 24 #[.int .i64 s] w fun e w' => e = .returned (.int .i64 (s % 8)) ∧ w = w' := by
  rw [← fileZ_in h0 h1]; exact sqFile s w
theorem sqRank_in (s : Int) (h0 : 0 ≤ s) (h1 : s < 64) (w : World) :
    Calls Try.prog 25 #[.int .i64 s] w fun e w' => e = .returned (.int .i64 (s / 8)) ∧ w = w' := by
  rw [← rankZ_in h0 h1]; exact sqRank s w
theorem dist_b {a b : Int} (h0 : 0 ≤ a) (h1 : a < 8) (h2 : 0 ≤ b) (h3 : b < 8) : 0 ≤ distZ a b ∧ distZ a b < 8 := by unfold distZ; split <;> omega
theorem sqFar (a b : Int) (w : World) :
    Calls Try.prog 19 #[.int .i64 a, .int .i64 b] w fun e w' => e = .returned (.int .i64 (farZ a b)) ∧ w = w' := by
  by_cases ha : 0 ≤ a ∧ a < 64
  · by_cases hb : 0 ≤ b ∧ b < 64
    · obtain ⟨a0, a1⟩ := ha
      obtain ⟨b0, b1⟩ := hb
      have H := hid (farZ_in a0 a1 b0 b1)
      have a2 : a % 8 < 8 := by omega
      have a3 : a / 8 < 8 := by omega
      have b2 : b % 8 < 8 := by omega
      have b3 : b / 8 < 8 := by omega
      have a4 : 0 ≤ a % 8 := by omega
      have a5 : 0 ≤ a / 8 := by omega
      have b4 : 0 ≤ b % 8 := by omega
      have b5 : 0 ≤ b / 8 := by omega
      obtain ⟨d0, d1⟩ := dist_b a4 a2 b4 b2
      obtain ⟨d2, d3⟩ := dist_b a5 a3 b5 b3
      go_enter Try.func19, Try.ntmps19
      go_wp2_with (first
        | (go_at_call 28; refine (sqRight_t _ (by assumption) (by assumption) _).mono ?_; rintro e w' ⟨rfl, rfl⟩)
        | (go_at_call 24; refine (sqFile_in _ (by assumption) (by assumption) _).mono ?_; rintro e w' ⟨rfl, rfl⟩)
        | (go_at_call 25; refine (sqRank_in _ (by assumption) (by assumption) _).mono ?_; rintro e w' ⟨rfl, rfl⟩)
        | (go_at_call 51; refine (sqGap _ _ (by assumption) (by assumption) (by assumption) (by assumption) _).mono ?_; rintro e w' ⟨rfl, rfl⟩))
      all_goals
        go_ret
        exact ⟨rv_int (by rw [H.out]; split <;> omega), rfl⟩
    · obtain ⟨a0, a1⟩ := ha
      have H := hid (farZ_out (a := a) (b := b) (by omega))
      have HB := hid hb
      clear hb
      go_enter Try.func19, Try.ntmps19
      go_wp2_with (first
        | (go_at_call 28; with_reducible refine (sqRight_t a a0 a1 _).mono ?_; rintro e w' ⟨rfl, rfl⟩)
        | (go_at_call 28; refine (sqRight_f b HB.out _).mono ?_; rintro e w' ⟨rfl, rfl⟩))
      go_ret
      exact ⟨rv_int H.out.symm, rfl⟩
  · have H := hid (farZ_out (a := a) (b := b) (by omega))
    have HA := hid ha
    clear ha
    go_enter Try.func19, Try.ntmps19
    go_wp2_with (go_at_call 28; refine (sqRight_f a HA.out _).mono ?_; rintro e w' ⟨rfl, rfl⟩)
    go_ret
    exact ⟨rv_int H.out.symm, rfl⟩
theorem rFar (a b : Int) (w : World) :
    Calls Try.prog 20 #[.int .i64 a, .int .i64 b] w fun e w' => e = .returned (.int .i64 (farZ a b)) ∧ w = w' := by
  by_cases ha : 0 ≤ a ∧ a < 64
  · by_cases hb : 0 ≤ b ∧ b < 64
    · obtain ⟨a0, a1⟩ := ha
      obtain ⟨b0, b1⟩ := hb
      have H := hid (farZ_in a0 a1 b0 b1)
      go_enter Try.func20, Try.ntmps20
      go_wp2_with (first
        | (go_at_call 22; refine (rRight_t _ (by assumption) (by assumption) _).mono ?_; rintro e w' ⟨rfl, rfl⟩)
        | (go_at_call 26; refine (rFile_in _ (by assumption) (by assumption) _).mono ?_; rintro e w' ⟨rfl, rfl⟩)
        | (go_at_call 27; refine (rRank_in _ (by assumption) (by assumption) _).mono ?_; rintro e w' ⟨rfl, rfl⟩))
      all_goals
        go_ret
        exact ⟨rv_int (by rw [H.out]; unfold distZ; repeat' split
                          all_goals omega), rfl⟩
    · obtain ⟨a0, a1⟩ := ha
      have H := hid (farZ_out (a := a) (b := b) (by omega))
      have HB := hid hb
      clear hb
      go_enter Try.func20, Try.ntmps20
      go_wp2_with (first
        | (go_at_call 22; with_reducible refine (rRight_t a a0 a1 _).mono ?_; rintro e w' ⟨rfl, rfl⟩)
        | (go_at_call 22; refine (rRight_f b HB.out _).mono ?_; rintro e w' ⟨rfl, rfl⟩))
      go_ret
      exact ⟨rv_int H.out.symm, rfl⟩
  · have H := hid (farZ_out (a := a) (b := b) (by omega))
    have HA := hid ha
    clear ha
    go_enter Try.func20, Try.ntmps20
    go_wp2_with (go_at_call 22; refine (rRight_f a HA.out _).mono ?_; rintro e w' ⟨rfl, rfl⟩)
    go_ret
    exact ⟨rv_int H.out.symm, rfl⟩

theorem rStep (s f r : Int) (w : World) :
    Calls Try.prog 16 #[.int .i64 s, .int .i64 f, .int .i64 r] w fun e w' => e = .returned (.int .i64 (stepZ s f r)) ∧ w = w' := by
  by_cases hs : 0 ≤ s ∧ s < 64
  · obtain ⟨h0, h1⟩ := hs
    have HS := hid (stepZ_in (f := f) (r := r) h0 h1)
    have f0 : 0 ≤ s % 8 := by omega
    have f1 : s % 8 < 8 := by omega
    have r0 : 0 ≤ s / 8 := by omega
    have r1 : s / 8 < 8 := by omega
    have h1' : s ≤ 63 := by omega
    go_enter Try.func16, Try.ntmps16
    go_wp2_with (go_at_call 22; refine (rRight_t s h0 h1 _).mono ?_; rintro e w' ⟨rfl, rfl⟩)
    go_loop [7] (fun v => ∃ k : Nat, k ≤ 64 ∧ Hid (findZ (s % 8 + f) (s / 8 + r) = -1 ∨ (k : Int) ≤ findZ (s % 8 + f) (s / 8 + r)) ∧ v = .int .i64 k) (fun v => 64 - (intOf v).toNat)
    case atStart => exact ⟨0, by omega, hid (by have := findZ_cases (s % 8 + f) (s / 8 + r); omega), rfl⟩
    case round =>
      obtain ⟨k, hk, H, rfl⟩ := hrel
      by_cases hlt : k < 64
      · have k0 : (0 : Int) ≤ (k : Int) := by omega
        have k1 : (k : Int) < 64 := by omega
        by_cases hf : (k : Int) % 8 - s % 8 = f
        · by_cases hr : (k : Int) / 8 - s / 8 = r
          · have HH := hid (findZ_hit (k := k) (f := s % 8 + f) (r := s / 8 + r) k0 k1 (by omega) (by omega))
            have b1 := beq_t hf
            have b2 := beq_t hr
            clear hf hr
            go_wp2_with (first | (go_at_call 26; refine (rFile_in _ (by assumption) (by assumption) _).mono ?_; rintro e w' ⟨rfl, rfl⟩) | (go_at_call 27; refine (rRank_in _ (by assumption) (by assumption) _).mono ?_; rintro e w' ⟨rfl, rfl⟩))
            go_ret
            exact ⟨rv_int (by rw [HS.out, HH.out]), rfl⟩
          · have b1 := beq_t hf
            have b2 := beq_f hr
            have H2 := hid (findZ_miss (k := k) H.out (by omega))
            clear hf hr
            go_wp2_with (first | (go_at_call 26; refine (rFile_in _ (by assumption) (by assumption) _).mono ?_; rintro e w' ⟨rfl, rfl⟩) | (go_at_call 27; refine (rRank_in _ (by assumption) (by assumption) _).mono ?_; rintro e w' ⟨rfl, rfl⟩))
            go_round
            case rel => exact ⟨k + 1, by omega, by exact_mod_cast H2, by go_num⟩
            case measure => simp [intOf]; omega
        · have b1 := beq_f hf
          have H2 := hid (findZ_miss (k := k) H.out (by omega))
          clear hf
          go_wp2_with (first | (go_at_call 26; refine (rFile_in _ (by assumption) (by assumption) _).mono ?_; rintro e w' ⟨rfl, rfl⟩))
          go_round
          case rel => exact ⟨k + 1, by omega, by exact_mod_cast H2, by go_num⟩
          case measure => simp [intOf]; omega
      · go_wp2
        go_ret
        exact ⟨rv_int (by rw [HS.out]; exact (findZ_done (by have := H.out; omega)).symm), rfl⟩
  · have H := hid (stepZ_out (s := s) (f := f) (r := r) hs)
    go_enter Try.func16, Try.ntmps16
    go_wp2_with (go_at_call 22; refine (rRight_f s hs _).mono ?_; rintro e w' ⟨rfl, rfl⟩)
    go_ret
    exact ⟨rv_int H.out.symm, rfl⟩

theorem step28 : stepZ 28 1 2 = 45 := by decide
theorem sqWakes (w : World) : Calls Try.prog 12 #[] w fun e w' => e = .returned (.bool true) ∧ Below w.heap.size w w' := by
  have hs := hid (show ∀ w, Calls Try.prog 15 #[.int .i64 28, .int .i64 1, .int .i64 2] w fun e w' => e = .returned (.tuple #[.int .i64 45, .bool true]) ∧ w = w' from fun w => by
    have := sqStep_yes 28 1 2 (by rw [step28]; decide) w
    rw [step28] at this; exact this)
  have n1 := hid (show ∀ w, Calls Try.prog 29 #[.int .i64 28] w fun e w' => e = .returned (.string ⟨#[101, 52]⟩) ∧ Below w.heap.size w w' from fun w => sqName 28 w)
  have n2 := hid (show ∀ w, Calls Try.prog 29 #[.int .i64 45] w fun e w' => e = .returned (.string ⟨#[102, 54]⟩) ∧ Below w.heap.size w w' from fun w => sqName 45 w)
  go_enter Try.func12, Try.ntmps12
  go_wp2_with (first
    | (go_at_call 15; refine (hs.out _).mono ?_; rintro e w' ⟨rfl, rfl⟩)
    | (go_at_call 29; (with_reducible refine (n1.out _).mono ?_); rintro e w1 ⟨rfl, hb1⟩)
    | (go_at_call 29; (with_reducible refine (n2.out _).mono ?_); rintro e w2 ⟨rfl, hb2⟩))
  go_ret
  exact ⟨rfl, hb1.trans (hb2.mono hb1.size)⟩

set_option maxHeartbeats 1000000 in
theorem walk_SquareFar (a b c : Int) (w : World) :
    Calls Try.prog 5 #[.int .i64 a, .int .i64 b, .int .i64 c] w fun e w' => e = .returned (.bool true) ∧ Below w.heap.size w w' := by
  have hsym := hid (farZ_sym a b)
  have hcase : farZ a b < 0 ∨ (0 ≤ farZ a b ∧ farZ a c < 0) ∨ (0 ≤ farZ a b ∧ 0 ≤ farZ a c ∧ farZ c b < 0) ∨ (0 ≤ farZ a b ∧ 0 ≤ farZ a c ∧ 0 ≤ farZ c b ∧ farZ a b ≤ farZ a c + farZ c b) := by
    have := @farZ_tri a b c
    omega
  have hbd : -1 ≤ farZ a c ∧ farZ a c < 8 ∧ -1 ≤ farZ c b ∧ farZ c b < 8 := ⟨(farZ_bd a c).1, (farZ_bd a c).2, (farZ_bd c b).1, (farZ_bd c b).2⟩
  obtain ⟨u0, u1, u2, u3⟩ := hbd
  have hC1 := hid (sqFar a b)
  have hC2 : Hid (∀ w, Calls Try.prog 19 #[.int .i64 b, .int .i64 a] w fun e w' => e = .returned (.int .i64 (farZ a b)) ∧ w = w') := hid (fun w => by rw [← hsym.out]; exact sqFar b a w)
  have hC3 := hid (sqFar a c)
  have hC4 := hid (sqFar c b)
  have hC5 := hid (rFar a b)
  clear hsym
  generalize farZ a b = n at *
  generalize farZ a c = x at *
  generalize farZ c b = y at *
  rcases hcase with g | ⟨g, g2⟩ | ⟨g, g2, g3⟩ | ⟨g, g2, g3, g4⟩
  all_goals
    go_enter Try.func5, Try.ntmps5
    go_wp2_with fail
    (with_reducible refine (sqWakes _).mono ?_)
    rintro e w1 ⟨rfl, hb1⟩
    go_wp2_with fail
    (with_reducible refine (hC1.out _).mono ?_)
    rintro e w2 ⟨rfl, rfl⟩
    go_wp2_with fail
    (with_reducible refine (hC5.out _).mono ?_)
    rintro e w2 ⟨rfl, rfl⟩
    go_wp2_with fail
    (with_reducible refine (hC2.out _).mono ?_)
    rintro e w2 ⟨rfl, rfl⟩
    go_wp2_with fail
    (with_reducible refine (hC3.out _).mono ?_)
    rintro e w2 ⟨rfl, rfl⟩
    go_wp2_with fail
    (with_reducible refine (hC4.out _).mono ?_)
    rintro e w2 ⟨rfl, rfl⟩
    go_wp2_with fail
    go_ret
    exact ⟨rfl, hb1⟩

theorem walk_SquareReads (t : ByteArray) (hs : t.size ≤ maxLen) (w : World) :
    Calls Try.prog 4 #[.string t] w fun e w' => e = .returned (.bool true) ∧ Below w.heap.size w w' := by
  have hs' := hs
  unfold maxLen at hs'
  by_cases hl : 100 < t.size
  · go_enter Try.func4, Try.ntmps4
    go_wp2_with fail
    (with_reducible refine (sqWakes _).mono ?_)
    rintro e w1 ⟨rfl, hb1⟩
    go_wp2_with fail
    go_ret
    exact ⟨rfl, hb1⟩
  · have P1 := hid (sqParse t)
    have P2 := hid (rCalled t)
    by_cases hq : isSq t = true
    · obtain ⟨g0, g1, _⟩ := sq_named hq
      have hc : calledZ t = sqOf t := by unfold calledZ; rw [if_pos hq]
      have hd : (t.toList == (⟨#[45]⟩ : ByteArray).toList) = false := seq_f (by
        intro h; rw [h] at hq; revert hq; decide)
      have hd' : (t.toList == [45]) = false := by rw [← ByteArray.toList_mk [45]]; exact hd
      rw [hq] at P1
      rw [hc] at P2
      generalize sqOf t = n at *
      clear hq hc hd
      go_enter Try.func4, Try.ntmps4
      go_wp2_with fail
      (with_reducible refine (sqWakes _).mono ?_)
      rintro e w1 ⟨rfl, hb1⟩
      go_wp2_with fail
      (with_reducible refine (P1.out _ hs).mono ?_)
      rintro e w2 ⟨rfl, hb2⟩
      go_wp2_with fail
      (with_reducible refine (P2.out _).mono ?_)
      rintro e w3 ⟨rfl, hb3⟩
      go_wp2_with fail
      go_ret
      exact ⟨rfl, (hb1.trans (hb2.mono hb1.size)).trans (hb3.mono (Nat.le_trans hb1.size hb2.size))⟩
    · have hq' : isSq t = false := by simpa using hq
      have hc : calledZ t = -1 := by unfold calledZ; rw [if_neg hq]
      have hn : sqOf t = 0 := by unfold sqOf; rw [if_neg hq]
      rw [hq', hn] at P1
      rw [hc] at P2
      clear hq hc hn hq'
      go_enter Try.func4, Try.ntmps4
      go_wp2_with fail
      (with_reducible refine (sqWakes _).mono ?_)
      rintro e w1 ⟨rfl, hb1⟩
      go_wp2_with fail
      (with_reducible refine (P1.out _ hs).mono ?_)
      rintro e w2 ⟨rfl, hb2⟩
      go_wp2_with fail
      (with_reducible refine (P2.out _).mono ?_)
      rintro e w3 ⟨rfl, hb3⟩
      go_wp2_with fail
      go_ret
      exact ⟨rfl, (hb1.trans (hb2.mono hb1.size)).trans (hb3.mono (Nat.le_trans hb1.size hb2.size))⟩

set_option maxHeartbeats 1000000 in
theorem walk_SquareFlips (s : Int) (w : World) :
    Calls Try.prog 6 #[.int .i64 s] w fun e w' => e = .returned (.bool true) ∧ Below w.heap.size w w' := by
  by_cases hs : 0 ≤ s ∧ s < 64
  · obtain ⟨h0, h1⟩ := hs
    obtain ⟨f, hf⟩ : ∃ f, f = flipZ s := ⟨_, rfl⟩
    have e1 := flipZ_in h0 h1
    rw [← hf] at e1
    have f0 : 0 ≤ f := by omega
    have f1 : f < 64 := by omega
    have HF := hid (sqFlip s)
    rw [← hf] at HF
    have HF2 : Hid (∀ w, Calls Try.prog 21 #[.int .i64 f] w fun e w' => e = .returned (.int .i64 s) ∧ w = w') := hid (fun w => by
      have h := sqFlip f w
      rw [flipZ_in f0 f1, show 8 * (7 - f / 8) + f % 8 = s by omega] at h; exact h)
    have HA1 : Hid (∀ w, Calls Try.prog 24 #[.int .i64 f] w fun e w' => e = .returned (.int .i64 (s % 8)) ∧ w = w') := hid (fun w => by
      have h := sqFile_in f f0 f1 w
      rw [show f % 8 = s % 8 by omega] at h; exact h)
    have HR1 : Hid (∀ w, Calls Try.prog 25 #[.int .i64 f] w fun e w' => e = .returned (.int .i64 (7 - s / 8)) ∧ w = w') := hid (fun w => by
      have h := sqRank_in f f0 f1 w
      rw [show f / 8 = 7 - s / 8 by omega] at h; exact h)
    have hdk : Hid (darkB f = !darkB s) := hid (by rw [hf]; exact dark_flip h0 h1)
    have HD1 := hid (sqDark f)
    rw [hdk.out] at HD1
    have HD2 := hid (sqDark s)
    have hds : Hid (darkB s = decide ((s % 8 + s / 8) % 2 = 0)) := hid (by unfold darkB; by_cases hp : (s % 8 + s / 8) % 2 = 0 <;> simp [hp, h0, h1])
    have hst := (dark_step h0 h1).symm
    have HY := hid (sqStep_yes s 1 0)
    have HN := hid (sqStep_no s 1 0)
    have HD3 := hid (sqDark (stepZ s 1 0))
    have HW := hid (rRight_t s h0 h1)
    have HA2 := hid (sqFile_in s h0 h1)
    have HR2 := hid (sqRank_in s h0 h1)
    have HA3 := hid (rFile_in s h0 h1)
    have HR3 := hid (rRank_in s h0 h1)
    have q3 : 0 ≤ s / 8 := by omega
    have q4 : s / 8 < 8 := by omega
    have q1 : 0 ≤ s % 8 := by omega
    have q2 : s % 8 < 8 := by omega
    have q0 : ((7 - s / 8 + s / 8) != 7) = false := bne_f (by omega)
    have q5 : 0 ≤ s % 8 + s / 8 := by omega
    by_cases hp : (s % 8 + s / 8) % 2 = 0
    · have hd : darkB s = true := by rw [hds.out]; simp [hp]
      have hpb := beq_t hp
      rw [hd] at HD1 HD2
      rw [hd] at hst
      clear hp hdk hds hf e1 hd
      rcases hst with ⟨g, g2⟩ | g
      · rw [g2] at HD3
        have HY2 := hid (HY.out g)
        clear HY HN g2
        generalize stepZ s 1 0 = t at *
        go_enter Try.func6, Try.ntmps6
        go_wp2_with fail
        (with_reducible refine (sqWakes _).mono ?_)
        rintro e w1 ⟨rfl, hb1⟩
        go_wp2_with fail
        (with_reducible refine (HF.out _).mono ?_)
        rintro e w' ⟨rfl, rfl⟩
        go_wp2_with fail
        (with_reducible refine (HW.out _).mono ?_)
        rintro e w' ⟨rfl, rfl⟩
        go_wp2_with fail
        (with_reducible refine (HA1.out _).mono ?_)
        rintro e w' ⟨rfl, rfl⟩
        go_wp2_with fail
        (with_reducible refine (HA2.out _).mono ?_)
        rintro e w' ⟨rfl, rfl⟩
        go_wp2_with fail
        (with_reducible refine (HR1.out _).mono ?_)
        rintro e w' ⟨rfl, rfl⟩
        go_wp2_with fail
        (with_reducible refine (HR2.out _).mono ?_)
        rintro e w' ⟨rfl, rfl⟩
        go_wp2_with fail
        (with_reducible refine (HF2.out _).mono ?_)
        rintro e w' ⟨rfl, rfl⟩
        go_wp2_with fail
        (with_reducible refine (HD1.out _).mono ?_)
        rintro e w' ⟨rfl, rfl⟩
        go_wp2_with fail
        (with_reducible refine (HD2.out _).mono ?_)
        rintro e w' ⟨rfl, rfl⟩
        go_wp2_with fail
        (with_reducible refine (HY2.out _).mono ?_)
        rintro e w' ⟨rfl, rfl⟩
        go_wp2_with fail
        (with_reducible refine (HD3.out _).mono ?_)
        rintro e w' ⟨rfl, rfl⟩
        go_wp2_with fail
        (with_reducible refine (HD2.out _).mono ?_)
        rintro e w' ⟨rfl, rfl⟩
        go_wp2_with fail
        (with_reducible refine (HD2.out _).mono ?_)
        rintro e w' ⟨rfl, rfl⟩
        go_wp2_with fail
        (with_reducible refine (HA3.out _).mono ?_)
        rintro e w' ⟨rfl, rfl⟩
        go_wp2_with fail
        (with_reducible refine (HR3.out _).mono ?_)
        rintro e w' ⟨rfl, rfl⟩
        go_wp2_with fail
        go_ret
        exact ⟨rfl, hb1⟩
      · have HN2 := hid (HN.out g)
        clear HY HN HD3
        go_enter Try.func6, Try.ntmps6
        go_wp2_with fail
        (with_reducible refine (sqWakes _).mono ?_)
        rintro e w1 ⟨rfl, hb1⟩
        go_wp2_with fail
        (with_reducible refine (HF.out _).mono ?_)
        rintro e w' ⟨rfl, rfl⟩
        go_wp2_with fail
        (with_reducible refine (HW.out _).mono ?_)
        rintro e w' ⟨rfl, rfl⟩
        go_wp2_with fail
        (with_reducible refine (HA1.out _).mono ?_)
        rintro e w' ⟨rfl, rfl⟩
        go_wp2_with fail
        (with_reducible refine (HA2.out _).mono ?_)
        rintro e w' ⟨rfl, rfl⟩
        go_wp2_with fail
        (with_reducible refine (HR1.out _).mono ?_)
        rintro e w' ⟨rfl, rfl⟩
        go_wp2_with fail
        (with_reducible refine (HR2.out _).mono ?_)
        rintro e w' ⟨rfl, rfl⟩
        go_wp2_with fail
        (with_reducible refine (HF2.out _).mono ?_)
        rintro e w' ⟨rfl, rfl⟩
        go_wp2_with fail
        (with_reducible refine (HD1.out _).mono ?_)
        rintro e w' ⟨rfl, rfl⟩
        go_wp2_with fail
        (with_reducible refine (HD2.out _).mono ?_)
        rintro e w' ⟨rfl, rfl⟩
        go_wp2_with fail
        (with_reducible refine (HN2.out _).mono ?_)
        rintro e w' ⟨rfl, rfl⟩
        go_wp2_with fail
        (with_reducible refine (HD2.out _).mono ?_)
        rintro e w' ⟨rfl, rfl⟩
        go_wp2_with fail
        (with_reducible refine (HA3.out _).mono ?_)
        rintro e w' ⟨rfl, rfl⟩
        go_wp2_with fail
        (with_reducible refine (HR3.out _).mono ?_)
        rintro e w' ⟨rfl, rfl⟩
        go_wp2_with fail
        go_ret
        exact ⟨rfl, hb1⟩
    · have hd : darkB s = false := by rw [hds.out]; simp [hp]
      have hpb := beq_f hp
      rw [hd] at HD1 HD2
      rw [hd] at hst
      clear hp hdk hds hf e1 hd
      rcases hst with ⟨g, g2⟩ | g
      · rw [g2] at HD3
        have HY2 := hid (HY.out g)
        clear HY HN g2
        generalize stepZ s 1 0 = t at *
        go_enter Try.func6, Try.ntmps6
        go_wp2_with fail
        (with_reducible refine (sqWakes _).mono ?_)
        rintro e w1 ⟨rfl, hb1⟩
        go_wp2_with fail
        (with_reducible refine (HF.out _).mono ?_)
        rintro e w' ⟨rfl, rfl⟩
        go_wp2_with fail
        (with_reducible refine (HW.out _).mono ?_)
        rintro e w' ⟨rfl, rfl⟩
        go_wp2_with fail
        (with_reducible refine (HA1.out _).mono ?_)
        rintro e w' ⟨rfl, rfl⟩
        go_wp2_with fail
        (with_reducible refine (HA2.out _).mono ?_)
        rintro e w' ⟨rfl, rfl⟩
        go_wp2_with fail
        (with_reducible refine (HR1.out _).mono ?_)
        rintro e w' ⟨rfl, rfl⟩
        go_wp2_with fail
        (with_reducible refine (HR2.out _).mono ?_)
        rintro e w' ⟨rfl, rfl⟩
        go_wp2_with fail
        (with_reducible refine (HF2.out _).mono ?_)
        rintro e w' ⟨rfl, rfl⟩
        go_wp2_with fail
        (with_reducible refine (HD1.out _).mono ?_)
        rintro e w' ⟨rfl, rfl⟩
        go_wp2_with fail
        (with_reducible refine (HD2.out _).mono ?_)
        rintro e w' ⟨rfl, rfl⟩
        go_wp2_with fail
        (with_reducible refine (HY2.out _).mono ?_)
        rintro e w' ⟨rfl, rfl⟩
        go_wp2_with fail
        (with_reducible refine (HD3.out _).mono ?_)
        rintro e w' ⟨rfl, rfl⟩
        go_wp2_with fail
        (with_reducible refine (HD2.out _).mono ?_)
        rintro e w' ⟨rfl, rfl⟩
        go_wp2_with fail
        (with_reducible refine (HD2.out _).mono ?_)
        rintro e w' ⟨rfl, rfl⟩
        go_wp2_with fail
        (with_reducible refine (HA3.out _).mono ?_)
        rintro e w' ⟨rfl, rfl⟩
        go_wp2_with fail
        (with_reducible refine (HR3.out _).mono ?_)
        rintro e w' ⟨rfl, rfl⟩
        go_wp2_with fail
        go_ret
        exact ⟨rfl, hb1⟩
      · have HN2 := hid (HN.out g)
        clear HY HN HD3
        go_enter Try.func6, Try.ntmps6
        go_wp2_with fail
        (with_reducible refine (sqWakes _).mono ?_)
        rintro e w1 ⟨rfl, hb1⟩
        go_wp2_with fail
        (with_reducible refine (HF.out _).mono ?_)
        rintro e w' ⟨rfl, rfl⟩
        go_wp2_with fail
        (with_reducible refine (HW.out _).mono ?_)
        rintro e w' ⟨rfl, rfl⟩
        go_wp2_with fail
        (with_reducible refine (HA1.out _).mono ?_)
        rintro e w' ⟨rfl, rfl⟩
        go_wp2_with fail
        (with_reducible refine (HA2.out _).mono ?_)
        rintro e w' ⟨rfl, rfl⟩
        go_wp2_with fail
        (with_reducible refine (HR1.out _).mono ?_)
        rintro e w' ⟨rfl, rfl⟩
        go_wp2_with fail
        (with_reducible refine (HR2.out _).mono ?_)
        rintro e w' ⟨rfl, rfl⟩
        go_wp2_with fail
        (with_reducible refine (HF2.out _).mono ?_)
        rintro e w' ⟨rfl, rfl⟩
        go_wp2_with fail
        (with_reducible refine (HD1.out _).mono ?_)
        rintro e w' ⟨rfl, rfl⟩
        go_wp2_with fail
        (with_reducible refine (HD2.out _).mono ?_)
        rintro e w' ⟨rfl, rfl⟩
        go_wp2_with fail
        (with_reducible refine (HN2.out _).mono ?_)
        rintro e w' ⟨rfl, rfl⟩
        go_wp2_with fail
        (with_reducible refine (HD2.out _).mono ?_)
        rintro e w' ⟨rfl, rfl⟩
        go_wp2_with fail
        (with_reducible refine (HA3.out _).mono ?_)
        rintro e w' ⟨rfl, rfl⟩
        go_wp2_with fail
        (with_reducible refine (HR3.out _).mono ?_)
        rintro e w' ⟨rfl, rfl⟩
        go_wp2_with fail
        go_ret
        exact ⟨rfl, hb1⟩
  · have HW := hid (rRight_f s hs)
    have HF := hid (sqFlip s)
    rw [flipZ_out hs] at HF
    have HD := hid (sqDark s)
    rw [show darkB s = false from decide_eq_false (fun h => hs h.1)] at HD
    clear hs
    go_enter Try.func6, Try.ntmps6
    go_wp2_with fail
    (with_reducible refine (sqWakes _).mono ?_)
    rintro e w1 ⟨rfl, hb1⟩
    go_wp2_with fail
    (with_reducible refine (HF.out _).mono ?_)
    rintro e w' ⟨rfl, rfl⟩
    go_wp2_with fail
    (with_reducible refine (HW.out _).mono ?_)
    rintro e w' ⟨rfl, rfl⟩
    go_wp2_with fail
    (with_reducible refine (HD.out _).mono ?_)
    rintro e w' ⟨rfl, rfl⟩
    go_wp2_with fail
    go_ret
    exact ⟨rfl, hb1⟩

set_option maxHeartbeats 1000000 in
theorem walk_SquareNames (s : Int) (w : World) :
    Calls Try.prog 7 #[.int .i64 s] w fun e w' => e = .returned (.bool true) ∧ Below w.heap.size w w' := by
  have HN := hid (sqName s)
  have HFi := hid (sqFile s)
  have HRa := hid (sqRank s)
  have HFr := hid (rFile s)
  have HRr := hid (rRank s)
  have HP := hid (sqParse (nameB s))
  have hz : (nameB s).size ≤ maxLen := by
    unfold nameB maxLen; split
    · exact (by decide : (2 : Nat) ≤ 2 ^ 63 - 1)
    · exact (by decide : (1 : Nat) ≤ 2 ^ 63 - 1)
  have hbb : ((nameB s).toList == (nameB s).toList) = true := beq_self_eq_true _
  by_cases hs : 0 ≤ s ∧ s < 64
  · obtain ⟨h0, h1⟩ := hs
    have HRN := hid (rName s h0 h1)
    have HW1 := hid (sqRight_t s h0 h1)
    have HW2 := hid (rRight_t s h0 h1)
    obtain ⟨i1, i2⟩ := name_hit h0 h1 rfl
    rw [i1, i2] at HP
    clear i1 i2 h0 h1
    generalize nameB s = nm at *
    generalize fileZ s = ff at *
    generalize rankZ s = rr at *
    go_enter Try.func7, Try.ntmps7
    go_wp2_with fail
    (with_reducible refine (sqWakes _).mono ?_)
    rintro e w1 ⟨rfl, hb1⟩
    go_wp2_with fail
    (with_reducible refine (HW1.out _).mono ?_)
    rintro e w' ⟨rfl, rfl⟩
    go_wp2_with fail
    (with_reducible refine (HW2.out _).mono ?_)
    rintro e w' ⟨rfl, rfl⟩
    go_wp2_with fail
    (with_reducible refine (HFi.out _).mono ?_)
    rintro e w' ⟨rfl, rfl⟩
    go_wp2_with fail
    (with_reducible refine (HFr.out _).mono ?_)
    rintro e w' ⟨rfl, rfl⟩
    go_wp2_with fail
    (with_reducible refine (HRa.out _).mono ?_)
    rintro e w' ⟨rfl, rfl⟩
    go_wp2_with fail
    (with_reducible refine (HRr.out _).mono ?_)
    rintro e w' ⟨rfl, rfl⟩
    go_wp2_with fail
    (with_reducible refine (HN.out _).mono ?_)
    rintro e w2 ⟨rfl, hb2⟩
    go_wp2_with fail
    (with_reducible refine (HRN.out _).mono ?_)
    rintro e w3 ⟨rfl, hb3⟩
    go_wp2_with fail
    (with_reducible refine (HN.out _).mono ?_)
    rintro e w4 ⟨rfl, hb4⟩
    go_wp2_with fail
    (with_reducible refine ((fun w => HP.out w hz) _).mono ?_)
    rintro e w5 ⟨rfl, hb5⟩
    go_wp2_with fail
    (with_reducible refine (HW2.out _).mono ?_)
    rintro e w' ⟨rfl, rfl⟩
    go_wp2_with fail
    go_ret
    refine ⟨rfl, ?_⟩
    have b2 := hb1.trans (hb2.mono hb1.size)
    have b3 := b2.trans (hb3.mono b2.size)
    have b4 := b3.trans (hb4.mono b3.size)
    exact b4.trans (hb5.mono b4.size)
  · have HRN : Hid (∀ w, Calls Try.prog 30 #[.int .i64 s] w fun e w' => e = .returned (.string (nameB s)) ∧ w = w') := hid (fun w => by
      have H := hid (nameB_out hs)
      go_enter Try.func30, Try.ntmps30
      go_wp2_with (go_at_call 22; refine (rRight_f s hs _).mono ?_; rintro e w' ⟨rfl, rfl⟩)
      go_ret
      exact ⟨by rw [H.out]; rfl, rfl⟩)
    have HW1 := hid (sqRight_f s hs)
    have HW2 := hid (rRight_f s hs)
    have i1 : isSq (nameB s) = false := by rw [nameB_out hs]; decide
    have i2 : sqOf (nameB s) = 0 := by rw [nameB_out hs]; decide
    rw [i1, i2] at HP
    clear i1 i2 hs
    generalize nameB s = nm at *
    generalize fileZ s = ff at *
    generalize rankZ s = rr at *
    go_enter Try.func7, Try.ntmps7
    go_wp2_with fail
    (with_reducible refine (sqWakes _).mono ?_)
    rintro e w1 ⟨rfl, hb1⟩
    go_wp2_with fail
    (with_reducible refine (HW1.out _).mono ?_)
    rintro e w' ⟨rfl, rfl⟩
    go_wp2_with fail
    (with_reducible refine (HW2.out _).mono ?_)
    rintro e w' ⟨rfl, rfl⟩
    go_wp2_with fail
    (with_reducible refine (HFi.out _).mono ?_)
    rintro e w' ⟨rfl, rfl⟩
    go_wp2_with fail
    (with_reducible refine (HFr.out _).mono ?_)
    rintro e w' ⟨rfl, rfl⟩
    go_wp2_with fail
    (with_reducible refine (HRa.out _).mono ?_)
    rintro e w' ⟨rfl, rfl⟩
    go_wp2_with fail
    (with_reducible refine (HRr.out _).mono ?_)
    rintro e w' ⟨rfl, rfl⟩
    go_wp2_with fail
    (with_reducible refine (HN.out _).mono ?_)
    rintro e w2 ⟨rfl, hb2⟩
    go_wp2_with fail
    (with_reducible refine (HRN.out _).mono ?_)
    rintro e w' ⟨rfl, rfl⟩
    go_wp2_with fail
    (with_reducible refine (HN.out _).mono ?_)
    rintro e w4 ⟨rfl, hb4⟩
    go_wp2_with fail
    (with_reducible refine ((fun w => HP.out w hz) _).mono ?_)
    rintro e w5 ⟨rfl, hb5⟩
    go_wp2_with fail
    (with_reducible refine (HW2.out _).mono ?_)
    rintro e w' ⟨rfl, rfl⟩
    go_wp2_with fail
    go_ret
    refine ⟨rfl, ?_⟩
    have b2 := hb1.trans (hb2.mono hb1.size)
    have b4 := b2.trans (hb4.mono b2.size)
    exact b4.trans (hb5.mono b4.size)

theorem minusw {x : Int} (h0 : -8 < x) (h1 : x < 8) : wrap64 (-x) = -x := by unfold wrap64; omega
set_option maxHeartbeats 1000000 in
theorem walk_SquareSteps (s f r : Int) (w : World) :
    Calls Try.prog 3 #[.int .i64 s, .int .i64 f, .int .i64 r] w fun e w' => e = .returned (.bool true) ∧ Below w.heap.size w w' := by
  have HFd := hid (rFind f r)
  have HSt := hid (rStep s f r)
  have hfc := findZ_cases f r
  have hA : (0 ≤ findZ f r ∧ Hid (∀ w, Calls Try.prog 13 #[.int .i64 f, .int .i64 r] w fun e w' => e = .returned (.tuple #[.int .i64 (findZ f r), .bool true]) ∧ w = w')) ∨
      (findZ f r = -1 ∧ Hid (∀ w, Calls Try.prog 13 #[.int .i64 f, .int .i64 r] w fun e w' => e = .returned (.tuple #[.int .i64 0, .bool false]) ∧ w = w')) := by
    by_cases h : 0 ≤ f ∧ f < 8 ∧ 0 ≤ r ∧ r < 8
    · obtain ⟨h0, h1, h2, h3⟩ := h
      rw [findZ_in h0 h1 h2 h3]
      exact .inl ⟨by omega, hid (sqAt_in f r h0 h1 h2 h3)⟩
    · rw [findZ_out h]
      exact .inr ⟨rfl, hid (sqAt_no f r h)⟩
  have hS : (0 ≤ stepZ s f r ∧ (-8 < f ∧ f < 8 ∧ -8 < r ∧ r < 8) ∧ Hid (∀ w, Calls Try.prog 15 #[.int .i64 s, .int .i64 f, .int .i64 r] w fun e w' => e = .returned (.tuple #[.int .i64 (stepZ s f r), .bool true]) ∧ w = w') ∧
        Hid (∀ w, Calls Try.prog 15 #[.int .i64 (stepZ s f r), .int .i64 (-f), .int .i64 (-r)] w fun e w' => e = .returned (.tuple #[.int .i64 s, .bool true]) ∧ w = w')) ∨
      (stepZ s f r < 0 ∧ Hid (∀ w, Calls Try.prog 15 #[.int .i64 s, .int .i64 f, .int .i64 r] w fun e w' => e = .returned (.tuple #[.int .i64 0, .bool false]) ∧ w = w')) := by
    by_cases h : 0 ≤ stepZ s f r
    · have hh : 0 ≤ s ∧ s < 64 ∧ 0 ≤ s % 8 + f ∧ s % 8 + f < 8 ∧ 0 ≤ s / 8 + r ∧ s / 8 + r < 8 := by
        unfold stepZ findZ at h; split at h
        · split at h <;> omega
        · omega
      obtain ⟨h0, h1, h2, h3, h4, h5⟩ := hh
      have e := (stepZ_in (f := f) (r := r) h0 h1).trans (findZ_in h2 h3 h4 h5)
      have hb : stepZ (stepZ s f r) (-f) (-r) = s := by
        rw [e, stepZ_in (by omega) (by omega), findZ_in (by omega) (by omega) (by omega) (by omega)]; omega
      refine .inl ⟨h, by omega, hid (sqStep_yes s f r h), hid (fun w => ?_)⟩
      have := sqStep_yes (stepZ s f r) (-f) (-r) (by omega) w
      rw [hb] at this; exact this
    · exact .inr ⟨by omega, hid (sqStep_no s f r (by omega))⟩
  generalize findZ f r = n at *
  generalize stepZ s f r = t at *
  have b1 : (n != n) = false := bne_f rfl
  rcases hA with ⟨g, HA⟩ | ⟨g, HA⟩
  · rcases hS with ⟨k, ⟨f0, f1, r0, r1⟩, HS1, HS2⟩ | ⟨k, HS1⟩
    · go_enter Try.func3, Try.ntmps3
      go_wp2_with fail
      (with_reducible refine (sqWakes _).mono ?_)
      rintro e w1 ⟨rfl, hb1⟩
      go_wp2_with fail
      (with_reducible refine (HA.out _).mono ?_)
      rintro e w' ⟨rfl, rfl⟩
      go_wp2_with fail
      (with_reducible refine (HFd.out _).mono ?_)
      rintro e w' ⟨rfl, rfl⟩
      go_wp2_with fail
      (with_reducible refine (HS1.out _).mono ?_)
      rintro e w' ⟨rfl, rfl⟩
      go_wp2_with fail
      (with_reducible refine (HSt.out _).mono ?_)
      rintro e w' ⟨rfl, rfl⟩
      go_wp2_with fail
      (with_reducible refine (HS2.out _).mono ?_)
      rintro e w' ⟨rfl, rfl⟩
      go_wp2_with fail
      go_ret
      exact ⟨rfl, hb1⟩
    · go_enter Try.func3, Try.ntmps3
      go_wp2_with fail
      (with_reducible refine (sqWakes _).mono ?_)
      rintro e w1 ⟨rfl, hb1⟩
      go_wp2_with fail
      (with_reducible refine (HA.out _).mono ?_)
      rintro e w' ⟨rfl, rfl⟩
      go_wp2_with fail
      (with_reducible refine (HFd.out _).mono ?_)
      rintro e w' ⟨rfl, rfl⟩
      go_wp2_with fail
      (with_reducible refine (HS1.out _).mono ?_)
      rintro e w' ⟨rfl, rfl⟩
      go_wp2_with fail
      (with_reducible refine (HSt.out _).mono ?_)
      rintro e w' ⟨rfl, rfl⟩
      go_wp2_with fail
      go_ret
      exact ⟨rfl, hb1⟩
  · subst g
    clear hfc
    rcases hS with ⟨k, ⟨f0, f1, r0, r1⟩, HS1, HS2⟩ | ⟨k, HS1⟩
    · go_enter Try.func3, Try.ntmps3
      go_wp2_with fail
      (with_reducible refine (sqWakes _).mono ?_)
      rintro e w1 ⟨rfl, hb1⟩
      go_wp2_with fail
      (with_reducible refine (HA.out _).mono ?_)
      rintro e w' ⟨rfl, rfl⟩
      go_wp2_with fail
      (with_reducible refine (HFd.out _).mono ?_)
      rintro e w' ⟨rfl, rfl⟩
      go_wp2_with fail
      (with_reducible refine (HS1.out _).mono ?_)
      rintro e w' ⟨rfl, rfl⟩
      go_wp2_with fail
      (with_reducible refine (HSt.out _).mono ?_)
      rintro e w' ⟨rfl, rfl⟩
      go_wp2_with fail
      (with_reducible refine (HS2.out _).mono ?_)
      rintro e w' ⟨rfl, rfl⟩
      go_wp2_with fail
      go_ret
      exact ⟨rfl, hb1⟩
    · go_enter Try.func3, Try.ntmps3
      go_wp2_with fail
      (with_reducible refine (sqWakes _).mono ?_)
      rintro e w1 ⟨rfl, hb1⟩
      go_wp2_with fail
      (with_reducible refine (HA.out _).mono ?_)
      rintro e w' ⟨rfl, rfl⟩
      go_wp2_with fail
      (with_reducible refine (HFd.out _).mono ?_)
      rintro e w' ⟨rfl, rfl⟩
      go_wp2_with fail
      (with_reducible refine (HS1.out _).mono ?_)
      rintro e w' ⟨rfl, rfl⟩
      go_wp2_with fail
      (with_reducible refine (HSt.out _).mono ?_)
      rintro e w' ⟨rfl, rfl⟩
      go_wp2_with fail
      go_ret
      exact ⟨rfl, hb1⟩
end Go.Proofs.Ytndijmlflijalaa
