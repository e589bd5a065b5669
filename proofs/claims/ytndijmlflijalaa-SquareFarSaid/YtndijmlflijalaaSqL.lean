/- The walks of the laws on squares. -/
import Derived.Test.YtndijmlflijalaaSq
namespace Go.Proofs.Ytndijmlflijalaa
open Go.RowKit
theorem sqGap (a b : Int) (h0 : 0 ≤ a) (h1 : a < 8) (h2 : 0 ≤ b) (h3 : b < 8) (w : World) :
    Calls Try.prog 51 #[.int .i64 a, .int .i64 b] w fun e w' => e = .returned (.int .i64 (distZ a b)) ∧ w = w' := by
  go_enter Try.func51, Try.ntmps51
  go_wp2
  all_goals
    go_ret
    exact ⟨rv_int (by unfold distZ; split <;> omega), rfl⟩
theorem sqFile_in (s : Int) (h0 : 0 ≤ s) (h1 : s < 64) (w : World) :
    Calls Try.prog 24 #[.int .i64 s] w fun e w' => e = .returned (.int .i64 (s % 8)) ∧ w = w' := by
  rw [← fileZ_in h0 h1]; exact sqFile s w
theorem sqRank_in (s : Int) (h0 : 0 ≤ s) (h1 : s < 64) (w : World) :
    Calls Try.prog 25 #[.int .i64 s] w fun e w' => e = .returned (.int .i64 (s / 8)) ∧ w = w' := by
  rw [← rankZ_in h0 h1]; exact sqRank s w
theorem dist_b {a b : Int} (h0 : 0 ≤ a) (h1 : a < 8) (h2 : 0 ≤ b) (h3 : b < 8) : 0 ≤ distZ a b ∧ distZ a b < 8 := by unfold distZ; split <;> omega
theorem sqFar (a b : Int) (w : World) :
    Calls Try.prog 19 #[.int .i64 a, .int .i64 b] w fun e w' => e = .returned (.int .i64 (farZ a b)) ∧ w = w' := by
  by_cases ha : 0 ≤ a ∧ a < 64
  · by_cases hb : 0 ≤ b ∧ b < 64
    · obtain ⟨a0, a1⟩ := ha
      obtain ⟨b0, b1⟩ := hb
      have H := hid (farZ_in a0 a1 b0 b1)
      have a2 : a % 8 < 8 := by omega
      have a3 : a / 8 < 8 := by omega
      have b2 : b % 8 < 8 := by omega
      have b3 : b / 8 < 8 := by omega
      have a4 : 0 ≤ a % 8 := by omega
      have a5 : 0 ≤ a / 8 := by omega
      have b4 : 0 ≤ b % 8 := by omega
      have b5 : 0 ≤ b / 8 := by omega
      obtain ⟨d0, d1⟩ := dist_b a4 a2 b4 b2
      obtain ⟨d2, d3⟩ := dist_b a5 a3 b5 b3
      go_enter Try.func19, Try.ntmps19
      go_wp2_with (first
        | (go_at_call 28; refine (sqRight_t _ (by assumption) (by assumption) _).mono ?_; rintro e w' ⟨rfl, rfl⟩)
        | (go_at_call 24; refine (sqFile_in _ (by assumption) (by assumption) _).mono ?_; rintro e w' ⟨rfl, rfl⟩)
        | (go_at_call 25; refine (sqRank_in _ (by assumption) (by assumption) _).mono ?_; rintro e w' ⟨rfl, rfl⟩)
        | (go_at_call 51; refine (sqGap _ _ (by assumption) (by assumption) (by assumption) (by assumption) _).mono ?_; rintro e w' ⟨rfl, rfl⟩))
      all_goals
        go_ret
        exact ⟨rv_int (by rw [H.out]; split <;> omega), rfl⟩
    · obtain ⟨a0, a1⟩ := ha
      have H := hid (farZ_out (a := a) (b := b) (by omega))
      have HB := hid hb
      clear hb
      go_enter Try.func19, Try.ntmps19
      go_wp2_with (first
        | (go_at_call 28; with_reducible refine (sqRight_t a a0 a1 _).mono ?_; rintro e w' ⟨rfl, rfl⟩)
        | (go_at_call 28; refine (sqRight_f b HB.out _).mono ?_; rintro e w' ⟨rfl, rfl⟩))
      go_ret
      exact ⟨rv_int H.out.symm, rfl⟩
  · have H := hid (farZ_out (a := a) (b := b) (by omega))
    have HA := hid ha
    clear ha
    go_enter Try.func19, Try.ntmps19
    go_wp2_with (go_at_call 28; refine (sqRight_f a HA.out _).mono ?_; rintro e w' ⟨rfl, rfl⟩)
    go_ret
    exact ⟨rv_int H.out.symm, rfl⟩
theorem rFar (a b : Int) (w : World) :
    Calls Try.prog 20 #[.int .i64 a, .int .i64 b] w fun e w' => e = .returned (.int .i64 (farZ a b)) ∧ w = w' := by
  by_cases ha : 0 ≤ a ∧ a < 64
  · by_cases hb : 0 ≤ b ∧ b < 64
    · obtain ⟨a0, a1⟩ := ha
      obtain ⟨b0, b1⟩ := hb
      have H := hid (farZ_in a0 a1 b0 b1)
      go_enter Try.func20, Try.ntmps20
      go_wp2_with (first
        | (go_at_call 22; refine (rRight_t _ (by assumption) (by assumption) _).mono ?_; rintro e w' ⟨rfl, rfl⟩)
        | (go_at_call 26; refine (rFile_in _ (by assumption) (by assumption) _).mono ?_; rintro e w' ⟨rfl, rfl⟩)
        | (go_at_call 27; refine (rRank_in _ (by assumption) (by assumption) _).mono ?_; rintro e w' ⟨rfl, rfl⟩))
      all_goals
        go_ret
        exact ⟨rv_int (by rw [H.out]; unfold distZ; repeat' split
                          all_goals omega), rfl⟩
    · obtain ⟨a0, a1⟩ := ha
      have H := hid (farZ_out (a := a) (b := b) (by omega))
      have HB := hid hb
      clear hb
      go_enter Try.func20, Try.ntmps20
      go_wp2_with (first
        | (go_at_call 22; with_reducible refine (rRight_t a a0 a1 _).mono ?_; rintro e w' ⟨rfl, rfl⟩)
        | (go_at_call 22; refine (rRight_f b HB.out _).mono ?_; rintro e w' ⟨rfl, rfl⟩))
      go_ret
      exact ⟨rv_int H.out.symm, rfl⟩
  · have H := hid (farZ_out (a := a) (b := b) (by omega))
    have HA := hid ha
    clear ha
    go_enter Try.func20, Try.ntmps20
    go_wp2_with (go_at_call 22; refine (rRight_f a HA.out _).mono ?_; rintro e w' ⟨rfl, rfl⟩)
    go_ret
    exact ⟨rv_int H.out.symm, rfl⟩

theorem rStep (s f r : Int) (w : World) :
    Calls Try.prog 16 #[.int .i64 s, .int .i64 f, .int .i64 r] w fun e w' => e = .returned (.int .i64 (stepZ s f r)) ∧ w = w' := by
  by_cases hs : 0 ≤ s ∧ s < 64
  · obtain ⟨h0, h1⟩ := hs
    have HS := hid (stepZ_in (f := f) (r := r) h0 h1)
    have f0 : 0 ≤ s % 8 := by omega
    have f1 : s % 8 < 8 := by omega
    have r0 : 0 ≤ s / 8 := by omega
    have r1 : s / 8 < 8 := by omega
    have h1' : s ≤ 63 := by omega
    go_enter Try.func16, Try.ntmps16
    go_wp2_with (go_at_call 22; refine (rRight_t s h0 h1 _).mono ?_; rintro e w' ⟨rfl, rfl⟩)
    go_loop [7] (fun v => ∃ k : Nat, k ≤ 64 ∧ Hid (findZ (s % 8 + f) (s / 8 + r) = -1 ∨ (k : Int) ≤ findZ (s % 8 + f) (s / 8 + r)) ∧ v = .int .i64 k) (fun v => 64 - (intOf v).toNat)
    case atStart => exact ⟨0, by omega, hid (by have := findZ_cases (s % 8 + f) (s / 8 + r); omega), rfl⟩
    case round =>
      obtain ⟨k, hk, H, rfl⟩ := hrel
      by_cases hlt : k < 64
      · have k0 : (0 : Int) ≤ (k : Int) := by omega
        have k1 : (k : Int) < 64 := by omega
        by_cases hf : (k : Int) % 8 - s % 8 = f
        · by_cases hr : (k : Int) / 8 - s / 8 = r
          · have HH := hid (findZ_hit (k := k) (f := s % 8 + f) (r := s / 8 + r) k0 k1 (by omega) (by omega))
            have b1 := beq_t hf
            have b2 := beq_t hr
            clear hf hr
            go_wp2_with (first | (go_at_call 26; refine (rFile_in _ (by assumption) (by assumption) _).mono ?_; rintro e w' ⟨rfl, rfl⟩) | (go_at_call 27; refine (rRank_in _ (by assumption) (by assumption) _).mono ?_; rintro e w' ⟨rfl, rfl⟩))
            go_ret
            exact ⟨rv_int (by rw [HS.out, HH.out]), rfl⟩
          · have b1 := beq_t hf
            have b2 := beq_f hr
            have H2 := hid (findZ_miss (k := k) H.out (by omega))
            clear hf hr
            go_wp2_with (first | (go_at_call 26; refine (rFile_in _ (by assumption) (by assumption) _).mono ?_; rintro e w' ⟨rfl, rfl⟩) | (go_at_call 27; refine (rRank_in _ (by assumption) (by assumption) _).mono ?_; rintro e w' ⟨rfl, rfl⟩))
            go_round
            case rel => exact ⟨k + 1, by omega, by exact_mod_cast H2, by go_num⟩
            case measure => simp [intOf]; omega
        · have b1 := beq_f hf
          have H2 := hid (findZ_miss (k := k) H.out (by omega))
          clear hf
          go_wp2_with (first | (go_at_call 26; refine (rFile_in _ (by assumption) (by assumption) _).mono ?_; rintro e w' ⟨rfl, rfl⟩))
          go_round
          case rel => exact ⟨k + 1, by omega, by exact_mod_cast H2, by go_num⟩
          case measure => simp [intOf]; omega
      · go_wp2
        go_ret
        exact ⟨rv_int (by rw [HS.out]; exact (findZ_done (by have := H.out; omega)).symm), rfl⟩
  · have H := hid (stepZ_out (s := s) (f := f) (r := r) hs)
    go_enter Try.func16, Try.ntmps16
    go_wp2_with (go_at_call 22; refine (rRight_f s hs _).mono ?_; rintro e w' ⟨rfl, rfl⟩)
    go_ret
    exact ⟨rv_int H.out.symm, rfl⟩

theorem step28 : stepZ 28 1 2 = 45 := by decide
theorem sqWakes (w : World) : Calls Try.prog 12 #[] w fun e w' => e = .returned (.bool true) ∧ Below w.heap.size w w' := by
  have hs := hid (show ∀ w, Calls Try.prog 15 #[.int .i64 28, .int .i64 1, .int .i64 2] w fun e w' => e = .returned (.tuple #[.int .i64 45, .bool true]) ∧ w = w' from fun w => by
    have := sqStep_yes 28 1 2 (by rw [step28]; decide) w
    rw [step28] at this; exact this)
  have n1 := hid (show ∀ w, Calls Try.prog 29 #[.int .i64 28] w fun e w' => e = .returned (.string ⟨#[101, 52]⟩) ∧ Below w.heap.size w w' from fun w => sqName 28 w)
  have n2 := hid (show ∀ w, Calls Try.prog 29 #[.int .i64 45] w fun e w' => e = .returned (.string ⟨#[102, 54]⟩) ∧ Below w.heap.size w w' from fun w => sqName 45 w)
  go_enter Try.func12, Try.ntmps12
  go_wp2_with (first
    | (go_at_call 15; refine (hs.out _).mono ?_; rintro e w' ⟨rfl, rfl⟩)
    | (go_at_call 29; (with_reducible refine (n1.out _).mono ?_); rintro e w1 ⟨rfl, hb1⟩)
    | (go_at_call 29; (with_reducible refine (n2.out _).mono ?_); rintro e w2 ⟨rfl, hb2⟩))
  go_ret
  exact ⟨rfl, hb1.trans (hb2.mono hb1.size)⟩

set_option maxHeartbeats 1000000 in
theorem walk_SquareFar (a b c : Int) (w : World) :
    Calls Try.prog 5 #[.int .i64 a, .int .i64 b, .int .i64 c] w fun e w' => e = .returned (.bool true) ∧ Below w.heap.size w w' := by
  have hsym := hid (farZ_sym a b)
  have hcase : farZ a b < 0 ∨ (0 ≤ farZ a b ∧ farZ a c < 0) ∨ (0 ≤ farZ a b ∧ 0 ≤ farZ a c ∧ farZ c b < 0) ∨ (0 ≤ farZ a b ∧ 0 ≤ farZ a c ∧ 0 ≤ farZ c b ∧ farZ a b ≤ farZ a c + farZ c b) := by
    have := @farZ_tri a b c
    omega
  have hbd : -1 ≤ farZ a c ∧ farZ a c < 8 ∧ -1 ≤ farZ c b ∧ farZ c b < 8 := ⟨(farZ_bd a c).1, (farZ_bd a c).2, (farZ_bd c b).1, (farZ_bd c b).2⟩
  obtain ⟨u0, u1, u2, u3⟩ := hbd
  have hC1 := hid (sqFar a b)
  have hC2 : Hid (∀ w, Calls Try.prog 19 #[.int .i64 b, .int .i64 a] w fun e w' => e = .returned (.int .i64 (farZ a b)) ∧ w = w') := hid (fun w => by rw [← hsym.out]; exact sqFar b a w)
  have hC3 := hid (sqFar a c)
  have hC4 := hid (sqFar c b)
  have hC5 := hid (rFar a b)
  clear hsym
  generalize farZ a b = n at *
  generalize farZ a c = x at *
  generalize farZ c b = y at *
  rcases hcase with g | ⟨g, g2⟩ | ⟨g, g2, g3⟩ | ⟨g, g2, g3, g4⟩
  all_goals
    go_enter Try.func5, Try.ntmps5
    go_wp2_with fail
    (with_reducible refine (sqWakes _).mono ?_)
    rintro e w1 ⟨rfl, hb1⟩
    go_wp2_with fail
    (with_reducible refine (hC1.out _).mono ?_)
    rintro e w2 ⟨rfl, rfl⟩
    go_wp2_with fail
    (with_reducible refine (hC5.out _).mono ?_)
    rintro e w2 ⟨rfl, rfl⟩
    go_wp2_with fail
    (with_reducible refine (hC2.out _).mono ?_)
    rintro e w2 ⟨rfl, rfl⟩
    go_wp2_with fail
    (with_reducible refine (hC3.out _).mono ?_)
    rintro e w2 ⟨rfl, rfl⟩
    go_wp2_with fail
    (with_reducible refine (hC4.out _).mono ?_)
    rintro e w2 ⟨rfl, rfl⟩
    go_wp2_with fail
    go_ret
    exact ⟨rfl, hb1⟩
end Go.Proofs.Ytndijmlflijalaa
