/- The walks of package men and of its reference. -/
import Derived.Test.YtpgdcpkggmkooaaProg
import Derived.Test.YtpgdcpkggmkooaaMp
import Derived.Test.YtpgdcpkggmkooaaMem
import Derived.WalkKit
import Derived.WalkSpells
import Derived.WalkLawsBesides
import Derived.Deep.QuietTactic
import Derived.BigQuiet
import Derived.Laws.BytesString
namespace Go.Proofs.Ytpgdcpkggmkooaa
open Go.RowKit
theorem thirteen (m : Int) : m < -6 ∨ 6 < m ∨ m = -6 ∨ m = -5 ∨ m = -4 ∨ m = -3 ∨ m = -2 ∨ m = -1 ∨ m = 0 ∨ m = 1 ∨ m = 2 ∨ m = 3 ∨ m = 4 ∨ m = 5 ∨ m = 6 := by omega
theorem mnKind (m : Int) (w : World) : Calls Try.prog 59 #[.int .i64 m] w fun e w' => e = .returned (.int .i64 (kindZ m)) ∧ w = w' := by
  rcases thirteen m with h | h | rfl | rfl | rfl | rfl | rfl | rfl | rfl | rfl | rfl | rfl | rfl | rfl | rfl
  · have H := hid (kindZ_out (.inl h))
    have d0 := bne_t (show m ≠ 0 by omega)
    go_enter Try.func59, Try.ntmps59
    go_wp2
    go_ret
    exact ⟨rv_int H.out.symm, rfl⟩
  · have H := hid (kindZ_out (.inr h))
    have d := decide_eq_false (show ¬ m ≤ 6 by omega)
    have d0 := bne_t (show m ≠ 0 by omega)
    go_enter Try.func59, Try.ntmps59
    go_wp2
    go_ret
    exact ⟨rv_int H.out.symm, rfl⟩
  all_goals
    go_enter Try.func59, Try.ntmps59
    go_wp2
    go_ret
    exact ⟨rv_int (by decide), rfl⟩
theorem mnSide (m : Int) (w : World) : Calls Try.prog 58 #[.int .i64 m] w fun e w' => e = .returned (.int .i64 (sideZ m)) ∧ w = w' := by
  rcases thirteen m with h | h | rfl | rfl | rfl | rfl | rfl | rfl | rfl | rfl | rfl | rfl | rfl | rfl | rfl
  · have H := hid (sideZ_out (.inl h))
    have d0 := bne_t (show m ≠ 0 by omega)
    go_enter Try.func58, Try.ntmps58
    go_wp2
    go_ret
    exact ⟨rv_int H.out.symm, rfl⟩
  · have H := hid (sideZ_out (.inr h))
    have d := decide_eq_false (show ¬ m ≤ 6 by omega)
    have d0 := bne_t (show m ≠ 0 by omega)
    go_enter Try.func58, Try.ntmps58
    go_wp2
    go_ret
    exact ⟨rv_int H.out.symm, rfl⟩
  all_goals
    go_enter Try.func58, Try.ntmps58
    go_wp2
    go_ret
    exact ⟨rv_int (by decide), rfl⟩

theorem mnRight (m : Int) (w : World) : Calls Try.prog 50 #[.int .i64 m] w fun e w' => e = .returned (.bool (manB m)) ∧ w = w' := by
  rcases thirteen m with h | h | rfl | rfl | rfl | rfl | rfl | rfl | rfl | rfl | rfl | rfl | rfl | rfl | rfl
  · have H := hid (show manB m = false from decide_eq_false (by omega))
    have d0 := bne_t (show m ≠ 0 by omega)
    go_enter Try.func50, Try.ntmps50
    go_wp2
    go_ret
    exact ⟨rv_bool H.out.symm, rfl⟩
  · have H := hid (show manB m = false from decide_eq_false (by omega))
    have d0 := bne_t (show m ≠ 0 by omega)
    have d := decide_eq_false (show ¬ m ≤ 6 by omega)
    go_enter Try.func50, Try.ntmps50
    go_wp2
    go_ret
    exact ⟨rv_bool H.out.symm, rfl⟩
  all_goals
    go_enter Try.func50, Try.ntmps50
    go_wp2
    go_ret
    exact ⟨rv_bool (by decide), rfl⟩
theorem mnMake (k s : Int) (w : World) : Calls Try.prog 57 #[.int .i64 k, .int .i64 s] w fun e w' => e = .returned (.int .i64 (makeZ k s)) ∧ w = w' := by
  by_cases hk : k < 1 ∨ 6 < k
  · have H := hid (show makeZ k s = 0 by unfold makeZ; rw [if_pos hk])
    rcases hk with h | h
    · go_enter Try.func57, Try.ntmps57
      go_wp2
      go_ret
      exact ⟨rv_int H.out.symm, rfl⟩
    · have d := decide_eq_true h
      go_enter Try.func57, Try.ntmps57
      go_wp2
      go_ret
      exact ⟨rv_int H.out.symm, rfl⟩
  · have H : Hid (makeZ k s = if s = 0 then k else if s = 1 then -k else 0) := hid (by unfold makeZ; rw [if_neg hk])
    have k1 : 1 ≤ k := by omega
    have k2 : k ≤ 6 := by omega
    have d := decide_eq_false (show ¬ 6 < k by omega)
    clear hk
    by_cases h0 : s = 0
    · subst h0
      go_enter Try.func57, Try.ntmps57
      go_wp2
      go_ret
      exact ⟨rv_int (by rw [H.out]; rfl), rfl⟩
    · by_cases h1 : s = 1
      · subst h1
        go_enter Try.func57, Try.ntmps57
        go_wp2
        go_ret
        exact ⟨rv_int (by rw [H.out]; rfl), rfl⟩
      · have b0 := beq_f h0
        have b1 := beq_f h1
        have H2 : Hid (makeZ k s = 0) := hid (by rw [H.out, if_neg h0, if_neg h1])
        clear h0 h1
        go_enter Try.func57, Try.ntmps57
        go_wp2
        go_ret
        exact ⟨rv_int H2.out.symm, rfl⟩
theorem rKind (m : Int) (w : World) : Calls Try.prog 25 #[.int .i64 m] w fun e w' => e = .returned (.int .i64 (kindZ m)) ∧ w = w' := by
  go_enter Try.func25, Try.ntmps25
  go_wp2
  go_loop [3] (fun v => ∃ k : Nat, 1 ≤ k ∧ k ≤ 7 ∧ Hid (kindZ m = 0 ∨ (k : Int) ≤ kindZ m) ∧ v = .int .i64 k) (fun v => 7 - (intOf v).toNat)
  case atStart => exact ⟨1, by omega, by omega, hid (by unfold kindZ; split; omega; split <;> omega), rfl⟩
  case round =>
    obtain ⟨k, hk1, hk, H, rfl⟩ := hrel
    by_cases hlt : k ≤ 6
    · by_cases h1 : m = k
      · have HK : Hid (kindZ m = k) := hid (by unfold kindZ; rw [if_neg (by omega), if_pos (by omega)]; exact h1)
        have b := beq_t h1
        clear h1
        go_wp2
        go_ret
        exact ⟨rv_int HK.out.symm, rfl⟩
      · by_cases h2 : m = -k
        · have HK : Hid (kindZ m = k) := hid (by unfold kindZ; rw [if_neg (by omega), if_neg (by omega)]; omega)
          have b := beq_f h1
          have b2 : (m == 0 - (k : Int)) = true := beq_t (by omega)
          have b3 := beq_t h2
          clear h1 h2
          go_wp2
          go_ret
          exact ⟨rv_int HK.out.symm, rfl⟩
        · have HK : Hid (kindZ m = 0 ∨ ((k + 1 : Nat) : Int) ≤ kindZ m) := hid (by have := H.out; unfold kindZ at *; split; omega; rename_i hc; rw [if_neg hc] at this; split <;> rename_i hd <;> simp only [hd, if_true, if_false] at this <;> omega)
          have b := beq_f h1
          have b2 : (m == 0 - (k : Int)) = false := beq_f (by omega)
          have b3 := beq_f h2
          clear h1 h2
          go_wp2
          go_round
          case rel => exact ⟨k + 1, by omega, by omega, HK, by go_num⟩
          case measure => simp [intOf]; omega
    · go_wp2
      go_ret
      exact ⟨rv_int (by have := H.out; unfold kindZ at *; split; rfl; rename_i hc; rw [if_neg hc] at this; split <;> rename_i hd <;> simp only [hd, if_true, if_false] at this <;> omega), rfl⟩
theorem rv_str {a b : ByteArray} (h : a = b) : Ending.returned (.string a) = .returned (.string b) := by rw [h]
theorem rLetter (m : Int) (w : World) : Calls Try.prog 65 #[.int .i64 m] w fun e w' => e = .returned (.string (letterB m)) ∧ Below w.heap.size w w' := by
  rcases thirteen m with h | h | rfl | rfl | rfl | rfl | rfl | rfl | rfl | rfl | rfl | rfl | rfl | rfl | rfl
  · have H := hid (letterB_out (.inl h))
    have HK : Hid (∀ w, Calls Try.prog 25 #[.int .i64 m] w fun e w' => e = .returned (.int .i64 0) ∧ w = w') := hid (fun w => by have := rKind m w; rw [kindZ_out (.inl h)] at this; exact this)
    go_enter Try.func65, Try.ntmps65
    go_wp2_with fail
    (with_reducible refine (HK.out _).mono ?_)
    rintro e w' ⟨rfl, rfl⟩
    go_wp2
    go_ret
    exact ⟨rv_str H.out.symm, Below.refl _ _⟩
  · have H := hid (letterB_out (.inr h))
    have HK : Hid (∀ w, Calls Try.prog 25 #[.int .i64 m] w fun e w' => e = .returned (.int .i64 0) ∧ w = w') := hid (fun w => by have := rKind m w; rw [kindZ_out (.inr h)] at this; exact this)
    go_enter Try.func65, Try.ntmps65
    go_wp2_with fail
    (with_reducible refine (HK.out _).mono ?_)
    rintro e w' ⟨rfl, rfl⟩
    go_wp2
    go_ret
    exact ⟨rv_str H.out.symm, Below.refl _ _⟩
  · have HK := hid (rKind (-6))
    rw [show kindZ (-6) = 6 from rfl] at HK
    go_enter Try.func65, Try.ntmps65
    go_wp2_with fail
    (with_reducible refine (HK.out _).mono ?_)
    rintro e w' ⟨rfl, rfl⟩
    go_wp2
    go_ret
    exact ⟨rv_str (by decide), Below.refl _ _⟩
  · have HK := hid (rKind (-5))
    rw [show kindZ (-5) = 5 from rfl] at HK
    go_enter Try.func65, Try.ntmps65
    go_wp2_with fail
    (with_reducible refine (HK.out _).mono ?_)
    rintro e w' ⟨rfl, rfl⟩
    go_wp2
    go_ret
    exact ⟨rv_str (by decide), Below.refl _ _⟩
  · have HK := hid (rKind (-4))
    rw [show kindZ (-4) = 4 from rfl] at HK
    go_enter Try.func65, Try.ntmps65
    go_wp2_with fail
    (with_reducible refine (HK.out _).mono ?_)
    rintro e w' ⟨rfl, rfl⟩
    go_wp2
    go_ret
    exact ⟨rv_str (by decide), Below.refl _ _⟩
  · have HK := hid (rKind (-3))
    rw [show kindZ (-3) = 3 from rfl] at HK
    go_enter Try.func65, Try.ntmps65
    go_wp2_with fail
    (with_reducible refine (HK.out _).mono ?_)
    rintro e w' ⟨rfl, rfl⟩
    go_wp2
    go_ret
    exact ⟨rv_str (by decide), Below.refl _ _⟩
  · have HK := hid (rKind (-2))
    rw [show kindZ (-2) = 2 from rfl] at HK
    go_enter Try.func65, Try.ntmps65
    go_wp2_with fail
    (with_reducible refine (HK.out _).mono ?_)
    rintro e w' ⟨rfl, rfl⟩
    go_wp2
    go_ret
    exact ⟨rv_str (by decide), Below.refl _ _⟩
  · have HK := hid (rKind (-1))
    rw [show kindZ (-1) = 1 from rfl] at HK
    go_enter Try.func65, Try.ntmps65
    go_wp2_with fail
    (with_reducible refine (HK.out _).mono ?_)
    rintro e w' ⟨rfl, rfl⟩
    go_wp2
    go_ret
    exact ⟨rv_str (by decide), Below.refl _ _⟩
  · have HK := hid (rKind (0))
    rw [show kindZ (0) = 0 from rfl] at HK
    go_enter Try.func65, Try.ntmps65
    go_wp2_with fail
    (with_reducible refine (HK.out _).mono ?_)
    rintro e w' ⟨rfl, rfl⟩
    go_wp2
    go_ret
    exact ⟨rv_str (by decide), Below.refl _ _⟩
  · have HK := hid (rKind (1))
    rw [show kindZ (1) = 1 from rfl] at HK
    go_enter Try.func65, Try.ntmps65
    go_wp2_with fail
    (with_reducible refine (HK.out _).mono ?_)
    rintro e w' ⟨rfl, rfl⟩
    go_wp2
    go_ret
    exact ⟨rv_str (by decide), Below.refl _ _⟩
  · have HK := hid (rKind (2))
    rw [show kindZ (2) = 2 from rfl] at HK
    go_enter Try.func65, Try.ntmps65
    go_wp2_with fail
    (with_reducible refine (HK.out _).mono ?_)
    rintro e w' ⟨rfl, rfl⟩
    go_wp2
    go_ret
    exact ⟨rv_str (by decide), Below.refl _ _⟩
  · have HK := hid (rKind (3))
    rw [show kindZ (3) = 3 from rfl] at HK
    go_enter Try.func65, Try.ntmps65
    go_wp2_with fail
    (with_reducible refine (HK.out _).mono ?_)
    rintro e w' ⟨rfl, rfl⟩
    go_wp2
    go_ret
    exact ⟨rv_str (by decide), Below.refl _ _⟩
  · have HK := hid (rKind (4))
    rw [show kindZ (4) = 4 from rfl] at HK
    go_enter Try.func65, Try.ntmps65
    go_wp2_with fail
    (with_reducible refine (HK.out _).mono ?_)
    rintro e w' ⟨rfl, rfl⟩
    go_wp2
    go_ret
    exact ⟨rv_str (by decide), Below.refl _ _⟩
  · have HK := hid (rKind (5))
    rw [show kindZ (5) = 5 from rfl] at HK
    go_enter Try.func65, Try.ntmps65
    go_wp2_with fail
    (with_reducible refine (HK.out _).mono ?_)
    rintro e w' ⟨rfl, rfl⟩
    go_wp2
    go_ret
    exact ⟨rv_str (by decide), Below.refl _ _⟩
  · have HK := hid (rKind (6))
    rw [show kindZ (6) = 6 from rfl] at HK
    go_enter Try.func65, Try.ntmps65
    go_wp2_with fail
    (with_reducible refine (HK.out _).mono ?_)
    rintro e w' ⟨rfl, rfl⟩
    go_wp2
    go_ret
    exact ⟨rv_str (by decide), Below.refl _ _⟩
theorem mul_suc (n j : Nat) : n * j + n = n * (j + 1) := rfl
theorem mnPick {s : ByteArray} {n : Nat} {l : List Nat} (T : RText s n l) (k : Nat) (hk : k < l.length) (w : World) :
    Calls Try.prog 86 #[.string s, .int .i64 k] w fun e w' => e = .returned (.string (Utf8.encode (l.getD k 0 : Nat))) ∧ Below w.heap.size w w' := by
  have HT := hid T
  have hk12 : k < 12 := by have := T.few; omega
  clear T
  go_enter Try.func86, Try.ntmps86
  go_wp2
  go_loopw [5] (fun n' wr => ∃ (j : Nat), n' = .int .i64 j ∧ j ≤ k ∧ Hid (Itr wr (w.heap.size) s (n * j)) ∧ Hid (Below w.heap.size w wr)) (fun n _ => 12 - (intOf n).toNat)
  case atStart => exact ⟨0, rfl, by omega, hid (by rw [Nat.mul_zero]; exact Itr.new w s), hid (below_iter (Below.refl _ _) (Nat.le_refl _) _ _)⟩
  case round =>
    obtain ⟨j, rfl, hj, HI, HL⟩ := hrel
    have hlt : n * j < s.size := by rw [HT.out.size]; exact Nat.mul_lt_mul_of_pos_left (by omega) HT.out.pos
    have hn := fun ty => Lib.run_next_any_at (P := Try.prog) wr (w.heap.size) s (n * j) ty HI.out hlt
    have hd := HT.out.dec j (by omega)
    rw [hd, mul_suc] at hn
    dsimp only at hn
    have HI2 := hid (HI.out.at_ (n * (j + 1)))
    have HL2 := hid (Lib.below_iterAt HL.out (Nat.le_refl _) s (n * (j + 1)))
    clear hd hlt HL HI
    obtain ⟨c, hc⟩ : ∃ c : Nat, c = l.getD j 0 := ⟨_, rfl⟩
    rw [← hc] at hn
    have HC := hid hc
    clear hc
    by_cases hjk : (j : Int) = k
    · have b := beq_t hjk
      have HJ : Hid (j = k) := hid (by omega)
      clear hjk
      go_wp2
      go_ret
      exact ⟨rv_str (by rw [HC.out, HJ.out]), HL2.out⟩
    · have b := beq_f hjk
      have hlt : j < k := by omega
      clear hjk
      go_wp2
      go_roundw
      case rel => exact ⟨j + 1, by go_num, by omega, HI2, HL2⟩
      case measure => simp [intOf]; omega
theorem mnAmong {s : ByteArray} {n : Nat} {l : List Nat} (T : RText s n l) (c : Int) (w : World) :
    Calls Try.prog 91 #[.string s, .int .i32 c] w fun e w' => e = .returned (.int .i64 (amongFrom c l 0)) ∧ Below w.heap.size w w' := by
  have HT := hid T
  have hk12 : l.length ≤ 12 := T.few
  clear T
  go_enter Try.func91, Try.ntmps91
  go_wp2
  go_loopw [5] (fun n' wr => ∃ (j : Nat), n' = .int .i64 j ∧ j ≤ l.length ∧ Hid (amongFrom c l 0 = amongFrom c (l.drop j) j) ∧ Hid (Itr wr (w.heap.size) s (n * j)) ∧ Hid (Below w.heap.size w wr)) (fun n _ => 12 - (intOf n).toNat)
  case atStart => exact ⟨0, rfl, by omega, hid rfl, hid (by rw [Nat.mul_zero]; exact Itr.new w s), hid (below_iter (Below.refl _ _) (Nat.le_refl _) _ _)⟩
  case round =>
    obtain ⟨j, rfl, hj, HF, HI, HL⟩ := hrel
    by_cases hjl : j < l.length
    · have hlt : n * j < s.size := by rw [HT.out.size]; exact Nat.mul_lt_mul_of_pos_left (by omega) HT.out.pos
      have hn := fun ty => Lib.run_next_any_at (P := Try.prog) wr (w.heap.size) s (n * j) ty HI.out hlt
      have hd := HT.out.dec j (by omega)
      rw [hd, mul_suc] at hn
      dsimp only at hn
      have HI2 := hid (HI.out.at_ (n * (j + 1)))
      have HL2 := hid (Lib.below_iterAt HL.out (Nat.le_refl _) s (n * (j + 1)))
      clear hd hlt HL HI
      obtain ⟨x, hx⟩ : ∃ x : Nat, x = l.getD j 0 := ⟨_, rfl⟩
      rw [← hx] at hn
      have j0 : (0 : Int) ≤ (j : Int) := by omega
      by_cases hc : (x : Int) = c
      · have b := beq_t hc
        have HM := hid (HF.out.trans (amongFrom_hit hjl (by rw [← hx]; exact hc)))
        clear hc hx
        have j12 : j < 12 := by omega
        go_wp2_with (go_at_call 57; refine (mnMake _ _ _).mono ?_; rintro e w' ⟨rfl, rfl⟩)
        go_ret
        exact ⟨rv_int HM.out.symm, HL2.out⟩
      · have b := beq_f hc
        have HM := hid (HF.out.trans (amongFrom_step hjl (by rw [← hx]; exact hc)))
        clear hc hx
        go_wp2
        go_roundw
        case rel => exact ⟨j + 1, by go_num, by omega, HM, HI2, HL2⟩
        case measure => simp [intOf]; omega
    · have hlt : ¬ n * j < s.size := by rw [HT.out.size, show j = l.length by omega]; omega
      have hn := fun ty => Lib.run_next_end_at (P := Try.prog) wr (w.heap.size) s (n * j) ty HI.out hlt
      have HM := hid (HF.out.trans (amongFrom_end (by omega)))
      clear hlt
      go_wp2
      go_ret
      exact ⟨rv_int HM.out.symm, HL.out⟩
theorem decode_w (s : ByteArray) (pos : Nat) (h : pos < s.size) : 1 ≤ (Utf8.decode s pos).2 := by
  by_cases ha : (s[pos]'h).toNat < 128
  · simp only [Utf8.decode, get_at s pos h, ha, if_true]; omega
  · exact (decode_high s pos h (by omega)).2
theorem manOf_eq {c : Int} (h : amongFrom c lettersL 0 = 0) : manOfRune c = amongFrom c signsL 0 := by unfold manOfRune; rw [if_pos h]
theorem manOf_eq' {c : Int} (h : amongFrom c lettersL 0 ≠ 0) : manOfRune c = amongFrom c lettersL 0 := by unfold manOfRune; rw [if_neg h]
theorem decode_le' (s : ByteArray) (pos : Nat) (h : pos < s.size) : pos + (Utf8.decode s pos).2 ≤ s.size := by
  simp only [Utf8.decode]
  repeat' split
  all_goals simp_all
  all_goals omega
set_option maxHeartbeats 1000000 in
theorem mnOf (t : ByteArray) (ht : t.size ≤ maxLen) (w : World) :
    Calls Try.prog 83 #[.string t] w fun e w' => e = .returned (.tuple #[.int .i64 (ofZ t), .bool (ofZ t != 0)]) ∧ Below w.heap.size w w' := by
  unfold maxLen at ht
  have LL := hid (mnAmong letters_text)
  have LS := hid (mnAmong signs_text)
  go_enter Try.func83, Try.ntmps83
  go_wp2
  go_loopw [4] (fun m wr => ∃ (p : Nat) (x : Int), p ≤ t.size ∧ m = .int .i64 x ∧ ((p = 0 ∧ x = 0) ∨ (0 < p ∧ 0 < t.size ∧ Hid (p = (Utf8.decode t 0).2) ∧ x = manOfRune (Utf8.decode t 0).1)) ∧ Hid (Itr wr (w.heap.size) t p) ∧ Hid (Below w.heap.size w wr)) (fun _ wr => t.size - wr.iterPos w.heap.size)
  case atStart => exact ⟨0, 0, by omega, rfl, .inl ⟨rfl, rfl⟩, hid (Itr.new w t), hid (below_iter (Below.refl _ _) (Nat.le_refl _) _ _)⟩
  case round =>
    obtain ⟨p, x, hp, rfl, hm, HI, HL⟩ := hrel
    have hip : wr.iterPos w.heap.size = p := by have := HI.out; unfold Itr at this; simp [World.iterPos, this]
    have Hip := hid hip
    clear hip
    by_cases hlt : p < t.size
    · have hn := fun ty => Lib.run_next_any_at (P := Try.prog) wr (w.heap.size) t p ty HI.out hlt
      have hw := decode_w t p hlt
      have hw2 := decode_le' t p hlt
      obtain ⟨c, hc⟩ : ∃ c : Nat, c = (Utf8.decode t p).1 := ⟨_, rfl⟩
      obtain ⟨q, hq⟩ : ∃ q : Nat, q = p + (Utf8.decode t p).2 := ⟨_, rfl⟩
      rw [← hc, ← hq] at hn
      rw [← hq] at hw2
      have hpq : p < q := by omega
      have HI2 := hid (HI.out.at_ q)
      have HL2 := hid (Lib.below_iterAt HL.out (Nat.le_refl _) t q)
      have hsz : (wr.iterAt w.heap.size t q).heap.size = wr.heap.size := Lib.iterAt_size _ _ _ _
      have hsz2 : w.heap.size < (wr.iterAt w.heap.size t q).heap.size := by rw [hsz]; exact HI.out.lt
      clear HI HL hsz
      rcases hm with ⟨rfl, rfl⟩ | ⟨hp0, hs0, hpp, rfl⟩
      · have HC := hid hc
        have HQ := hid (show q = (Utf8.decode t 0).2 by omega)
        clear hc hq hw
        by_cases ha : amongFrom (c : Int) lettersL 0 = 0
        · have b := beq_t ha
          have HM := hid (manOf_eq ha)
          have HA := hid ha
          clear ha
          go_wp2_with fail
          refine (LL.out _ _).mono ?_
          rintro e w2 ⟨rfl, hb2⟩
          go_wp2_with fail
          refine (LS.out _ _).mono ?_
          rintro e w3 ⟨rfl, hb3⟩
          have hb := hb2.trans (hb3.mono hb2.size)
          go_wp2_with fail
          go_roundw
          case rel =>
            refine ⟨q, _, hw2, rfl, .inr ⟨by omega, by omega, HQ, ?_⟩, hid (HI2.out.below hb hsz2), hid (HL2.out.trans (hb.mono HL2.out.size))⟩
            rw [← HC.out, HM.out]
          case measure =>
            have e1 : w3.iterPos w.heap.size = q := by have := HI2.out.below hb hsz2; unfold Itr at this; simp [World.iterPos, this]
            rw [e1, Hip.out]; omega
        · have b := beq_f ha
          have HM := hid (manOf_eq' ha)
          clear ha
          go_wp2_with fail
          refine (LL.out _ _).mono ?_
          rintro e w2 ⟨rfl, hb⟩
          go_wp2_with fail
          go_roundw
          case rel =>
            refine ⟨q, _, hw2, rfl, .inr ⟨by omega, by omega, HQ, ?_⟩, hid (HI2.out.below hb hsz2), hid (HL2.out.trans (hb.mono HL2.out.size))⟩
            rw [← HC.out, HM.out]
          case measure =>
            have e1 : w2.iterPos w.heap.size = q := by have := HI2.out.below hb hsz2; unfold Itr at this; simp [World.iterPos, this]
            rw [e1, Hip.out]; omega
      · have HO := hid (show ofZ t = 0 by unfold ofZ; rw [if_neg (by omega), if_pos (by rw [← hpp.out]; omega)])
        clear hc hq hw
        go_wp2_with fail
        go_ret2
        exact ⟨rv_ib HO.out.symm (by rw [HO.out]; rfl), HL2.out⟩
    · have hn := fun ty => Lib.run_next_end_at (P := Try.prog) wr (w.heap.size) t p ty HI.out hlt
      rcases hm with ⟨rfl, rfl⟩ | ⟨hp0, hs0, hpp, rfl⟩
      · have HO := hid (show ofZ t = 0 by unfold ofZ; rw [if_pos (by omega)])
        clear hlt
        go_wp2_with fail
        go_ret2
        exact ⟨rv_ib HO.out.symm (by rw [HO.out]; rfl), HL.out⟩
      · have HO := hid (show ofZ t = manOfRune (Utf8.decode t 0).1 by unfold ofZ; rw [if_neg (by omega), if_neg (by rw [← hpp.out]; omega)])
        clear hlt
        go_wp2_with fail
        go_ret2
        exact ⟨rv_ib HO.out.symm (by rw [HO.out]), HL.out⟩
theorem mnLetter (m : Int) (w : World) : Calls Try.prog 77 #[.int .i64 m] w fun e w' => e = .returned (.string (letterB m)) ∧ Below w.heap.size w w' := by
  rcases thirteen m with h | h | rfl | rfl | rfl | rfl | rfl | rfl | rfl | rfl | rfl | rfl | rfl | rfl | rfl
  · have H := hid (letterB_out (.inl h))
    have d0 := bne_t (show m ≠ 0 by omega)
    go_enter Try.func77, Try.ntmps77
    go_wp2
    go_ret
    exact ⟨rv_str H.out.symm, Below.refl _ _⟩
  · have H := hid (letterB_out (.inr h))
    have d := decide_eq_false (show ¬ m ≤ 6 by omega)
    have d0 := bne_t (show m ≠ 0 by omega)
    go_enter Try.func77, Try.ntmps77
    go_wp2
    go_ret
    exact ⟨rv_str H.out.symm, Below.refl _ _⟩
  · have HP : Hid (∀ w, Calls Try.prog 86 #[.string ⟨#[80, 78, 66, 82, 81, 75, 112, 110, 98, 114, 113, 107]⟩, .int .i64 11] w fun e w' => e = .returned (.string (letterB (-6))) ∧ Below w.heap.size w w') := hid (fun w => mnPick letters_text 11 (by decide) w)
    go_enter Try.func77, Try.ntmps77
    go_wp2_with (first
      | (go_at_call 86; refine (HP.out _).mono ?_; rintro e w1 ⟨rfl, hb1⟩)
      | (go_at_call 50; refine (mnRight _ _).mono ?_; rintro e w' ⟨rfl, rfl⟩)
      | go_in)
    go_ret
    exact ⟨rfl, hb1⟩
  · have HP : Hid (∀ w, Calls Try.prog 86 #[.string ⟨#[80, 78, 66, 82, 81, 75, 112, 110, 98, 114, 113, 107]⟩, .int .i64 10] w fun e w' => e = .returned (.string (letterB (-5))) ∧ Below w.heap.size w w') := hid (fun w => mnPick letters_text 10 (by decide) w)
    go_enter Try.func77, Try.ntmps77
    go_wp2_with (first
      | (go_at_call 86; refine (HP.out _).mono ?_; rintro e w1 ⟨rfl, hb1⟩)
      | (go_at_call 50; refine (mnRight _ _).mono ?_; rintro e w' ⟨rfl, rfl⟩)
      | go_in)
    go_ret
    exact ⟨rfl, hb1⟩
  · have HP : Hid (∀ w, Calls Try.prog 86 #[.string ⟨#[80, 78, 66, 82, 81, 75, 112, 110, 98, 114, 113, 107]⟩, .int .i64 9] w fun e w' => e = .returned (.string (letterB (-4))) ∧ Below w.heap.size w w') := hid (fun w => mnPick letters_text 9 (by decide) w)
    go_enter Try.func77, Try.ntmps77
    go_wp2_with (first
      | (go_at_call 86; refine (HP.out _).mono ?_; rintro e w1 ⟨rfl, hb1⟩)
      | (go_at_call 50; refine (mnRight _ _).mono ?_; rintro e w' ⟨rfl, rfl⟩)
      | go_in)
    go_ret
    exact ⟨rfl, hb1⟩
  · have HP : Hid (∀ w, Calls Try.prog 86 #[.string ⟨#[80, 78, 66, 82, 81, 75, 112, 110, 98, 114, 113, 107]⟩, .int .i64 8] w fun e w' => e = .returned (.string (letterB (-3))) ∧ Below w.heap.size w w') := hid (fun w => mnPick letters_text 8 (by decide) w)
    go_enter Try.func77, Try.ntmps77
    go_wp2_with (first
      | (go_at_call 86; refine (HP.out _).mono ?_; rintro e w1 ⟨rfl, hb1⟩)
      | (go_at_call 50; refine (mnRight _ _).mono ?_; rintro e w' ⟨rfl, rfl⟩)
      | go_in)
    go_ret
    exact ⟨rfl, hb1⟩
  · have HP : Hid (∀ w, Calls Try.prog 86 #[.string ⟨#[80, 78, 66, 82, 81, 75, 112, 110, 98, 114, 113, 107]⟩, .int .i64 7] w fun e w' => e = .returned (.string (letterB (-2))) ∧ Below w.heap.size w w') := hid (fun w => mnPick letters_text 7 (by decide) w)
    go_enter Try.func77, Try.ntmps77
    go_wp2_with (first
      | (go_at_call 86; refine (HP.out _).mono ?_; rintro e w1 ⟨rfl, hb1⟩)
      | (go_at_call 50; refine (mnRight _ _).mono ?_; rintro e w' ⟨rfl, rfl⟩)
      | go_in)
    go_ret
    exact ⟨rfl, hb1⟩
  · have HP : Hid (∀ w, Calls Try.prog 86 #[.string ⟨#[80, 78, 66, 82, 81, 75, 112, 110, 98, 114, 113, 107]⟩, .int .i64 6] w fun e w' => e = .returned (.string (letterB (-1))) ∧ Below w.heap.size w w') := hid (fun w => mnPick letters_text 6 (by decide) w)
    go_enter Try.func77, Try.ntmps77
    go_wp2_with (first
      | (go_at_call 86; refine (HP.out _).mono ?_; rintro e w1 ⟨rfl, hb1⟩)
      | (go_at_call 50; refine (mnRight _ _).mono ?_; rintro e w' ⟨rfl, rfl⟩)
      | go_in)
    go_ret
    exact ⟨rfl, hb1⟩
  · go_enter Try.func77, Try.ntmps77
    go_wp2
    go_ret
    exact ⟨rfl, Below.refl _ _⟩
  · have HP : Hid (∀ w, Calls Try.prog 86 #[.string ⟨#[80, 78, 66, 82, 81, 75, 112, 110, 98, 114, 113, 107]⟩, .int .i64 0] w fun e w' => e = .returned (.string (letterB (1))) ∧ Below w.heap.size w w') := hid (fun w => mnPick letters_text 0 (by decide) w)
    go_enter Try.func77, Try.ntmps77
    go_wp2_with (first
      | (go_at_call 86; refine (HP.out _).mono ?_; rintro e w1 ⟨rfl, hb1⟩)
      | (go_at_call 50; refine (mnRight _ _).mono ?_; rintro e w' ⟨rfl, rfl⟩)
      | go_in)
    go_ret
    exact ⟨rfl, hb1⟩
  · have HP : Hid (∀ w, Calls Try.prog 86 #[.string ⟨#[80, 78, 66, 82, 81, 75, 112, 110, 98, 114, 113, 107]⟩, .int .i64 1] w fun e w' => e = .returned (.string (letterB (2))) ∧ Below w.heap.size w w') := hid (fun w => mnPick letters_text 1 (by decide) w)
    go_enter Try.func77, Try.ntmps77
    go_wp2_with (first
      | (go_at_call 86; refine (HP.out _).mono ?_; rintro e w1 ⟨rfl, hb1⟩)
      | (go_at_call 50; refine (mnRight _ _).mono ?_; rintro e w' ⟨rfl, rfl⟩)
      | go_in)
    go_ret
    exact ⟨rfl, hb1⟩
  · have HP : Hid (∀ w, Calls Try.prog 86 #[.string ⟨#[80, 78, 66, 82, 81, 75, 112, 110, 98, 114, 113, 107]⟩, .int .i64 2] w fun e w' => e = .returned (.string (letterB (3))) ∧ Below w.heap.size w w') := hid (fun w => mnPick letters_text 2 (by decide) w)
    go_enter Try.func77, Try.ntmps77
    go_wp2_with (first
      | (go_at_call 86; refine (HP.out _).mono ?_; rintro e w1 ⟨rfl, hb1⟩)
      | (go_at_call 50; refine (mnRight _ _).mono ?_; rintro e w' ⟨rfl, rfl⟩)
      | go_in)
    go_ret
    exact ⟨rfl, hb1⟩
  · have HP : Hid (∀ w, Calls Try.prog 86 #[.string ⟨#[80, 78, 66, 82, 81, 75, 112, 110, 98, 114, 113, 107]⟩, .int .i64 3] w fun e w' => e = .returned (.string (letterB (4))) ∧ Below w.heap.size w w') := hid (fun w => mnPick letters_text 3 (by decide) w)
    go_enter Try.func77, Try.ntmps77
    go_wp2_with (first
      | (go_at_call 86; refine (HP.out _).mono ?_; rintro e w1 ⟨rfl, hb1⟩)
      | (go_at_call 50; refine (mnRight _ _).mono ?_; rintro e w' ⟨rfl, rfl⟩)
      | go_in)
    go_ret
    exact ⟨rfl, hb1⟩
  · have HP : Hid (∀ w, Calls Try.prog 86 #[.string ⟨#[80, 78, 66, 82, 81, 75, 112, 110, 98, 114, 113, 107]⟩, .int .i64 4] w fun e w' => e = .returned (.string (letterB (5))) ∧ Below w.heap.size w w') := hid (fun w => mnPick letters_text 4 (by decide) w)
    go_enter Try.func77, Try.ntmps77
    go_wp2_with (first
      | (go_at_call 86; refine (HP.out _).mono ?_; rintro e w1 ⟨rfl, hb1⟩)
      | (go_at_call 50; refine (mnRight _ _).mono ?_; rintro e w' ⟨rfl, rfl⟩)
      | go_in)
    go_ret
    exact ⟨rfl, hb1⟩
  · have HP : Hid (∀ w, Calls Try.prog 86 #[.string ⟨#[80, 78, 66, 82, 81, 75, 112, 110, 98, 114, 113, 107]⟩, .int .i64 5] w fun e w' => e = .returned (.string (letterB (6))) ∧ Below w.heap.size w w') := hid (fun w => mnPick letters_text 5 (by decide) w)
    go_enter Try.func77, Try.ntmps77
    go_wp2_with (first
      | (go_at_call 86; refine (HP.out _).mono ?_; rintro e w1 ⟨rfl, hb1⟩)
      | (go_at_call 50; refine (mnRight _ _).mono ?_; rintro e w' ⟨rfl, rfl⟩)
      | go_in)
    go_ret
    exact ⟨rfl, hb1⟩
theorem conv_three (w : World) (a b c : Int) : (convert 57 9 (.slice (some ⟨w.heap.size, 0, none⟩) 3 3)).run Try.prog (w.alloc (.cells #[.int .u8 a, .int .u8 b, .int .u8 c] 5)) =
    .ok (.string (strOfNums [a, b, c])) (w.alloc (.cells #[.int .u8 a, .int .u8 b, .int .u8 c] 5)) :=
  run_convert_bytes_arg (P := Try.prog) _ 57 5 Try.underlying57 Try.underlying5 w.heap.size 0 3 3 [a, b, c] rfl
    (fun i hi => by
      have h := (Blk.new w 5 #[.int .u8 a, .int .u8 b, .int .u8 c]).cell (0 + i)
      match i, hi with
      | 0, _ => exact h
      | 1, _ => exact h
      | 2, _ => exact h) 9 Try.underlying9
theorem rSign (m : Int) (w : World) : Calls Try.prog 84 #[.int .i64 m] w fun e w' => e = .returned (.string (signB m)) ∧ Below w.heap.size w w' := by
  rcases thirteen m with h | h | rfl | rfl | rfl | rfl | rfl | rfl | rfl | rfl | rfl | rfl | rfl | rfl | rfl
  · have H := hid (signB_out (.inl h))
    have HK : Hid (∀ w, Calls Try.prog 25 #[.int .i64 m] w fun e w' => e = .returned (.int .i64 0) ∧ w = w') := hid (fun w => by have := rKind m w; rw [kindZ_out (.inl h)] at this; exact this)
    go_enter Try.func84, Try.ntmps84
    go_wp2_with fail
    (with_reducible refine (HK.out _).mono ?_)
    rintro e w' ⟨rfl, rfl⟩
    go_wp2
    go_ret
    exact ⟨rv_str H.out.symm, Below.refl _ _⟩
  · have H := hid (signB_out (.inr h))
    have HK : Hid (∀ w, Calls Try.prog 25 #[.int .i64 m] w fun e w' => e = .returned (.int .i64 0) ∧ w = w') := hid (fun w => by have := rKind m w; rw [kindZ_out (.inr h)] at this; exact this)
    go_enter Try.func84, Try.ntmps84
    go_wp2_with fail
    (with_reducible refine (HK.out _).mono ?_)
    rintro e w' ⟨rfl, rfl⟩
    go_wp2
    go_ret
    exact ⟨rv_str H.out.symm, Below.refl _ _⟩
  · have HK := hid (rKind (-6))
    rw [show kindZ (-6) = 6 from rfl] at HK
    have kc := conv_three w 226 153 154
    go_enter Try.func84, Try.ntmps84
    go_wp2_with fail
    (with_reducible refine (HK.out _).mono ?_)
    rintro e w' ⟨rfl, rfl⟩
    go_wp2
    go_ret
    exact ⟨rv_str (by decide), (Below.refl _ _).alloc (Nat.le_refl _) _⟩
  · have HK := hid (rKind (-5))
    rw [show kindZ (-5) = 5 from rfl] at HK
    have kc := conv_three w 226 153 155
    go_enter Try.func84, Try.ntmps84
    go_wp2_with fail
    (with_reducible refine (HK.out _).mono ?_)
    rintro e w' ⟨rfl, rfl⟩
    go_wp2
    go_ret
    exact ⟨rv_str (by decide), (Below.refl _ _).alloc (Nat.le_refl _) _⟩
  · have HK := hid (rKind (-4))
    rw [show kindZ (-4) = 4 from rfl] at HK
    have kc := conv_three w 226 153 156
    go_enter Try.func84, Try.ntmps84
    go_wp2_with fail
    (with_reducible refine (HK.out _).mono ?_)
    rintro e w' ⟨rfl, rfl⟩
    go_wp2
    go_ret
    exact ⟨rv_str (by decide), (Below.refl _ _).alloc (Nat.le_refl _) _⟩
  · have HK := hid (rKind (-3))
    rw [show kindZ (-3) = 3 from rfl] at HK
    have kc := conv_three w 226 153 157
    go_enter Try.func84, Try.ntmps84
    go_wp2_with fail
    (with_reducible refine (HK.out _).mono ?_)
    rintro e w' ⟨rfl, rfl⟩
    go_wp2
    go_ret
    exact ⟨rv_str (by decide), (Below.refl _ _).alloc (Nat.le_refl _) _⟩
  · have HK := hid (rKind (-2))
    rw [show kindZ (-2) = 2 from rfl] at HK
    have kc := conv_three w 226 153 158
    go_enter Try.func84, Try.ntmps84
    go_wp2_with fail
    (with_reducible refine (HK.out _).mono ?_)
    rintro e w' ⟨rfl, rfl⟩
    go_wp2
    go_ret
    exact ⟨rv_str (by decide), (Below.refl _ _).alloc (Nat.le_refl _) _⟩
  · have HK := hid (rKind (-1))
    rw [show kindZ (-1) = 1 from rfl] at HK
    have kc := conv_three w 226 153 159
    go_enter Try.func84, Try.ntmps84
    go_wp2_with fail
    (with_reducible refine (HK.out _).mono ?_)
    rintro e w' ⟨rfl, rfl⟩
    go_wp2
    go_ret
    exact ⟨rv_str (by decide), (Below.refl _ _).alloc (Nat.le_refl _) _⟩
  · have HK := hid (rKind (0))
    rw [show kindZ (0) = 0 from rfl] at HK
    go_enter Try.func84, Try.ntmps84
    go_wp2_with fail
    (with_reducible refine (HK.out _).mono ?_)
    rintro e w' ⟨rfl, rfl⟩
    go_wp2
    go_ret
    exact ⟨rfl, Below.refl _ _⟩
  · have HK := hid (rKind (1))
    rw [show kindZ (1) = 1 from rfl] at HK
    have kc := conv_three w 226 153 153
    go_enter Try.func84, Try.ntmps84
    go_wp2_with fail
    (with_reducible refine (HK.out _).mono ?_)
    rintro e w' ⟨rfl, rfl⟩
    go_wp2
    go_ret
    exact ⟨rv_str (by decide), (Below.refl _ _).alloc (Nat.le_refl _) _⟩
  · have HK := hid (rKind (2))
    rw [show kindZ (2) = 2 from rfl] at HK
    have kc := conv_three w 226 153 152
    go_enter Try.func84, Try.ntmps84
    go_wp2_with fail
    (with_reducible refine (HK.out _).mono ?_)
    rintro e w' ⟨rfl, rfl⟩
    go_wp2
    go_ret
    exact ⟨rv_str (by decide), (Below.refl _ _).alloc (Nat.le_refl _) _⟩
  · have HK := hid (rKind (3))
    rw [show kindZ (3) = 3 from rfl] at HK
    have kc := conv_three w 226 153 151
    go_enter Try.func84, Try.ntmps84
    go_wp2_with fail
    (with_reducible refine (HK.out _).mono ?_)
    rintro e w' ⟨rfl, rfl⟩
    go_wp2
    go_ret
    exact ⟨rv_str (by decide), (Below.refl _ _).alloc (Nat.le_refl _) _⟩
  · have HK := hid (rKind (4))
    rw [show kindZ (4) = 4 from rfl] at HK
    have kc := conv_three w 226 153 150
    go_enter Try.func84, Try.ntmps84
    go_wp2_with fail
    (with_reducible refine (HK.out _).mono ?_)
    rintro e w' ⟨rfl, rfl⟩
    go_wp2
    go_ret
    exact ⟨rv_str (by decide), (Below.refl _ _).alloc (Nat.le_refl _) _⟩
  · have HK := hid (rKind (5))
    rw [show kindZ (5) = 5 from rfl] at HK
    have kc := conv_three w 226 153 149
    go_enter Try.func84, Try.ntmps84
    go_wp2_with fail
    (with_reducible refine (HK.out _).mono ?_)
    rintro e w' ⟨rfl, rfl⟩
    go_wp2
    go_ret
    exact ⟨rv_str (by decide), (Below.refl _ _).alloc (Nat.le_refl _) _⟩
  · have HK := hid (rKind (6))
    rw [show kindZ (6) = 6 from rfl] at HK
    have kc := conv_three w 226 153 148
    go_enter Try.func84, Try.ntmps84
    go_wp2_with fail
    (with_reducible refine (HK.out _).mono ?_)
    rintro e w' ⟨rfl, rfl⟩
    go_wp2
    go_ret
    exact ⟨rv_str (by decide), (Below.refl _ _).alloc (Nat.le_refl _) _⟩
end Go.Proofs.Ytpgdcpkggmkooaa
