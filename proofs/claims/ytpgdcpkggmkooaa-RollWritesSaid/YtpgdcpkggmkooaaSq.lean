/- The walks of package square and of its reference. -/
import Derived.Test.YtpgdcpkggmkooaaProg
import Derived.Test.YtpgdcpkggmkooaaPl
import Derived.WalkKit
import Derived.WalkSpells
import Derived.WalkLawsBesides
import Derived.Test.YtpgdcpkggmkooaaMem
import Derived.Deep.QuietTactic
import Derived.BigQuiet
import Derived.Outline
namespace Go.Proofs.Ytpgdcpkggmkooaa
open Go.RowKit

theorem sqRank (s : Int) (w : World) :
    Calls Try.prog 71 #[.int .i64 s] w fun e w' => e = .returned (.int .i64 (rankZ s)) ∧ w = w' := by
  by_cases h0 : 0 ≤ s
  · by_cases h1 : s < 64
    · have H := hid (rankZ_in h0 h1)
      go_enter Try.func71, Try.ntmps71
      go_wp2
      go_ret
      exact ⟨rv_int H.out.symm, rfl⟩
    · have H := hid (rankZ_out (s := s) (by omega))
      go_enter Try.func71, Try.ntmps71
      go_wp2
      go_ret
      exact ⟨rv_int H.out.symm, rfl⟩
  · have H := hid (rankZ_out (s := s) (by omega))
    go_enter Try.func71, Try.ntmps71
    go_wp2
    go_ret
    exact ⟨rv_int H.out.symm, rfl⟩

/-- the reference's File, by counting down. -/
theorem rFile (s : Int) (w : World) :
    Calls Try.prog 55 #[.int .i64 s] w fun e w' => e = .returned (.int .i64 (fileZ s)) ∧ w = w' := by
  by_cases h0 : 0 ≤ s
  · by_cases h1 : s < 64
    · have H := hid (fileZ_in h0 h1)
      go_enter Try.func55, Try.ntmps55
      have h1' : s ≤ 63 := by omega
      go_wp2
      go_loop [0] (fun v => ∃ x : Int, 0 ≤ x ∧ x ≤ 63 ∧ Hid (x % 8 = s % 8) ∧ v = .int .i64 x) (fun v => (intOf v).toNat)
      case atStart => exact ⟨s, h0, by omega, rfl, rfl⟩
      case round =>
        obtain ⟨x, g0, g1, g2, rfl⟩ := hrel
        by_cases hx : 8 ≤ x
        · go_wp2
          go_round
          case rel => exact ⟨x - 8, by omega, by omega, hid (by have := g2.out; omega), rfl⟩
          case measure => simp [intOf]; omega
        · go_wp2
          go_ret
          exact ⟨rv_int (by rw [H.out]; have := g2.out; omega), rfl⟩
    · have H := hid (fileZ_out (s := s) (by omega))
      have d := decide_eq_false (show ¬ s ≤ 63 by omega)
      go_enter Try.func55, Try.ntmps55
      go_wp2
      go_ret
      exact ⟨rv_int H.out.symm, rfl⟩
  · have H := hid (fileZ_out (s := s) (by omega))
    go_enter Try.func55, Try.ntmps55
    go_wp2
    go_ret
    exact ⟨rv_int H.out.symm, rfl⟩

theorem rRank (s : Int) (w : World) :
    Calls Try.prog 56 #[.int .i64 s] w fun e w' => e = .returned (.int .i64 (rankZ s)) ∧ w = w' := by
  by_cases h0 : 0 ≤ s
  · by_cases h1 : s < 64
    · have H := hid (rankZ_in h0 h1)
      go_enter Try.func56, Try.ntmps56
      have h1' : s ≤ 63 := by omega
      go_wp2
      go_loop [0, 3] (fun v u => ∃ x n : Int, 0 ≤ x ∧ x ≤ 63 ∧ 0 ≤ n ∧ n ≤ 8 ∧ Hid (x + 8 * n = s) ∧ v = .int .i64 x ∧ u = .int .i64 n) (fun v _ => (intOf v).toNat)
      case atStart => exact ⟨s, 0, h0, by omega, by omega, by omega, hid (by omega), rfl, rfl⟩
      case round =>
        obtain ⟨x, n, g0, g1, g2, g3, g4, rfl, rfl⟩ := hrel
        by_cases hx : 8 ≤ x
        · go_wp2
          go_round
          case rel => exact ⟨x - 8, n + 1, by omega, by omega, by omega, by have := g4.out; omega, hid (by have := g4.out; omega), rfl, rfl⟩
          case measure => simp [intOf]; omega
        · go_wp2
          go_ret
          exact ⟨rv_int (by rw [H.out]; have := g4.out; omega), rfl⟩
    · have H := hid (rankZ_out (s := s) (by omega))
      have d := decide_eq_false (show ¬ s ≤ 63 by omega)
      go_enter Try.func56, Try.ntmps56
      go_wp2
      go_ret
      exact ⟨rv_int H.out.symm, rfl⟩
  · have H := hid (rankZ_out (s := s) (by omega))
    go_enter Try.func56, Try.ntmps56
    go_wp2
    go_ret
    exact ⟨rv_int H.out.symm, rfl⟩

theorem rFile_in (s : Int) (h0 : 0 ≤ s) (h1 : s < 64) (w : World) :
    Calls Try.prog 55 #[.int .i64 s] w fun e w' => e = .returned (.int .i64 (s % 8)) ∧ w = w' := by
  rw [← fileZ_in h0 h1]; exact rFile s w
theorem rRank_in (s : Int) (h0 : 0 ≤ s) (h1 : s < 64) (w : World) :
    Calls Try.prog 56 #[.int .i64 s] w fun e w' => e = .returned (.int .i64 (s / 8)) ∧ w = w' := by
  rw [← rankZ_in h0 h1]; exact rRank s w

theorem rFind (f r : Int) (w : World) :
    Calls Try.prog 54 #[.int .i64 f, .int .i64 r] w fun e w' => e = .returned (.int .i64 (findZ f r)) ∧ w = w' := by
  go_enter Try.func54, Try.ntmps54
  go_wp2
  go_loop [5] (fun v => ∃ k : Nat, k ≤ 64 ∧ Hid (findZ f r = -1 ∨ (k : Int) ≤ findZ f r) ∧ v = .int .i64 k) (fun v => 64 - (intOf v).toNat)
  case atStart => exact ⟨0, by omega, hid (by have := findZ_cases f r; omega), rfl⟩
  case round =>
    obtain ⟨k, hk, H, rfl⟩ := hrel
    by_cases hlt : k < 64
    · by_cases hf : (k : Int) % 8 = f
      · subst hf
        by_cases hr : (k : Int) / 8 = r
        · subst hr
          have HH := hid (findZ_hit (k := k) (by omega) (by omega) rfl rfl)
          go_wp2_with (first | (go_at_call 55; refine (rFile_in _ (by omega) (by omega) _).mono ?_; rintro e w' ⟨rfl, rfl⟩) | (go_at_call 56; refine (rRank_in _ (by omega) (by omega) _).mono ?_; rintro e w' ⟨rfl, rfl⟩))
          go_ret
          exact ⟨rv_int HH.out.symm, rfl⟩
        · have hb := beq_f hr
          have H2 := hid (findZ_miss H.out (by omega))
          go_wp2_with (first | (go_at_call 55; refine (rFile_in _ (by omega) (by omega) _).mono ?_; rintro e w' ⟨rfl, rfl⟩) | (go_at_call 56; refine (rRank_in _ (by omega) (by omega) _).mono ?_; rintro e w' ⟨rfl, rfl⟩))
          go_round
          case rel => exact ⟨k + 1, by omega, by exact_mod_cast H2, by go_num⟩
          case measure => simp [intOf]; omega
      · have hb := beq_f hf
        have H2 := hid (findZ_miss H.out (by omega))
        go_wp2_with (first | (go_at_call 55; refine (rFile_in _ (by omega) (by omega) _).mono ?_; rintro e w' ⟨rfl, rfl⟩))
        go_round
        case rel => exact ⟨k + 1, by omega, by exact_mod_cast H2, by go_num⟩
        case measure => simp [intOf]; omega
    · go_wp2
      go_ret
      exact ⟨rv_int (findZ_done (by have := H.out; omega)).symm, rfl⟩

theorem sqAt_in (f r : Int) (h0 : 0 ≤ f) (h1 : f < 8) (h2 : 0 ≤ r) (h3 : r < 8) (w : World) :
    Calls Try.prog 76 #[.int .i64 f, .int .i64 r] w fun e w' => e = .returned (.tuple #[.int .i64 (8 * r + f), .bool true]) ∧ w = w' := by
  go_enter Try.func76, Try.ntmps76
  go_wp2
  go_ret2
  exact ⟨rfl, rfl⟩
set_option maxHeartbeats 1000000 in
theorem sqParse (t : ByteArray) (w : World) (hs : t.size ≤ maxLen) :
    Calls Try.prog 96 #[.string t] w fun e w' => e = .returned (.tuple #[.int .i64 (sqOf t), .bool (isSq t)]) ∧ Below w.heap.size w w' := by
  unfold maxLen at hs
  go_enter Try.func96, Try.ntmps96
  go_wp2
  go_loopw [5] (fun n wr => ∃ (k : Nat) (X Y : Int), k ≤ 2 ∧ k ≤ t.size ∧ n = .int .i64 k ∧ Hid (pR t k X Y) ∧ Hid (Blk wr w.heap.size 100 #[.int .i64 X, .int .i64 Y]) ∧ Hid (Itr wr (w.heap.size + 1) t k) ∧ Hid (Below w.heap.size w wr)) (fun n _ => 3 - (intOf n).toNat)
  case atStart => 
    refine ⟨0, 0, 0, by omega, by omega, rfl, hid (.inl ⟨rfl, rfl, rfl⟩), hid ((Blk.new _ _ _).iter _ _), hid (by simpa using Itr.new (w.alloc _) t), hid (below_iter ((Below.refl _ _).alloc (Nat.le_refl _) _) (by simp) _ _)⟩
  case round =>
    obtain ⟨k, X, Y, hk, hk2, rfl, HR, HB, HI, HL⟩ := hrel
    by_cases hlt : k < t.size
    · have hhi := decode_high t k hlt
      have hbt := hid (bt_get t k hlt)
      have HL1 : ∀ q, Hid (Below w.heap.size w (wr.iterAt (w.heap.size + 1) t q)) := fun q => hid (Lib.below_iterAt HL.out (by omega) t q)
      have hbs : ∀ q, Blk (wr.iterAt (w.heap.size + 1) t q) w.heap.size 100 #[.int .i64 X, .int .i64 Y] := fun q => HB.out.at_ (by omega)
      have HIs : ∀ q, Hid (Itr (wr.iterAt (w.heap.size + 1) t q) (w.heap.size + 1) t q) := fun q => hid (HI.out.at_ q)
      by_cases ha : (t[k]'hlt).toNat < 128
      · have hn := fun ty => Lib.run_next_ascii_at (P := Try.prog) wr (w.heap.size + 1) t k ty HI.out hlt ha
        obtain ⟨c, hc⟩ : ∃ c : Nat, c = (t[k]'hlt).toNat := ⟨_, rfl⟩
        rw [← hc] at hn hbt
        have HL2 := HL1 (k + 1)
        have HI2 := HIs (k + 1)
        have HB2 := hid (hbs (k + 1))
        have f0 := (hbs (k + 1)).free 0
        have f1 := (hbs (k + 1)).free 1
        have c0 := (hbs (k + 1)).cell 0
        have c1 := (hbs (k + 1)).cell 1
        clear hbs hc ha HL1 HIs hhi HL HB
        have hno : ¬ (t.size = 2 ∧ 97 ≤ bt t 0 ∧ bt t 0 ≤ 104 ∧ 49 ≤ bt t 1 ∧ bt t 1 ≤ 56) ∨ (t.size = 2 ∧ 97 ≤ bt t 0 ∧ bt t 0 ≤ 104 ∧ 49 ≤ bt t 1 ∧ bt t 1 ≤ 56) := (Classical.em _).symm
        rcases (show k = 0 ∨ k = 1 ∨ k = 2 by omega) with rfl | rfl | rfl
        · by_cases hg : 97 ≤ (c : Int) ∧ (c : Int) ≤ 104
          · obtain ⟨g1, g2⟩ := hg
            clear hno
            go_wp2
            go_roundw
            case rel =>
              refine ⟨1, c - 97, Y, by omega, by omega, rfl, hid ?_, hid (HB2.out.set 0 _), hid (HI2.out.far (by simp) _), hid (HL2.out.setCell (by simp) _)⟩
              have := HR.out; have := hbt.out; unfold pR at *; omega
            case measure => simp [intOf]
          · have HN := hid (isSq_no (t := t) (by have := hbt.out; omega))
            clear hno
            by_cases g1 : 97 ≤ (c : Int)
            · have g2 : ¬ ((c : Int) ≤ 104) := by omega
              go_wp2
              go_ret2
              exact ⟨rv_ib HN.out.2.symm HN.out.1.symm, HL2.out⟩
            · go_wp2
              go_ret2
              exact ⟨rv_ib HN.out.2.symm HN.out.1.symm, HL2.out⟩
        · by_cases hg : 49 ≤ (c : Int) ∧ (c : Int) ≤ 56
          · obtain ⟨g1, g2⟩ := hg
            clear hno
            go_wp2
            go_roundw
            case rel =>
              refine ⟨2, X, c - 49, by omega, by omega, rfl, hid ?_, hid (HB2.out.set 1 _), hid (HI2.out.far (by simp) _), hid (HL2.out.setCell (by simp) _)⟩
              have := HR.out; have := hbt.out; unfold pR at *; omega
            case measure => simp [intOf]
          · have HN := hid (isSq_no (t := t) (by have := hbt.out; omega))
            clear hno
            by_cases g1 : 49 ≤ (c : Int)
            · have g2 : ¬ ((c : Int) ≤ 56) := by omega
              go_wp2
              go_ret2
              exact ⟨rv_ib HN.out.2.symm HN.out.1.symm, HL2.out⟩
            · go_wp2
              go_ret2
              exact ⟨rv_ib HN.out.2.symm HN.out.1.symm, HL2.out⟩
        · have HN := hid (isSq_no (t := t) (by omega))
          clear hno
          go_wp2
          go_ret2
          exact ⟨rv_ib HN.out.2.symm HN.out.1.symm, HL2.out⟩
      · obtain ⟨hd1, hd2⟩ := hhi (by omega)
        have hn := fun ty => Lib.run_next_any_at (P := Try.prog) wr (w.heap.size + 1) t k ty HI.out hlt
        have hle := decode_le t k
        obtain ⟨c, hc⟩ : ∃ c : Nat, c = (Utf8.decode t k).1 := ⟨_, rfl⟩
        obtain ⟨q, hq⟩ : ∃ q : Nat, q = k + (Utf8.decode t k).2 := ⟨_, rfl⟩
        rw [← hc, ← hq] at hn
        rw [← hc] at hd1 hle
        have HL2 := HL1 q
        have HN := hid (isSq_no (t := t) (by
          have := hbt.out; rcases (show k = 0 ∨ k = 1 ∨ k = 2 by omega) with rfl | rfl | rfl <;> omega))
        clear hbs hc hq ha HL1 HIs hhi HL HB hd2
        rcases (show k = 0 ∨ k = 1 ∨ k = 2 by omega) with rfl | rfl | rfl
        all_goals
          go_wp2
          go_ret2
          exact ⟨rv_ib HN.out.2.symm HN.out.1.symm, HL2.out⟩
    · have hn := fun ty => Lib.run_next_end_at (P := Try.prog) wr (w.heap.size + 1) t k ty HI.out hlt
      have c0 := HB.out.cell 0
      have c1 := HB.out.cell 1
      by_cases hk2' : k = 2
      · have HR' := HR.out
        unfold pR at HR'
        have HY := hid (isSq_yes (t := t) (by omega))
        have hx0 : 0 ≤ X ∧ X < 8 ∧ 0 ≤ Y ∧ Y < 8 := by omega
        obtain ⟨x0, x1, x2, x3⟩ := hx0
        have HXY : Hid (8 * Y + X = 8 * (bt t 1 - 49) + (bt t 0 - 97)) := hid (by omega)
        clear HR'
        subst hk2'
        go_wp2_with (go_at_call 76; refine (sqAt_in X Y x0 x1 x2 x3 _).mono ?_; rintro e w' ⟨rfl, rfl⟩)
        go_ret2
        exact ⟨rv_ib (by rw [HY.out.2]; exact HXY.out) HY.out.1.symm, HL.out⟩
      · have HN := hid (isSq_no (t := t) (by omega))
        rcases (show k = 0 ∨ k = 1 by omega) with rfl | rfl
        all_goals
          go_wp2
          go_ret2
          exact ⟨rv_ib HN.out.2.symm HN.out.1.symm, HL.out⟩

theorem cell_pair0 (w : World) (t : TypeId) (a b : Value) : (w.alloc (.cells #[a, b] t)).cell? ⟨w.heap.size, 0, none⟩ = some a := (Blk.new w t #[a, b]).cell 0
theorem cell_pair1 (w : World) (t : TypeId) (a b : Value) : (w.alloc (.cells #[a, b] t)).cell? ⟨w.heap.size, 1, none⟩ = some b := (Blk.new w t #[a, b]).cell 1
theorem conv_pair (w : World) (a b : Int) : (convert 95 9 (.slice (some ⟨w.heap.size, 0, none⟩) 2 2)).run Try.prog (w.alloc (.cells #[.int .i32 a, .int .i32 b] 21)) =
    .ok (.string (runesBytes [a, b])) (w.alloc (.cells #[.int .i32 a, .int .i32 b] 21)) :=
  run_convert_runes (P := Try.prog) _ _ _ 21 ⟨w.heap.size, 0, none⟩ 2 2 [a, b] (by simp) Try.underlying95 Try.underlying21 Try.underlying9
    (fun j hj => by
      match j, hj with
      | 0, _ => exact cell_pair0 w _ _ _
      | 1, _ => exact cell_pair1 w _ _ _
      | n + 2, h => simp at h; omega)
theorem sqName (s : Int) (w : World) :
    Calls Try.prog 81 #[.int .i64 s] w fun e w' => e = .returned (.string (nameB s)) ∧ Below w.heap.size w w' := by
  by_cases h0 : 0 ≤ s
  · by_cases h1 : s < 64
    · have H := hid (nameB_in h0 h1)
      have h1' : s ≤ 63 := by omega
      have kc := conv_pair w (97 + s % 8) (49 + s / 8)
      have HE := hid (runes2 (a := 97 + s % 8) (b := 49 + s / 8) (by omega) (by omega) (by omega) (by omega))
      go_enter Try.func81, Try.ntmps81
      go_wp2
      go_ret
      refine ⟨?_, (Below.refl _ _).alloc (Nat.le_refl _) _⟩
      rw [H.out, HE.out, show (97 + s % 8).toNat = 97 + (s % 8).toNat by omega, show (49 + s / 8).toNat = 49 + (s / 8).toNat by omega]; rfl
    · have H := hid (nameB_out (s := s) (by omega))
      have d := decide_eq_false (show ¬ s < 64 by omega)
      go_enter Try.func81, Try.ntmps81
      go_wp2
      go_ret
      exact ⟨by rw [H.out]; rfl, Below.refl _ _⟩
  · have H := hid (nameB_out (s := s) (by omega))
    go_enter Try.func81, Try.ntmps81
    go_wp2
    go_ret
    exact ⟨by rw [H.out]; rfl, Below.refl _ _⟩
theorem ref_pair : ∀ k : Fin 64, (ByteArray.mk #[97, 98, 99, 100, 101, 102, 103, 104]).extract (k.val % 8) (k.val % 8 + 1) ++ (ByteArray.mk #[49, 50, 51, 52, 53, 54, 55, 56]).extract (k.val / 8) (k.val / 8 + 1) = nameB k.val := by decide +kernel
theorem rRight_t (s : Int) (h0 : 0 ≤ s) (h1 : s < 64) (w : World) : Calls Try.prog 24 #[.int .i64 s] w fun e w' => e = .returned (.bool true) ∧ w = w' := by
  have h1' : s ≤ 63 := by omega
  go_enter Try.func24, Try.ntmps24
  go_wp2
  go_ret
  exact ⟨rfl, rfl⟩
theorem rRight_f (s : Int) (h : ¬ (0 ≤ s ∧ s < 64)) (w : World) : Calls Try.prog 24 #[.int .i64 s] w fun e w' => e = .returned (.bool false) ∧ w = w' := by
  by_cases h0 : 0 ≤ s
  · have d := decide_eq_false (show ¬ s ≤ 63 by omega)
    have d2 := decide_eq_false (show ¬ s < 64 by omega)
    clear h
    go_enter Try.func24, Try.ntmps24
    go_wp2
    go_ret
    exact ⟨rfl, rfl⟩
  · clear h
    go_enter Try.func24, Try.ntmps24
    go_wp2
    go_ret
    exact ⟨rfl, rfl⟩
theorem sqRight_t (s : Int) (h0 : 0 ≤ s) (h1 : s < 64) (w : World) : Calls Try.prog 52 #[.int .i64 s] w fun e w' => e = .returned (.bool true) ∧ w = w' := by
  have h1' : s ≤ 63 := by omega
  go_enter Try.func52, Try.ntmps52
  go_wp2
  go_ret
  exact ⟨rfl, rfl⟩
theorem sqRight_f (s : Int) (h : ¬ (0 ≤ s ∧ s < 64)) (w : World) : Calls Try.prog 52 #[.int .i64 s] w fun e w' => e = .returned (.bool false) ∧ w = w' := by
  by_cases h0 : 0 ≤ s
  · have d := decide_eq_false (show ¬ s ≤ 63 by omega)
    have d2 := decide_eq_false (show ¬ s < 64 by omega)
    clear h
    go_enter Try.func52, Try.ntmps52
    go_wp2
    go_ret
    exact ⟨rfl, rfl⟩
  · clear h
    go_enter Try.func52, Try.ntmps52
    go_wp2
    go_ret
    exact ⟨rfl, rfl⟩
theorem rName (s : Int) (h0 : 0 ≤ s) (h1 : s < 64) (w : World) :
    Calls Try.prog 67 #[.int .i64 s] w fun e w' => e = .returned (.string (nameB s)) ∧ Below w.heap.size w w' := by
  have h1' : s ≤ 63 := by omega
  go_enter Try.func67, Try.ntmps67
  go_wp2_with (first | (go_at_call 24; refine (rRight_t s h0 h1 _).mono ?_; rintro e w' ⟨rfl, rfl⟩) | (go_at_call 55; refine (rFile_in _ (by omega) (by omega) _).mono ?_; rintro e w' ⟨rfl, rfl⟩) | (go_at_call 56; refine (rRank_in _ (by omega) (by omega) _).mono ?_; rintro e w' ⟨rfl, rfl⟩))
  have HP := hid (ref_pair ⟨s.toNat, by omega⟩)
  go_quiet (fail)
  go_wp2
  go_ret
  refine ⟨?_, below_drewN (Below.refl _ _) _⟩
  have hp := HP.out
  simp only [show ((s.toNat : Nat) : Int) = s by omega] at hp
  rw [← hp]
  simp only [show (s % 8).toNat = s.toNat % 8 by omega, show (s % 8 + 1).toNat = s.toNat % 8 + 1 by omega, show (s / 8).toNat = s.toNat / 8 by omega, show (s / 8 + 1).toNat = s.toNat / 8 + 1 by omega]
  rfl
theorem sqAt_no (f r : Int) (h : ¬ (0 ≤ f ∧ f < 8 ∧ 0 ≤ r ∧ r < 8)) (w : World) :
    Calls Try.prog 76 #[.int .i64 f, .int .i64 r] w fun e w' => e = .returned (.tuple #[.int .i64 0, .bool false]) ∧ w = w' := by
  rcases (show f < 0 ∨ (0 ≤ f ∧ 8 ≤ f) ∨ (0 ≤ f ∧ f < 8 ∧ r < 0) ∨ (0 ≤ f ∧ f < 8 ∧ 0 ≤ r ∧ decide (r < 8) = false) by simp; omega) with h1 | ⟨h1, h2⟩ | ⟨h1, h2, h3⟩ | ⟨h1, h2, h3, h4⟩
  all_goals
    clear h
    go_enter Try.func76, Try.ntmps76
    go_wp2
    go_ret2
    exact ⟨rfl, rfl⟩
theorem sqFlip (s : Int) (w : World) :
    Calls Try.prog 53 #[.int .i64 s] w fun e w' => e = .returned (.int .i64 (flipZ s)) ∧ w = w' := by
  by_cases hs : 0 ≤ s ∧ s < 64
  · obtain ⟨h0, h1⟩ := hs
    have H := hid (flipZ_in h0 h1)
    have HB := hid (flip_bits ⟨s.toNat, by omega⟩)
    go_enter Try.func53, Try.ntmps53
    go_wp2
    go_ret
    refine ⟨rv_int ?_, rfl⟩
    have hb := HB.out
    simp only [show ((s.toNat : Nat) : Int) = s by omega] at hb
    rw [H.out]
    exact hb
  · have H := hid (flipZ_out hs)
    go_enter Try.func53, Try.ntmps53
    go_wp2_with (go_at_call 52; refine (sqRight_f s hs _).mono ?_; rintro e w' ⟨rfl, rfl⟩)
    go_ret
    exact ⟨rv_int H.out.symm, rfl⟩

end Go.Proofs.Ytpgdcpkggmkooaa
