import Derived.Test.YtaipghemddjecaaProg
import Derived.Test.YtaipghemddjecaaMpz
import Derived.Test.YtaipghemddjecaaMemz
import Derived.WalkKit
import Derived.WalkSpells
import Derived.WalkLawsBesides
import Derived.Deep.QuietTactic
import Derived.BigQuiet
import Derived.Laws.BytesString
namespace Go.Proofs.Ytaipghemddjecaa
open Go.RowKit
theorem mnMake (k s : Int) (w : World) : Calls Try.prog 74 #[.int .i64 k, .int .i64 s] w fun e w' => e = .returned (.int .i64 (makeZ k s)) ∧ w = w' := by
  by_cases hk : k < 1 ∨ 6 < k
  · have H := hid (show makeZ k s = 0 by unfold makeZ; rw [if_pos hk])
    rcases hk with h | h
    · go_enter Try.func74, Try.ntmps74
      go_wp2
      go_ret
      exact ⟨rv_int H.out.symm, rfl⟩
    · have d := decide_eq_true h
      go_enter Try.func74, Try.ntmps74
      go_wp2
      go_ret
      exact ⟨rv_int H.out.symm, rfl⟩
  · have H : Hid (makeZ k s = if s = 0 then k else if s = 1 then -k else 0) := hid (by unfold makeZ; rw [if_neg hk])
    have k1 : 1 ≤ k := by omega
    have k2 : k ≤ 6 := by omega
    have d := decide_eq_false (show ¬ 6 < k by omega)
    clear hk
    by_cases h0 : s = 0
    · subst h0
      go_enter Try.func74, Try.ntmps74
      go_wp2
      go_ret
      exact ⟨rv_int (by rw [H.out]; rfl), rfl⟩
    · by_cases h1 : s = 1
      · subst h1
        go_enter Try.func74, Try.ntmps74
        go_wp2
        go_ret
        exact ⟨rv_int (by rw [H.out]; rfl), rfl⟩
      · have b0 := beq_f h0
        have b1 := beq_f h1
        have H2 : Hid (makeZ k s = 0) := hid (by rw [H.out, if_neg h0, if_neg h1])
        clear h0 h1
        go_enter Try.func74, Try.ntmps74
        go_wp2
        go_ret
        exact ⟨rv_int H2.out.symm, rfl⟩
theorem mul_suc (n j : Nat) : n * j + n = n * (j + 1) := rfl
theorem mnAmong {s : ByteArray} {n : Nat} {l : List Nat} (T : RText s n l) (c : Int) (w : World) :
    Calls Try.prog 73 #[.string s, .int .i32 c] w fun e w' => e = .returned (.int .i64 (amongFrom c l 0)) ∧ Below w.heap.size w w' := by
  have HT := hid T
  have hk12 : l.length ≤ 12 := T.few
  clear T
  go_enter Try.func73, Try.ntmps73
  go_wp2
  go_loopw [5] (fun n' wr => ∃ (j : Nat), n' = .int .i64 j ∧ j ≤ l.length ∧ Hid (amongFrom c l 0 = amongFrom c (l.drop j) j) ∧ Hid (Itr wr (w.heap.size) s (n * j)) ∧ Hid (Below w.heap.size w wr)) (fun n _ => 12 - (intOf n).toNat)
  case atStart => exact ⟨0, rfl, by omega, hid rfl, hid (by rw [Nat.mul_zero]; exact Itr.new w s), hid (below_iter (Below.refl _ _) (Nat.le_refl _) _ _)⟩
  case round =>
    obtain ⟨j, rfl, hj, HF, HI, HL⟩ := hrel
    by_cases hjl : j < l.length
    · have hlt : n * j < s.size := by rw [HT.out.size]; exact Nat.mul_lt_mul_of_pos_left (by omega) HT.out.pos
      have hn := fun ty => Lib.run_next_any_at (P := Try.prog) wr (w.heap.size) s (n * j) ty HI.out hlt
      have hd := HT.out.dec j (by omega)
      rw [hd, mul_suc] at hn
      dsimp only at hn
      have HI2 := hid (HI.out.at_ (n * (j + 1)))
      have HL2 := hid (Lib.below_iterAt HL.out (Nat.le_refl _) s (n * (j + 1)))
      clear hd hlt HL HI
      obtain ⟨x, hx⟩ : ∃ x : Nat, x = l.getD j 0 := ⟨_, rfl⟩
      rw [← hx] at hn
      have j0 : (0 : Int) ≤ (j : Int) := by omega
      by_cases hc : (x : Int) = c
      · have b := beq_t hc
        have HM := hid (HF.out.trans (amongFrom_hit hjl (by rw [← hx]; exact hc)))
        clear hc hx
        have j12 : j < 12 := by omega
        go_wp2_with (go_at_call 74; refine (mnMake _ _ _).mono ?_; rintro e w' ⟨rfl, rfl⟩)
        go_ret
        exact ⟨rv_int HM.out.symm, HL2.out⟩
      · have b := beq_f hc
        have HM := hid (HF.out.trans (amongFrom_step hjl (by rw [← hx]; exact hc)))
        clear hc hx
        go_wp2
        go_roundw
        case rel => exact ⟨j + 1, by go_num, by omega, HM, HI2, HL2⟩
        case measure => simp [intOf]; omega
    · have hlt : ¬ n * j < s.size := by rw [HT.out.size, show j = l.length by omega]; omega
      have hn := fun ty => Lib.run_next_end_at (P := Try.prog) wr (w.heap.size) s (n * j) ty HI.out hlt
      have HM := hid (HF.out.trans (amongFrom_end (by omega)))
      clear hlt
      go_wp2
      go_ret
      exact ⟨rv_int HM.out.symm, HL.out⟩
theorem decode_w (s : ByteArray) (pos : Nat) (h : pos < s.size) : 1 ≤ (Utf8.decode s pos).2 := by
  by_cases ha : (s[pos]'h).toNat < 128
  · simp only [Utf8.decode, get_at s pos h, ha, if_true]; omega
  · exact (decode_high s pos h (by omega)).2
theorem manOf_eq {c : Int} (h : amongFrom c lettersL 0 = 0) : manOfRune c = amongFrom c signsL 0 := by unfold manOfRune; rw [if_pos h]
theorem manOf_eq' {c : Int} (h : amongFrom c lettersL 0 ≠ 0) : manOfRune c = amongFrom c lettersL 0 := by unfold manOfRune; rw [if_neg h]
theorem decode_le' (s : ByteArray) (pos : Nat) (h : pos < s.size) : pos + (Utf8.decode s pos).2 ≤ s.size := by
  simp only [Utf8.decode]
  repeat' split
  all_goals simp_all
  all_goals omega
set_option maxHeartbeats 1000000 in
theorem mnOf (t : ByteArray) (ht : t.size ≤ maxLen) (w : World) :
    Calls Try.prog 58 #[.string t] w fun e w' => e = .returned (.tuple #[.int .i64 (ofZ t), .bool (ofZ t != 0)]) ∧ Below w.heap.size w w' := by
  unfold maxLen at ht
  have LL := hid (mnAmong letters_text)
  have LS := hid (mnAmong signs_text)
  go_enter Try.func58, Try.ntmps58
  go_wp2
  go_loopw [4] (fun m wr => ∃ (p : Nat) (x : Int), p ≤ t.size ∧ m = .int .i64 x ∧ ((p = 0 ∧ x = 0) ∨ (0 < p ∧ 0 < t.size ∧ Hid (p = (Utf8.decode t 0).2) ∧ x = manOfRune (Utf8.decode t 0).1)) ∧ Hid (Itr wr (w.heap.size) t p) ∧ Hid (Below w.heap.size w wr)) (fun _ wr => t.size - wr.iterPos w.heap.size)
  case atStart => exact ⟨0, 0, by omega, rfl, .inl ⟨rfl, rfl⟩, hid (Itr.new w t), hid (below_iter (Below.refl _ _) (Nat.le_refl _) _ _)⟩
  case round =>
    obtain ⟨p, x, hp, rfl, hm, HI, HL⟩ := hrel
    have hip : wr.iterPos w.heap.size = p := by have := HI.out; unfold Itr at this; simp [World.iterPos, this]
    have Hip := hid hip
    clear hip
    by_cases hlt : p < t.size
    · have hn := fun ty => Lib.run_next_any_at (P := Try.prog) wr (w.heap.size) t p ty HI.out hlt
      have hw := decode_w t p hlt
      have hw2 := decode_le' t p hlt
      obtain ⟨c, hc⟩ : ∃ c : Nat, c = (Utf8.decode t p).1 := ⟨_, rfl⟩
      obtain ⟨q, hq⟩ : ∃ q : Nat, q = p + (Utf8.decode t p).2 := ⟨_, rfl⟩
      rw [← hc, ← hq] at hn
      rw [← hq] at hw2
      have hpq : p < q := by omega
      have HI2 := hid (HI.out.at_ q)
      have HL2 := hid (Lib.below_iterAt HL.out (Nat.le_refl _) t q)
      have hsz : (wr.iterAt w.heap.size t q).heap.size = wr.heap.size := Lib.iterAt_size _ _ _ _
      have hsz2 : w.heap.size < (wr.iterAt w.heap.size t q).heap.size := by rw [hsz]; exact HI.out.lt
      clear HI HL hsz
      rcases hm with ⟨rfl, rfl⟩ | ⟨hp0, hs0, hpp, rfl⟩
      · have HC := hid hc
        have HQ := hid (show q = (Utf8.decode t 0).2 by omega)
        clear hc hq hw
        by_cases ha : amongFrom (c : Int) lettersL 0 = 0
        · have b := beq_t ha
          have HM := hid (manOf_eq ha)
          have HA := hid ha
          clear ha
          go_wp2_with fail
          refine (LL.out _ _).mono ?_
          rintro e w2 ⟨rfl, hb2⟩
          go_wp2_with fail
          refine (LS.out _ _).mono ?_
          rintro e w3 ⟨rfl, hb3⟩
          have hb := hb2.trans (hb3.mono hb2.size)
          go_wp2_with fail
          go_roundw
          case rel =>
            refine ⟨q, _, hw2, rfl, .inr ⟨by omega, by omega, HQ, ?_⟩, hid (HI2.out.below hb hsz2), hid (HL2.out.trans (hb.mono HL2.out.size))⟩
            rw [← HC.out, HM.out]
          case measure =>
            have e1 : w3.iterPos w.heap.size = q := by have := HI2.out.below hb hsz2; unfold Itr at this; simp [World.iterPos, this]
            rw [e1, Hip.out]; omega
        · have b := beq_f ha
          have HM := hid (manOf_eq' ha)
          clear ha
          go_wp2_with fail
          refine (LL.out _ _).mono ?_
          rintro e w2 ⟨rfl, hb⟩
          go_wp2_with fail
          go_roundw
          case rel =>
            refine ⟨q, _, hw2, rfl, .inr ⟨by omega, by omega, HQ, ?_⟩, hid (HI2.out.below hb hsz2), hid (HL2.out.trans (hb.mono HL2.out.size))⟩
            rw [← HC.out, HM.out]
          case measure =>
            have e1 : w2.iterPos w.heap.size = q := by have := HI2.out.below hb hsz2; unfold Itr at this; simp [World.iterPos, this]
            rw [e1, Hip.out]; omega
      · have HO := hid (show ofZ t = 0 by unfold ofZ; rw [if_neg (by omega), if_pos (by rw [← hpp.out]; omega)])
        clear hc hq hw
        go_wp2_with fail
        go_ret2
        exact ⟨rv_ib HO.out.symm (by rw [HO.out]; rfl), HL2.out⟩
    · have hn := fun ty => Lib.run_next_end_at (P := Try.prog) wr (w.heap.size) t p ty HI.out hlt
      rcases hm with ⟨rfl, rfl⟩ | ⟨hp0, hs0, hpp, rfl⟩
      · have HO := hid (show ofZ t = 0 by unfold ofZ; rw [if_pos (by omega)])
        clear hlt
        go_wp2_with fail
        go_ret2
        exact ⟨rv_ib HO.out.symm (by rw [HO.out]; rfl), HL.out⟩
      · have HO := hid (show ofZ t = manOfRune (Utf8.decode t 0).1 by unfold ofZ; rw [if_neg (by omega), if_neg (by rw [← hpp.out]; omega)])
        clear hlt
        go_wp2_with fail
        go_ret2
        exact ⟨rv_ib HO.out.symm (by rw [HO.out]), HL.out⟩
end Go.Proofs.Ytaipghemddjecaa
