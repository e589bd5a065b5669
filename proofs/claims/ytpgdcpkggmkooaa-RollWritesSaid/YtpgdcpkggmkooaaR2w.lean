/- The walks of rolls that are written. -/
import Derived.Test.YtpgdcpkggmkooaaProg
import Derived.Test.YtpgdcpkggmkooaaF4w
import Derived.Test.YtpgdcpkggmkooaaF5w
import Derived.Test.YtpgdcpkggmkooaaR1w
import Derived.Test.YtpgdcpkggmkooaaSq
namespace Go.Proofs.Ytpgdcpkggmkooaa
open Go.RowKit
set_option linter.unusedVariables false
set_option linter.unusedSimpArgs false

/-! i_square_Right: function 52 -/
def i_square_Right.f (a0 : Int) : Option (Bool) := if a0 ≥ 0 then (some (decide (a0 < 64))) else (some false)
set_option maxHeartbeats 40000000 in
set_option maxRecDepth 100000 in
theorem i_square_Right.calls (a0 : Int) (r1 : Bool) (w : World) (h : i_square_Right.f a0 = some r1) :
    Calls Try.prog 52 #[.int .i64 a0] w fun e w' => e = .returned (.bool r1) ∧ w = w' := by
 have H : (if a0 ≥ 0 then (some (decide (a0 < 64))) else (some false)) = some r1 := h
 clear h
 by_cases c1 : a0 ≥ 0
 ·
  rw [if_pos c1] at H
  have c1b0 : decide (0 ≤ a0) = true := decide_eq_true c1
  have hc1 := hid c1
  clear c1
  obtain rfl := Option.some.inj H
  clear H
  go_enter Try.func52, Try.ntmps52
  go_wp2_with fail
  (try simp only [Act.put, List.setIfInBounds_toArray, List.set_cons_zero, List.set_cons_succ])
  go_ret
  exact ⟨by first | rfl | (simp; done) | (simp [*]; done), rfl⟩
 ·
  rw [if_neg c1] at H
  have c1b0 : decide (0 ≤ a0) = false := decide_eq_false c1
  have hc1 := hid c1
  clear c1
  obtain rfl := Option.some.inj H
  clear H
  go_enter Try.func52, Try.ntmps52
  go_wp2_with fail
  (try simp only [Act.put, List.setIfInBounds_toArray, List.set_cons_zero, List.set_cons_succ])
  go_ret
  exact ⟨by first | rfl | (simp; done) | (simp [*]; done), rfl⟩
/-! i_roll_half: function 66 -/
mutual
def i_roll_half.l0 : Nat → List Int → Int → ByteArray → Int → Option (ByteArray)
  | 0, _, _, _, _ => none
  | k + 1, a0, a1, x5_0, x6_0 => if x6_0 ≥ 1 then ((i_men_Make.f x6_0 a1).bind fun t6 => ((i_board_Where.f k a0 t6).bind fun t7 => (i_roll_half.l1 k a0 a1 x6_0 t7 x5_0 0))) else (some x5_0)
def i_roll_half.l1 : Nat → List Int → Int → Int → List Int → ByteArray → Int → Option (ByteArray)
  | 0, _, _, _, _, _, _ => none
  | k + 1, a0, a1, x6_0, t7, x5_1, x19_1 => if x19_1 < (t7.length : Int) then (if 0 ≤ x19_1 then (if 1 + (letterB x6_0).size ≤ 9223372036854775807 then (if ((⟨#[32]⟩ : ByteArray) ++ (letterB x6_0)).size + (nameB (nt t7 x19_1.toNat 0)).size ≤ 9223372036854775807 then (if x5_1.size + (((⟨#[32]⟩ : ByteArray) ++ (letterB x6_0)) ++ (nameB (nt t7 x19_1.toNat 0))).size ≤ 9223372036854775807 then (i_roll_half.l1 k a0 a1 x6_0 t7 (x5_1 ++ (((⟨#[32]⟩ : ByteArray) ++ (letterB x6_0)) ++ (nameB (nt t7 x19_1.toNat 0)))) (wrap64 (x19_1 + 1))) else (none)) else (none)) else (none)) else (none)) else (i_roll_half.l0 k a0 a1 x5_1 (wrap64 (x6_0 - 1)))
end
def i_roll_half.f (k : Nat) (a0 : List Int) (a1 : Int) : Option (ByteArray) := i_roll_half.l0 k a0 a1 (⟨#[]⟩ : ByteArray) 6
set_option maxHeartbeats 40000000 in
set_option maxRecDepth 100000 in
theorem i_roll_half.calls (k : Nat) (a0 : List Int) (a1 : Int) (hla0 : a0.length = 64) (r1 : ByteArray) (w : World) (h : i_roll_half.f k a0 a1 = some r1) :
    Calls Try.prog 66 #[.agg (bv a0), .int .i64 a1] w fun e w' => e = .returned (.string r1) ∧ Below w.heap.size w w' := by
 have LN_a0 := hid hla0
 clear hla0
 have HL := hid (Below.refl w.heap.size w)
 have H : (i_roll_half.l0 k a0 a1 (⟨#[]⟩ : ByteArray) 6) = some r1 := h
 clear h
 have H' := hid H
 clear H
 go_enter Try.func66, Try.ntmps66
 go_wp2_with (first
  | ((with_reducible refine gate_d (N := 2) rfl ?_); obtain ⟨gb1, hgb1⟩ : ∃ g_, w.heap.size = g_ := ⟨_, rfl⟩; refine ag_box (bv a0) gb1 hgb1 rfl _ rfl rfl ?_; intro w10 hb_ hB_ hs_; have GEb1 : Hid (w.heap.size ≤ gb1) := hid (by have := HL.out.size; omega); replace HL := hid (HL.out.trans (hb_.mono GEb1.out)); have BKb1 := hid hB_; clear hb_ hB_ hs_ hgb1))
 (try simp only [Act.put, List.setIfInBounds_toArray, List.set_cons_zero, List.set_cons_succ])
 go_loopg [5, 6] k (fun kq v5 v6 w' => ∃ (x5_0 : ByteArray) (x6_0 : Int), v5 = .string x5_0 ∧ v6 = .int .i64 x6_0 ∧ Hid (i_roll_half.l0 kq a0 a1 x5_0 x6_0 = some r1) ∧ Hid (kq ≤ k) ∧ Hid (Blk w' gb1 24 (bv a0)) ∧ Hid (Below w.heap.size w w'))
 case atStart => exact ⟨(⟨#[]⟩ : ByteArray), (6 : Int), (by first | rfl | (simp; done) | (simp [*]; done)), (by first | rfl | (simp; done) | (simp [*]; done)), H', (hid (by first | omega | (omega))), (hid (by exact BKb1.out)), HL⟩
 case round =>
  clear H'
  clear HL BKb1
  obtain ⟨x5_0, x6_0, rfl, rfl, HA, HK11, BKb1, HL⟩ := hrel
  cases gk with
  | zero => exact absurd HA.out (by simp [i_roll_half.l0])
  | succ k12 =>
   have H := HA.out
   clear HA
   simp only [i_roll_half.l0] at H
   by_cases c13 : x6_0 ≥ 1
   ·
    rw [if_pos c13] at H
    have c13b0 : decide (1 ≤ x6_0) = true := decide_eq_true c13
    have hc13 := hid c13
    clear c13
    replace H := Option.bind_eq_some_iff.mp H
    obtain ⟨t6, A14_, H⟩ := H
    replace H : ((i_board_Where.f k12 a0 t6).bind fun t7 => (i_roll_half.l1 k12 a0 a1 x6_0 t7 x5_0 0)) = some r1 := H
    have A14 := hid A14_
    clear A14_
    replace H := Option.bind_eq_some_iff.mp H
    obtain ⟨t7, A15_, H⟩ := H
    replace H : (i_roll_half.l1 k12 a0 a1 x6_0 t7 x5_0 0) = some r1 := H
    have A15 := hid A15_
    clear A15_
    have H' := hid H
    clear H
    go_wp2_with fail
    (try simp only [Act.put, List.setIfInBounds_toArray, List.set_cons_zero, List.set_cons_succ])
    have WR64 := i64_w
    have WR32 := i32_w
    have WR8 := u8_w
    have WRU := u32_w
    refine sq_region (fun w'_ => Below w.heap.size w w'_ ∧ Blk w'_ gb1 24 (bv a0) ∧ True) [4] [(0, 1), (1, 2), (2, 2), (6, 2), (3, 0), (4, 0), (5, 2)] (by kernel_rfl) (by kernel_rfl) (by kernel_rfl) rfl ?_
    intro w16 hb_
    replace BKb1 := hid (BKb1.out.below hb_ BKb1.out.lt)
    replace HL := hid (HL.out.trans (hb_.mono HL.out.size))
    clear hb_
    refine sq_take (.agg (bv a0)) ⟨HL.out, BKb1.out, trivial⟩ rfl (fun w'_ hS_ => ex_load boardT gb1 0 (bv a0) (bv a0) hS_.2.1 (av_le (by first | rfl | (simp only [List.length_set, List.length_replicate, zL_len, List.length_cons, List.length_nil, LN_a0.out]; done) | (simp [zL_len, LN_a0.out]; done))) (av_ex (by first | rfl | (simp only [List.length_set, List.length_replicate, zL_len, List.length_cons, List.length_nil, LN_a0.out]; done) | (simp [zL_len, LN_a0.out]; done))) _ rfl rfl) rfl rfl ?_
    intro ts_ ht_; simp only [List.setIfInBounds_toArray, List.set_cons_zero, List.set_cons_succ] at ht_; subst ht_
    refine sq_pure (.int .i64 x6_0) rfl (fun w'_ => ex_mv (.tmp 6) (.inl rfl) _ rfl) rfl rfl ?_
    intro ts_ ht_; simp only [List.setIfInBounds_toArray, List.set_cons_zero, List.set_cons_succ] at ht_; subst ht_
    refine sq_pure (.int .i64 a1) rfl (fun w'_ => ex_mv (.tmp 1) (.inl rfl) _ rfl) rfl rfl ?_
    intro ts_ ht_; simp only [List.setIfInBounds_toArray, List.set_cons_zero, List.set_cons_succ] at ht_; subst ht_
    refine sq_pure (.int .i64 0) rfl (fun w'_ => ex_mv _ (.inl rfl) _ rfl) rfl rfl ?_
    intro ts_ ht_; simp only [List.setIfInBounds_toArray, List.set_cons_zero, List.set_cons_succ] at ht_; subst ht_
    refine sq_act rfl (fun Q'_ hQ_ => ?_)
    refine wl_call 57 #[.int .i64 x6_0, .int .i64 a1] (by go_simp) rfl ((i_men_Make.calls x6_0 a1 t6 _ A14.out).mono ?_)
    rintro e_ w' ⟨rfl, rfl⟩
    refine ⟨_, rfl, ?_⟩
    refine hQ_ _ _ (fun _ => ⟨HL.out, BKb1.out, trivial⟩) ?_
    clear hQ_ Q'_
    simp only [Act.put, List.setIfInBounds_toArray, List.set_cons_zero, List.set_cons_succ]
    refine sq_act rfl (fun Q'_ hQ_ => ?_)
    refine wl_call 29 #[.agg (bv a0), .int .i64 t6] (by go_simp) rfl ((i_board_Where.calls k12 a0 t6 (by first | rfl | (simp only [List.length_set, List.length_replicate, zL_len, List.length_cons, List.length_nil, LN_a0.out]; done) | (simp [zL_len, LN_a0.out]; done)) t7 _ A15.out).mono ?_)
    rintro e_ w19 ⟨ut7, rfl, so_t7, hb_⟩
    replace so_t7 := so_t7.mono HL.out.size
    have SWn_t7 := hid so_t7
    clear so_t7
    replace BKb1 := hid (BKb1.out.below hb_ BKb1.out.lt)
    replace HL := hid (HL.out.trans (hb_.mono HL.out.size))
    clear hb_
    have SWt7 := SWn_t7
    clear SWn_t7
    refine ⟨_, rfl, ?_⟩
    refine hQ_ _ _ (fun h_ => absurd h_ (by decide)) ?_
    clear hQ_ Q'_
    simp only [Act.put, List.setIfInBounds_toArray, List.set_cons_zero, List.set_cons_succ]
    obtain ⟨A_18, c_18, hv_18⟩ := SWt7.out.sl.shape
    rw [List.length_map] at hv_18
    have HV_18 := hid hv_18
    clear hv_18
    refine sq_pure (.int .i64 (t7.length : Int)) rfl (fun w'_ => ex_len us43 _ _ _ _ HV_18.out _ rfl rfl) rfl rfl ?_
    intro ts_ ht_; simp only [List.setIfInBounds_toArray, List.set_cons_zero, List.set_cons_succ] at ht_; subst ht_
    refine sq_end ?_
    clear WR64 WR32 WR8 WRU
    go_wp2_with fail
    (try simp only [Act.put, List.setIfInBounds_toArray, List.set_cons_zero, List.set_cons_succ])
    go_loopg [5, 19] k12 (fun kq v5 v19 w' => ∃ (x5_1 : ByteArray) (x19_1 : Int), v5 = .string x5_1 ∧ v19 = .int .i64 x19_1 ∧ Hid (i_roll_half.l1 kq a0 a1 x6_0 t7 x5_1 x19_1 = some r1) ∧ Hid (kq ≤ k12) ∧ Hid (Blk w' gb1 24 (bv a0)) ∧ Hid (Own w' w.heap.size 3 (ut7) (t7.map (Value.int .i64))) ∧ Hid (Below w.heap.size w w'))
    case atStart => exact ⟨x5_0, (0 : Int), (by first | rfl | (simp; done) | (simp [*]; done)), (by first | rfl | (simp; done) | (simp [*]; done)), H', (hid (by first | omega | (have := HK11.out; omega))), (hid (by exact BKb1.out)), SWt7, HL⟩
    case round =>
     clear H'
     clear HL BKb1 SWt7
     obtain ⟨x5_1, x19_1, rfl, rfl, HA, HK20, BKb1, SWt7, HL⟩ := hrel
     cases gk with
     | zero => exact absurd HA.out (by simp [i_roll_half.l1])
     | succ k21 =>
      have H := HA.out
      clear HA
      simp only [i_roll_half.l1] at H
      by_cases c22 : x19_1 < (t7.length : Int)
      ·
       rw [if_pos c22] at H
       have c22b0 : decide (x19_1 < (t7.length : Int)) = true := decide_eq_true c22
       have hc22 := hid c22
       clear c22
       by_cases c23 : 0 ≤ x19_1
       ·
        rw [if_pos c23] at H
        have c23b0 : decide (0 ≤ x19_1) = true := decide_eq_true c23
        have hc23 := hid c23
        clear c23
        by_cases c24 : 1 + (letterB x6_0).size ≤ 9223372036854775807
        ·
         rw [if_pos c24] at H
         have c24b0 : decide (1 + (letterB x6_0).size ≤ 9223372036854775807) = true := decide_eq_true c24
         have hc24 := hid c24
         clear c24
         by_cases c25 : ((⟨#[32]⟩ : ByteArray) ++ (letterB x6_0)).size + (nameB (nt t7 x19_1.toNat 0)).size ≤ 9223372036854775807
         ·
          rw [if_pos c25] at H
          have hc25 := hid c25
          clear c25
          by_cases c26 : x5_1.size + (((⟨#[32]⟩ : ByteArray) ++ (letterB x6_0)) ++ (nameB (nt t7 x19_1.toNat 0))).size ≤ 9223372036854775807
          ·
           rw [if_pos c26] at H
           have hc26 := hid c26
           clear c26
           have H' := hid H
           clear H
           have k29 := True.intro
           have k31 := True.intro
           go_wp2_with (first
            | ((with_reducible refine gate_d (N := 21) rfl ?_); obtain ⟨ad9, c27, hv28, HCad9_⟩ := Sl.get (l := t7) (f := (Value.int .i64)) SWt7.out.sl 0 (i := x19_1) hc23.out hc22.out; have HCad9 := hid HCad9_; clear HCad9_; refine ag_fix (.pointer (some (ad9.add x19_1.toNat))) (ex_sat _ _ x19_1 _ _ hv28 hc23.out hc22.out us43 sT3 _ _ rfl rfl rfl) rfl ?_; clear hv28)
            | ((with_reducible refine gate_d (N := 22) rfl ?_); refine ag_fix (.int .i64 (nt t7 x19_1.toNat 0)) (ex_scell sT3 _ _ HCad9.out _ rfl rfl) rfl ?_)
            | (go_at_call 77; clear k29; refine (mnLetter x6_0 _).mono ?_; rintro e_ w30 ⟨rfl, hb_⟩; replace BKb1 := hid (BKb1.out.below hb_ BKb1.out.lt); replace SWt7 := hid (SWt7.out.below hb_); replace HL := hid (HL.out.trans (hb_.mono HL.out.size)); clear hb_)
            | ((with_reducible refine gate_d (N := 26) rfl ?_); refine ag_fix (.string ((⟨#[32]⟩ : ByteArray) ++ (letterB x6_0))) (ex_cat 9 (⟨#[32]⟩ : ByteArray) (letterB x6_0) hc24.out _ _ _ rfl rfl rfl) rfl ?_)
            | (go_at_call 81; clear k31; refine (sqName (nt t7 x19_1.toNat 0) _).mono ?_; rintro e_ w32 ⟨rfl, hb_⟩; replace BKb1 := hid (BKb1.out.below hb_ BKb1.out.lt); replace SWt7 := hid (SWt7.out.below hb_); replace HL := hid (HL.out.trans (hb_.mono HL.out.size)); clear hb_)
            | ((with_reducible refine gate_d (N := 29) rfl ?_); refine ag_fix (.string (((⟨#[32]⟩ : ByteArray) ++ (letterB x6_0)) ++ (nameB (nt t7 x19_1.toNat 0)))) (ex_cat 9 ((⟨#[32]⟩ : ByteArray) ++ (letterB x6_0)) (nameB (nt t7 x19_1.toNat 0)) hc25.out _ _ _ rfl rfl rfl) rfl ?_)
            | ((with_reducible refine gate_d (N := 30) rfl ?_); refine ag_fix (.string (x5_1 ++ (((⟨#[32]⟩ : ByteArray) ++ (letterB x6_0)) ++ (nameB (nt t7 x19_1.toNat 0))))) (ex_cat 9 x5_1 (((⟨#[32]⟩ : ByteArray) ++ (letterB x6_0)) ++ (nameB (nt t7 x19_1.toNat 0))) hc26.out _ _ _ rfl rfl rfl) rfl ?_))
           (try simp only [Act.put, List.setIfInBounds_toArray, List.set_cons_zero, List.set_cons_succ])
           go_roundg k21
           case measure => have := HK11.out; have := HK20.out; omega
           case rel => exact ⟨x5_1 ++ (((⟨#[32]⟩ : ByteArray) ++ (letterB x6_0)) ++ (nameB (nt t7 x19_1.toNat 0))), wrap64 (x19_1 + 1), (by first | rfl | (simp; done) | (simp [*]; done)), (by first | rfl | (simp; done) | (simp [*]; done)), H', (hid (by first | omega | (have := HK11.out; have := HK20.out; omega))), (hid (by exact BKb1.out)), SWt7, HL⟩
          ·
           rw [if_neg c26] at H
           exact absurd H (by simp)
         ·
          rw [if_neg c25] at H
          exact absurd H (by simp)
        ·
         rw [if_neg c24] at H
         exact absurd H (by simp)
       ·
        rw [if_neg c23] at H
        exact absurd H (by simp)
      ·
       rw [if_neg c22] at H
       have c22b0 : decide (x19_1 < (t7.length : Int)) = false := decide_eq_false c22
       have hc22 := hid c22
       clear c22
       have H' := hid H
       clear H
       go_wp2_with fail
       (try simp only [Act.put, List.setIfInBounds_toArray, List.set_cons_zero, List.set_cons_succ])
       go_roundg k21
       case measure => have := HK11.out; have := HK20.out; omega
       case rel => exact ⟨x5_1, wrap64 (x6_0 - 1), (by first | rfl | (simp; done) | (simp [*]; done)), (by first | rfl | (simp; done) | (simp [*]; done)), H', (hid (by first | omega | (have := HK11.out; have := HK20.out; omega))), (hid (by exact BKb1.out)), HL⟩
   ·
    rw [if_neg c13] at H
    have c13b0 : decide (1 ≤ x6_0) = false := decide_eq_false c13
    have hc13 := hid c13
    clear c13
    obtain rfl := Option.some.inj H
    clear H
    go_wp2_with fail
    (try simp only [Act.put, List.setIfInBounds_toArray, List.set_cons_zero, List.set_cons_succ])
    go_ret
    exact ⟨by first | rfl | (simp; done) | (simp [*]; done), HL.out⟩
/-! i_roll_Write: function 42 -/
def i_roll_Write.f (k : Nat) (a0 : List Int) : Option (ByteArray × Int) := (i_board_Right.f k a0).bind fun t2 => (if t2 = true then ((i_roll_half.f k a0 0).bind fun t3 => (if 5 + t3.size ≤ 9223372036854775807 then (if ((⟨#[119, 104, 105, 116, 101]⟩ : ByteArray) ++ t3).size + 1 ≤ 9223372036854775807 then (if (((⟨#[119, 104, 105, 116, 101]⟩ : ByteArray) ++ t3) ++ (⟨#[32]⟩ : ByteArray)).size + 5 ≤ 9223372036854775807 then ((i_roll_half.f k a0 1).bind fun t4 => (if ((((⟨#[119, 104, 105, 116, 101]⟩ : ByteArray) ++ t3) ++ (⟨#[32]⟩ : ByteArray)) ++ (⟨#[98, 108, 97, 99, 107]⟩ : ByteArray)).size + t4.size ≤ 9223372036854775807 then (some (((((⟨#[119, 104, 105, 116, 101]⟩ : ByteArray) ++ t3) ++ (⟨#[32]⟩ : ByteArray)) ++ (⟨#[98, 108, 97, 99, 107]⟩ : ByteArray)) ++ t4, 0)) else (none))) else (none)) else (none)) else (none))) else (some ((⟨#[]⟩ : ByteArray), 5)))
set_option maxHeartbeats 40000000 in
set_option maxRecDepth 100000 in
theorem i_roll_Write.calls (k : Nat) (a0 : List Int) (hla0 : a0.length = 64) (r1 : ByteArray) (r2 : Int) (w : World) (h : i_roll_Write.f k a0 = some (r1, r2)) :
    Calls Try.prog 42 #[.agg (bv a0)] w fun e w' => e = .returned (.tuple #[.string r1, .int .i64 r2]) ∧ Below w.heap.size w w' := by
 have LN_a0 := hid hla0
 clear hla0
 have HL := hid (Below.refl w.heap.size w)
 have H : ((i_board_Right.f k a0).bind fun t2 => (if t2 = true then ((i_roll_half.f k a0 0).bind fun t3 => (if 5 + t3.size ≤ 9223372036854775807 then (if ((⟨#[119, 104, 105, 116, 101]⟩ : ByteArray) ++ t3).size + 1 ≤ 9223372036854775807 then (if (((⟨#[119, 104, 105, 116, 101]⟩ : ByteArray) ++ t3) ++ (⟨#[32]⟩ : ByteArray)).size + 5 ≤ 9223372036854775807 then ((i_roll_half.f k a0 1).bind fun t4 => (if ((((⟨#[119, 104, 105, 116, 101]⟩ : ByteArray) ++ t3) ++ (⟨#[32]⟩ : ByteArray)) ++ (⟨#[98, 108, 97, 99, 107]⟩ : ByteArray)).size + t4.size ≤ 9223372036854775807 then (some (((((⟨#[119, 104, 105, 116, 101]⟩ : ByteArray) ++ t3) ++ (⟨#[32]⟩ : ByteArray)) ++ (⟨#[98, 108, 97, 99, 107]⟩ : ByteArray)) ++ t4, 0)) else (none))) else (none)) else (none)) else (none))) else (some ((⟨#[]⟩ : ByteArray), 5)))) = some (r1, r2) := h
 clear h
 replace H := Option.bind_eq_some_iff.mp H
 obtain ⟨t2, A5_, H⟩ := H
 replace H : (if t2 = true then ((i_roll_half.f k a0 0).bind fun t3 => (if 5 + t3.size ≤ 9223372036854775807 then (if ((⟨#[119, 104, 105, 116, 101]⟩ : ByteArray) ++ t3).size + 1 ≤ 9223372036854775807 then (if (((⟨#[119, 104, 105, 116, 101]⟩ : ByteArray) ++ t3) ++ (⟨#[32]⟩ : ByteArray)).size + 5 ≤ 9223372036854775807 then ((i_roll_half.f k a0 1).bind fun t4 => (if ((((⟨#[119, 104, 105, 116, 101]⟩ : ByteArray) ++ t3) ++ (⟨#[32]⟩ : ByteArray)) ++ (⟨#[98, 108, 97, 99, 107]⟩ : ByteArray)).size + t4.size ≤ 9223372036854775807 then (some (((((⟨#[119, 104, 105, 116, 101]⟩ : ByteArray) ++ t3) ++ (⟨#[32]⟩ : ByteArray)) ++ (⟨#[98, 108, 97, 99, 107]⟩ : ByteArray)) ++ t4, 0)) else (none))) else (none)) else (none)) else (none))) else (some ((⟨#[]⟩ : ByteArray), 5))) = some (r1, r2) := H
 have A5 := hid A5_
 clear A5_
 cases t2 with
 | true =>
  rw [if_pos rfl] at H
  replace H := Option.bind_eq_some_iff.mp H
  obtain ⟨t3, A7_, H⟩ := H
  replace H : (if 5 + t3.size ≤ 9223372036854775807 then (if ((⟨#[119, 104, 105, 116, 101]⟩ : ByteArray) ++ t3).size + 1 ≤ 9223372036854775807 then (if (((⟨#[119, 104, 105, 116, 101]⟩ : ByteArray) ++ t3) ++ (⟨#[32]⟩ : ByteArray)).size + 5 ≤ 9223372036854775807 then ((i_roll_half.f k a0 1).bind fun t4 => (if ((((⟨#[119, 104, 105, 116, 101]⟩ : ByteArray) ++ t3) ++ (⟨#[32]⟩ : ByteArray)) ++ (⟨#[98, 108, 97, 99, 107]⟩ : ByteArray)).size + t4.size ≤ 9223372036854775807 then (some (((((⟨#[119, 104, 105, 116, 101]⟩ : ByteArray) ++ t3) ++ (⟨#[32]⟩ : ByteArray)) ++ (⟨#[98, 108, 97, 99, 107]⟩ : ByteArray)) ++ t4, 0)) else (none))) else (none)) else (none)) else (none)) = some (r1, r2) := H
  have A7 := hid A7_
  clear A7_
  by_cases c8 : 5 + t3.size ≤ 9223372036854775807
  ·
   rw [if_pos c8] at H
   have c8b0 : decide (5 + t3.size ≤ 9223372036854775807) = true := decide_eq_true c8
   have hc8 := hid c8
   clear c8
   by_cases c9 : ((⟨#[119, 104, 105, 116, 101]⟩ : ByteArray) ++ t3).size + 1 ≤ 9223372036854775807
   ·
    rw [if_pos c9] at H
    have hc9 := hid c9
    clear c9
    by_cases c10 : (((⟨#[119, 104, 105, 116, 101]⟩ : ByteArray) ++ t3) ++ (⟨#[32]⟩ : ByteArray)).size + 5 ≤ 9223372036854775807
    ·
     rw [if_pos c10] at H
     have hc10 := hid c10
     clear c10
     replace H := Option.bind_eq_some_iff.mp H
     obtain ⟨t4, A11_, H⟩ := H
     replace H : (if ((((⟨#[119, 104, 105, 116, 101]⟩ : ByteArray) ++ t3) ++ (⟨#[32]⟩ : ByteArray)) ++ (⟨#[98, 108, 97, 99, 107]⟩ : ByteArray)).size + t4.size ≤ 9223372036854775807 then (some (((((⟨#[119, 104, 105, 116, 101]⟩ : ByteArray) ++ t3) ++ (⟨#[32]⟩ : ByteArray)) ++ (⟨#[98, 108, 97, 99, 107]⟩ : ByteArray)) ++ t4, 0)) else (none)) = some (r1, r2) := H
     have A11 := hid A11_
     clear A11_
     by_cases c12 : ((((⟨#[119, 104, 105, 116, 101]⟩ : ByteArray) ++ t3) ++ (⟨#[32]⟩ : ByteArray)) ++ (⟨#[98, 108, 97, 99, 107]⟩ : ByteArray)).size + t4.size ≤ 9223372036854775807
     ·
      rw [if_pos c12] at H
      have hc12 := hid c12
      clear c12
      simp only [Option.some.injEq, Prod.mk.injEq] at H
      obtain ⟨rfl, rfl⟩ := H
      go_enter Try.func42, Try.ntmps42
      have k14 := True.intro
      go_wp2_with (first
       | ((with_reducible refine gate_d (N := 1) rfl ?_); obtain ⟨gb1, hgb1⟩ : ∃ g_, w.heap.size = g_ := ⟨_, rfl⟩; refine ag_box (bv a0) gb1 hgb1 rfl _ rfl rfl ?_; intro w13 hb_ hB_ hs_; have GEb1 : Hid (w.heap.size ≤ gb1) := hid (by have := HL.out.size; omega); replace HL := hid (HL.out.trans (hb_.mono GEb1.out)); have BKb1 := hid hB_; clear hb_ hB_ hs_ hgb1)
       | ((with_reducible refine gate_d (N := 4) rfl ?_); refine ag_fix (.agg (bv a0)) (ex_load boardT gb1 0 (bv a0) (bv a0) BKb1.out (av_le (by first | rfl | (simp only [List.length_set, List.length_replicate, zL_len, List.length_cons, List.length_nil, LN_a0.out]; done) | (simp [zL_len, LN_a0.out]; done))) (av_ex (by first | rfl | (simp only [List.length_set, List.length_replicate, zL_len, List.length_cons, List.length_nil, LN_a0.out]; done) | (simp [zL_len, LN_a0.out]; done))) _ rfl rfl) rfl ?_)
       | (go_at_call 19; clear k14; refine (i_board_Right.calls k a0 (by first | rfl | (simp only [List.length_set, List.length_replicate, zL_len, List.length_cons, List.length_nil, LN_a0.out]; done) | (simp [zL_len, LN_a0.out]; done)) true _ A5.out).mono ?_; rintro e_ w15 ⟨rfl, hb_⟩; replace BKb1 := hid (BKb1.out.below hb_ BKb1.out.lt); replace HL := hid (HL.out.trans (hb_.mono HL.out.size)); clear hb_))
      (try simp only [Act.put, List.setIfInBounds_toArray, List.set_cons_zero, List.set_cons_succ])
      have WR64 := i64_w
      have WR32 := i32_w
      refine up_regionW (by kernel_rfl) (by kernel_rfl) ?_
      refine q_do (.agg (bv a0)) (fun w'_ hc_ => by obtain ⟨n_, hn_⟩ := hc_; exact ex_load boardT gb1 0 (bv a0) (bv a0) (by rw [hn_]; exact BKb1.out.below n_.below BKb1.out.lt) (av_le (by first | rfl | (simp only [List.length_set, List.length_replicate, zL_len, List.length_cons, List.length_nil, LN_a0.out]; done) | (simp [zL_len, LN_a0.out]; done))) (av_ex (by first | rfl | (simp only [List.length_set, List.length_replicate, zL_len, List.length_cons, List.length_nil, LN_a0.out]; done) | (simp [zL_len, LN_a0.out]; done))) _ rfl rfl) rfl rfl ?_
      intro ts_ ht_; simp only [List.setIfInBounds_toArray, List.set_cons_zero, List.set_cons_succ] at ht_; subst ht_
      refine q_call (.string t3) 66 #[.agg (bv a0), .int .i64 0] (fun w'_ => by go_simp) (fun w'_ hc_ => (i_roll_half.calls k a0 0 (by first | rfl | (simp only [List.length_set, List.length_replicate, zL_len, List.length_cons, List.length_nil, LN_a0.out]; done) | (simp [zL_len, LN_a0.out]; done)) t3 _ A7.out).mono fun e_ w2_ h_ => ⟨h_.1, up_below hc_ h_.2⟩) rfl rfl ?_
      intro ts_ ht_; simp only [List.setIfInBounds_toArray, List.set_cons_zero, List.set_cons_succ] at ht_; subst ht_
      refine q_do (.string ((⟨#[119, 104, 105, 116, 101]⟩ : ByteArray) ++ t3)) (fun w'_ hc_ => by obtain ⟨n_, hn_⟩ := hc_; exact ex_cat 9 (⟨#[119, 104, 105, 116, 101]⟩ : ByteArray) t3 hc8.out _ _ _ rfl rfl rfl) rfl rfl ?_
      intro ts_ ht_; simp only [List.setIfInBounds_toArray, List.set_cons_zero, List.set_cons_succ] at ht_; subst ht_
      refine q_do (.string (((⟨#[119, 104, 105, 116, 101]⟩ : ByteArray) ++ t3) ++ (⟨#[32]⟩ : ByteArray))) (fun w'_ hc_ => by obtain ⟨n_, hn_⟩ := hc_; exact ex_cat 9 ((⟨#[119, 104, 105, 116, 101]⟩ : ByteArray) ++ t3) (⟨#[32]⟩ : ByteArray) hc9.out _ _ _ rfl rfl rfl) rfl rfl ?_
      intro ts_ ht_; simp only [List.setIfInBounds_toArray, List.set_cons_zero, List.set_cons_succ] at ht_; subst ht_
      refine q_do (.string ((((⟨#[119, 104, 105, 116, 101]⟩ : ByteArray) ++ t3) ++ (⟨#[32]⟩ : ByteArray)) ++ (⟨#[98, 108, 97, 99, 107]⟩ : ByteArray))) (fun w'_ hc_ => by obtain ⟨n_, hn_⟩ := hc_; exact ex_cat 9 (((⟨#[119, 104, 105, 116, 101]⟩ : ByteArray) ++ t3) ++ (⟨#[32]⟩ : ByteArray)) (⟨#[98, 108, 97, 99, 107]⟩ : ByteArray) hc10.out _ _ _ rfl rfl rfl) rfl rfl ?_
      intro ts_ ht_; simp only [List.setIfInBounds_toArray, List.set_cons_zero, List.set_cons_succ] at ht_; subst ht_
      refine q_do (.agg (bv a0)) (fun w'_ hc_ => by obtain ⟨n_, hn_⟩ := hc_; exact ex_load boardT gb1 0 (bv a0) (bv a0) (by rw [hn_]; exact BKb1.out.below n_.below BKb1.out.lt) (av_le (by first | rfl | (simp only [List.length_set, List.length_replicate, zL_len, List.length_cons, List.length_nil, LN_a0.out]; done) | (simp [zL_len, LN_a0.out]; done))) (av_ex (by first | rfl | (simp only [List.length_set, List.length_replicate, zL_len, List.length_cons, List.length_nil, LN_a0.out]; done) | (simp [zL_len, LN_a0.out]; done))) _ rfl rfl) rfl rfl ?_
      intro ts_ ht_; simp only [List.setIfInBounds_toArray, List.set_cons_zero, List.set_cons_succ] at ht_; subst ht_
      refine q_call (.string t4) 66 #[.agg (bv a0), .int .i64 1] (fun w'_ => by go_simp) (fun w'_ hc_ => (i_roll_half.calls k a0 1 (by first | rfl | (simp only [List.length_set, List.length_replicate, zL_len, List.length_cons, List.length_nil, LN_a0.out]; done) | (simp [zL_len, LN_a0.out]; done)) t4 _ A11.out).mono fun e_ w2_ h_ => ⟨h_.1, up_below hc_ h_.2⟩) rfl rfl ?_
      intro ts_ ht_; simp only [List.setIfInBounds_toArray, List.set_cons_zero, List.set_cons_succ] at ht_; subst ht_
      refine q_do (.string (((((⟨#[119, 104, 105, 116, 101]⟩ : ByteArray) ++ t3) ++ (⟨#[32]⟩ : ByteArray)) ++ (⟨#[98, 108, 97, 99, 107]⟩ : ByteArray)) ++ t4)) (fun w'_ hc_ => by obtain ⟨n_, hn_⟩ := hc_; exact ex_cat 9 ((((⟨#[119, 104, 105, 116, 101]⟩ : ByteArray) ++ t3) ++ (⟨#[32]⟩ : ByteArray)) ++ (⟨#[98, 108, 97, 99, 107]⟩ : ByteArray)) t4 hc12.out _ _ _ rfl rfl rfl) rfl rfl ?_
      intro ts_ ht_; simp only [List.setIfInBounds_toArray, List.set_cons_zero, List.set_cons_succ] at ht_; subst ht_
      refine q_do (.string (((((⟨#[119, 104, 105, 116, 101]⟩ : ByteArray) ++ t3) ++ (⟨#[32]⟩ : ByteArray)) ++ (⟨#[98, 108, 97, 99, 107]⟩ : ByteArray)) ++ t4)) (fun w'_ hc_ => ex_mv (.tmp 14) (.inr rfl) _ rfl) rfl rfl ?_
      intro ts_ ht_; simp only [List.setIfInBounds_toArray, List.set_cons_zero, List.set_cons_succ] at ht_; subst ht_
      refine q_do (.int .i64 0) (fun w'_ hc_ => ex_mv _ (.inr rfl) _ rfl) rfl rfl ?_
      intro ts_ ht_; simp only [List.setIfInBounds_toArray, List.set_cons_zero, List.set_cons_succ] at ht_; subst ht_
      refine q_end ?_
      rintro w8_ ⟨n_, rfl⟩
      replace BKb1 := hid (BKb1.out.below n_.below BKb1.out.lt)
      replace HL := hid (HL.out.trans (n_.below.mono HL.out.size))
      generalize n_.world = w16 at *
      clear n_ WR64 WR32
      go_wp2_with fail
      (try simp only [Act.put, List.setIfInBounds_toArray, List.set_cons_zero, List.set_cons_succ])
      go_ret2
      exact ⟨by first | rfl | (simp; done) | (simp [*]; done), HL.out⟩
     ·
      rw [if_neg c12] at H
      exact absurd H (by simp)
    ·
     rw [if_neg c10] at H
     exact absurd H (by simp)
   ·
    rw [if_neg c9] at H
    exact absurd H (by simp)
  ·
   rw [if_neg c8] at H
   exact absurd H (by simp)
 | false =>
  rw [if_neg (show ¬ (false = true) by decide)] at H
  simp only [Option.some.injEq, Prod.mk.injEq] at H
  obtain ⟨rfl, rfl⟩ := H
  go_enter Try.func42, Try.ntmps42
  have k18 := True.intro
  go_wp2_with (first
   | ((with_reducible refine gate_d (N := 1) rfl ?_); obtain ⟨gb1, hgb1⟩ : ∃ g_, w.heap.size = g_ := ⟨_, rfl⟩; refine ag_box (bv a0) gb1 hgb1 rfl _ rfl rfl ?_; intro w17 hb_ hB_ hs_; have GEb1 : Hid (w.heap.size ≤ gb1) := hid (by have := HL.out.size; omega); replace HL := hid (HL.out.trans (hb_.mono GEb1.out)); have BKb1 := hid hB_; clear hb_ hB_ hs_ hgb1)
   | ((with_reducible refine gate_d (N := 4) rfl ?_); refine ag_fix (.agg (bv a0)) (ex_load boardT gb1 0 (bv a0) (bv a0) BKb1.out (av_le (by first | rfl | (simp only [List.length_set, List.length_replicate, zL_len, List.length_cons, List.length_nil, LN_a0.out]; done) | (simp [zL_len, LN_a0.out]; done))) (av_ex (by first | rfl | (simp only [List.length_set, List.length_replicate, zL_len, List.length_cons, List.length_nil, LN_a0.out]; done) | (simp [zL_len, LN_a0.out]; done))) _ rfl rfl) rfl ?_)
   | (go_at_call 19; clear k18; refine (i_board_Right.calls k a0 (by first | rfl | (simp only [List.length_set, List.length_replicate, zL_len, List.length_cons, List.length_nil, LN_a0.out]; done) | (simp [zL_len, LN_a0.out]; done)) false _ A5.out).mono ?_; rintro e_ w19 ⟨rfl, hb_⟩; replace BKb1 := hid (BKb1.out.below hb_ BKb1.out.lt); replace HL := hid (HL.out.trans (hb_.mono HL.out.size)); clear hb_))
  (try simp only [Act.put, List.setIfInBounds_toArray, List.set_cons_zero, List.set_cons_succ])
  go_ret2
  exact ⟨by first | rfl | (simp; done) | (simp [*]; done), HL.out⟩
/-! i_alfilref01_Right: function 24 -/
def i_alfilref01_Right.f (a0 : Int) : Option (Bool) := if 0 ≤ a0 then (some (decide (a0 ≤ 63))) else (some false)
set_option maxHeartbeats 40000000 in
set_option maxRecDepth 100000 in
theorem i_alfilref01_Right.calls (a0 : Int) (r1 : Bool) (w : World) (h : i_alfilref01_Right.f a0 = some r1) :
    Calls Try.prog 24 #[.int .i64 a0] w fun e w' => e = .returned (.bool r1) ∧ w = w' := by
 have H : (if 0 ≤ a0 then (some (decide (a0 ≤ 63))) else (some false)) = some r1 := h
 clear h
 by_cases c1 : 0 ≤ a0
 ·
  rw [if_pos c1] at H
  have c1b0 : decide (0 ≤ a0) = true := decide_eq_true c1
  have hc1 := hid c1
  clear c1
  obtain rfl := Option.some.inj H
  clear H
  go_enter Try.func24, Try.ntmps24
  go_wp2_with fail
  (try simp only [Act.put, List.setIfInBounds_toArray, List.set_cons_zero, List.set_cons_succ])
  go_ret
  exact ⟨by first | rfl | (simp; done) | (simp [*]; done), rfl⟩
 ·
  rw [if_neg c1] at H
  have c1b0 : decide (0 ≤ a0) = false := decide_eq_false c1
  have hc1 := hid c1
  clear c1
  obtain rfl := Option.some.inj H
  clear H
  go_enter Try.func24, Try.ntmps24
  go_wp2_with fail
  (try simp only [Act.put, List.setIfInBounds_toArray, List.set_cons_zero, List.set_cons_succ])
  go_ret
  exact ⟨by first | rfl | (simp; done) | (simp [*]; done), rfl⟩
/-! i_alfilref01_File: function 55 -/
def i_alfilref01_File.l0 : Nat → Int → Option (Int)
  | 0, _ => none
  | k + 1, x0_0 => if x0_0 ≥ 8 then (i_alfilref01_File.l0 k (wrap64 (x0_0 - 8))) else (some x0_0)
def i_alfilref01_File.f (k : Nat) (a0 : Int) : Option (Int) := (i_alfilref01_Right.f a0).bind fun t1 => (if t1 = true then (i_alfilref01_File.l0 k a0) else (some (-1)))
set_option maxHeartbeats 40000000 in
set_option maxRecDepth 100000 in
theorem i_alfilref01_File.calls (k : Nat) (a0 : Int) (r1 : Int) (w : World) (h : i_alfilref01_File.f k a0 = some r1) :
    Calls Try.prog 55 #[.int .i64 a0] w fun e w' => e = .returned (.int .i64 r1) ∧ w = w' := by
 have H : ((i_alfilref01_Right.f a0).bind fun t1 => (if t1 = true then (i_alfilref01_File.l0 k a0) else (some (-1)))) = some r1 := h
 clear h
 replace H := Option.bind_eq_some_iff.mp H
 obtain ⟨t1, A2_, H⟩ := H
 replace H : (if t1 = true then (i_alfilref01_File.l0 k a0) else (some (-1))) = some r1 := H
 have A2 := hid A2_
 clear A2_
 cases t1 with
 | true =>
  rw [if_pos rfl] at H
  have H' := hid H
  clear H
  go_enter Try.func55, Try.ntmps55
  have k4 := True.intro
  go_wp2_with (first
   | (go_at_call 24; clear k4; refine (i_alfilref01_Right.calls a0 true _ A2.out).mono ?_; rintro e_ w' ⟨rfl, rfl⟩))
  (try simp only [Act.put, List.setIfInBounds_toArray, List.set_cons_zero, List.set_cons_succ])
  go_loopg [0] k (fun kq v0 w' => ∃ (x0_0 : Int), v0 = .int .i64 x0_0 ∧ Hid (i_alfilref01_File.l0 kq x0_0 = some r1) ∧ Hid (kq ≤ k) ∧ w = w')
  case atStart => exact ⟨a0, (by first | rfl | (simp; done) | (simp [*]; done)), H', (hid (by first | omega | (omega))), rfl⟩
  case round =>
   clear H'
   skip
   obtain ⟨x0_0, rfl, HA, HK5, rfl⟩ := hrel
   cases gk with
   | zero => exact absurd HA.out (by simp [i_alfilref01_File.l0])
   | succ k6 =>
    have H := HA.out
    clear HA
    simp only [i_alfilref01_File.l0] at H
    by_cases c7 : x0_0 ≥ 8
    ·
     rw [if_pos c7] at H
     have c7b0 : decide (8 ≤ x0_0) = true := decide_eq_true c7
     have hc7 := hid c7
     clear c7
     have H' := hid H
     clear H
     go_wp2_with fail
     (try simp only [Act.put, List.setIfInBounds_toArray, List.set_cons_zero, List.set_cons_succ])
     go_roundg k6
     case measure => have := HK5.out; omega
     case rel => exact ⟨wrap64 (x0_0 - 8), (by first | rfl | (simp; done) | (simp [*]; done)), H', (hid (by first | omega | (have := HK5.out; omega))), rfl⟩
    ·
     rw [if_neg c7] at H
     have c7b0 : decide (8 ≤ x0_0) = false := decide_eq_false c7
     have hc7 := hid c7
     clear c7
     obtain rfl := Option.some.inj H
     clear H
     go_wp2_with fail
     (try simp only [Act.put, List.setIfInBounds_toArray, List.set_cons_zero, List.set_cons_succ])
     go_ret
     exact ⟨by first | rfl | (simp; done) | (simp [*]; done), rfl⟩
 | false =>
  rw [if_neg (show ¬ (false = true) by decide)] at H
  obtain rfl := Option.some.inj H
  clear H
  go_enter Try.func55, Try.ntmps55
  have k8 := True.intro
  go_wp2_with (first
   | (go_at_call 24; clear k8; refine (i_alfilref01_Right.calls a0 false _ A2.out).mono ?_; rintro e_ w' ⟨rfl, rfl⟩))
  (try simp only [Act.put, List.setIfInBounds_toArray, List.set_cons_zero, List.set_cons_succ])
  go_ret
  exact ⟨by first | rfl | (simp; done) | (simp [*]; done), rfl⟩
/-! i_alfilref01_Rank: function 56 -/
def i_alfilref01_Rank.l0 : Nat → Int → Int → Option (Int)
  | 0, _, _ => none
  | k + 1, x0_0, x3_0 => if x0_0 ≥ 8 then (i_alfilref01_Rank.l0 k (wrap64 (x0_0 - 8)) (wrap64 (x3_0 + 1))) else (some x3_0)
def i_alfilref01_Rank.f (k : Nat) (a0 : Int) : Option (Int) := (i_alfilref01_Right.f a0).bind fun t1 => (if t1 = true then (i_alfilref01_Rank.l0 k a0 0) else (some (-1)))
set_option maxHeartbeats 40000000 in
set_option maxRecDepth 100000 in
theorem i_alfilref01_Rank.calls (k : Nat) (a0 : Int) (r1 : Int) (w : World) (h : i_alfilref01_Rank.f k a0 = some r1) :
    Calls Try.prog 56 #[.int .i64 a0] w fun e w' => e = .returned (.int .i64 r1) ∧ w = w' := by
 have H : ((i_alfilref01_Right.f a0).bind fun t1 => (if t1 = true then (i_alfilref01_Rank.l0 k a0 0) else (some (-1)))) = some r1 := h
 clear h
 replace H := Option.bind_eq_some_iff.mp H
 obtain ⟨t1, A2_, H⟩ := H
 replace H : (if t1 = true then (i_alfilref01_Rank.l0 k a0 0) else (some (-1))) = some r1 := H
 have A2 := hid A2_
 clear A2_
 cases t1 with
 | true =>
  rw [if_pos rfl] at H
  have H' := hid H
  clear H
  go_enter Try.func56, Try.ntmps56
  have k4 := True.intro
  go_wp2_with (first
   | (go_at_call 24; clear k4; refine (i_alfilref01_Right.calls a0 true _ A2.out).mono ?_; rintro e_ w' ⟨rfl, rfl⟩))
  (try simp only [Act.put, List.setIfInBounds_toArray, List.set_cons_zero, List.set_cons_succ])
  go_loopg [0, 3] k (fun kq v0 v3 w' => ∃ (x0_0 : Int) (x3_0 : Int), v0 = .int .i64 x0_0 ∧ v3 = .int .i64 x3_0 ∧ Hid (i_alfilref01_Rank.l0 kq x0_0 x3_0 = some r1) ∧ Hid (kq ≤ k) ∧ w = w')
  case atStart => exact ⟨a0, (0 : Int), (by first | rfl | (simp; done) | (simp [*]; done)), (by first | rfl | (simp; done) | (simp [*]; done)), H', (hid (by first | omega | (omega))), rfl⟩
  case round =>
   clear H'
   skip
   obtain ⟨x0_0, x3_0, rfl, rfl, HA, HK5, rfl⟩ := hrel
   cases gk with
   | zero => exact absurd HA.out (by simp [i_alfilref01_Rank.l0])
   | succ k6 =>
    have H := HA.out
    clear HA
    simp only [i_alfilref01_Rank.l0] at H
    by_cases c7 : x0_0 ≥ 8
    ·
     rw [if_pos c7] at H
     have c7b0 : decide (8 ≤ x0_0) = true := decide_eq_true c7
     have hc7 := hid c7
     clear c7
     have H' := hid H
     clear H
     go_wp2_with fail
     (try simp only [Act.put, List.setIfInBounds_toArray, List.set_cons_zero, List.set_cons_succ])
     go_roundg k6
     case measure => have := HK5.out; omega
     case rel => exact ⟨wrap64 (x0_0 - 8), wrap64 (x3_0 + 1), (by first | rfl | (simp; done) | (simp [*]; done)), (by first | rfl | (simp; done) | (simp [*]; done)), H', (hid (by first | omega | (have := HK5.out; omega))), rfl⟩
    ·
     rw [if_neg c7] at H
     have c7b0 : decide (8 ≤ x0_0) = false := decide_eq_false c7
     have hc7 := hid c7
     clear c7
     obtain rfl := Option.some.inj H
     clear H
     go_wp2_with fail
     (try simp only [Act.put, List.setIfInBounds_toArray, List.set_cons_zero, List.set_cons_succ])
     go_ret
     exact ⟨by first | rfl | (simp; done) | (simp [*]; done), rfl⟩
 | false =>
  rw [if_neg (show ¬ (false = true) by decide)] at H
  obtain rfl := Option.some.inj H
  clear H
  go_enter Try.func56, Try.ntmps56
  have k8 := True.intro
  go_wp2_with (first
   | (go_at_call 24; clear k8; refine (i_alfilref01_Right.calls a0 false _ A2.out).mono ?_; rintro e_ w' ⟨rfl, rfl⟩))
  (try simp only [Act.put, List.setIfInBounds_toArray, List.set_cons_zero, List.set_cons_succ])
  go_ret
  exact ⟨by first | rfl | (simp; done) | (simp [*]; done), rfl⟩
/-! i_alfilref01_Name: function 67 -/
def i_alfilref01_Name.f (k : Nat) (a0 : Int) : Option (ByteArray) := (i_alfilref01_Right.f a0).bind fun t1 => (if t1 = true then ((i_alfilref01_File.f k a0).bind fun t2 => ((i_alfilref01_Rank.f k a0).bind fun t3 => (if 0 ≤ t2 then (if t2 ≤ (wrap64 (t2 + 1)) then (if (wrap64 (t2 + 1)) ≤ 8 then (if 0 ≤ t3 then (if t3 ≤ (wrap64 (t3 + 1)) then (if (wrap64 (t3 + 1)) ≤ 8 then (if ((⟨#[97, 98, 99, 100, 101, 102, 103, 104]⟩ : ByteArray).extract (t2 : Int).toNat ((wrap64 (t2 + 1)) : Int).toNat).size + ((⟨#[49, 50, 51, 52, 53, 54, 55, 56]⟩ : ByteArray).extract (t3 : Int).toNat ((wrap64 (t3 + 1)) : Int).toNat).size ≤ 9223372036854775807 then (some (((⟨#[97, 98, 99, 100, 101, 102, 103, 104]⟩ : ByteArray).extract (t2 : Int).toNat ((wrap64 (t2 + 1)) : Int).toNat) ++ ((⟨#[49, 50, 51, 52, 53, 54, 55, 56]⟩ : ByteArray).extract (t3 : Int).toNat ((wrap64 (t3 + 1)) : Int).toNat))) else (none)) else (none)) else (none)) else (none)) else (none)) else (none)) else (none)))) else (some (⟨#[45]⟩ : ByteArray)))
set_option maxHeartbeats 40000000 in
set_option maxRecDepth 100000 in
theorem i_alfilref01_Name.calls (k : Nat) (a0 : Int) (r1 : ByteArray) (w : World) (h : i_alfilref01_Name.f k a0 = some r1) :
    Calls Try.prog 67 #[.int .i64 a0] w fun e w' => e = .returned (.string r1) ∧ Below w.heap.size w w' := by
 have HL := hid (Below.refl w.heap.size w)
 have H : ((i_alfilref01_Right.f a0).bind fun t1 => (if t1 = true then ((i_alfilref01_File.f k a0).bind fun t2 => ((i_alfilref01_Rank.f k a0).bind fun t3 => (if 0 ≤ t2 then (if t2 ≤ (wrap64 (t2 + 1)) then (if (wrap64 (t2 + 1)) ≤ 8 then (if 0 ≤ t3 then (if t3 ≤ (wrap64 (t3 + 1)) then (if (wrap64 (t3 + 1)) ≤ 8 then (if ((⟨#[97, 98, 99, 100, 101, 102, 103, 104]⟩ : ByteArray).extract (t2 : Int).toNat ((wrap64 (t2 + 1)) : Int).toNat).size + ((⟨#[49, 50, 51, 52, 53, 54, 55, 56]⟩ : ByteArray).extract (t3 : Int).toNat ((wrap64 (t3 + 1)) : Int).toNat).size ≤ 9223372036854775807 then (some (((⟨#[97, 98, 99, 100, 101, 102, 103, 104]⟩ : ByteArray).extract (t2 : Int).toNat ((wrap64 (t2 + 1)) : Int).toNat) ++ ((⟨#[49, 50, 51, 52, 53, 54, 55, 56]⟩ : ByteArray).extract (t3 : Int).toNat ((wrap64 (t3 + 1)) : Int).toNat))) else (none)) else (none)) else (none)) else (none)) else (none)) else (none)) else (none)))) else (some (⟨#[45]⟩ : ByteArray)))) = some r1 := h
 clear h
 replace H := Option.bind_eq_some_iff.mp H
 obtain ⟨t1, A4_, H⟩ := H
 replace H : (if t1 = true then ((i_alfilref01_File.f k a0).bind fun t2 => ((i_alfilref01_Rank.f k a0).bind fun t3 => (if 0 ≤ t2 then (if t2 ≤ (wrap64 (t2 + 1)) then (if (wrap64 (t2 + 1)) ≤ 8 then (if 0 ≤ t3 then (if t3 ≤ (wrap64 (t3 + 1)) then (if (wrap64 (t3 + 1)) ≤ 8 then (if ((⟨#[97, 98, 99, 100, 101, 102, 103, 104]⟩ : ByteArray).extract (t2 : Int).toNat ((wrap64 (t2 + 1)) : Int).toNat).size + ((⟨#[49, 50, 51, 52, 53, 54, 55, 56]⟩ : ByteArray).extract (t3 : Int).toNat ((wrap64 (t3 + 1)) : Int).toNat).size ≤ 9223372036854775807 then (some (((⟨#[97, 98, 99, 100, 101, 102, 103, 104]⟩ : ByteArray).extract (t2 : Int).toNat ((wrap64 (t2 + 1)) : Int).toNat) ++ ((⟨#[49, 50, 51, 52, 53, 54, 55, 56]⟩ : ByteArray).extract (t3 : Int).toNat ((wrap64 (t3 + 1)) : Int).toNat))) else (none)) else (none)) else (none)) else (none)) else (none)) else (none)) else (none)))) else (some (⟨#[45]⟩ : ByteArray))) = some r1 := H
 have A4 := hid A4_
 clear A4_
 cases t1 with
 | true =>
  rw [if_pos rfl] at H
  replace H := Option.bind_eq_some_iff.mp H
  obtain ⟨t2, A6_, H⟩ := H
  replace H : ((i_alfilref01_Rank.f k a0).bind fun t3 => (if 0 ≤ t2 then (if t2 ≤ (wrap64 (t2 + 1)) then (if (wrap64 (t2 + 1)) ≤ 8 then (if 0 ≤ t3 then (if t3 ≤ (wrap64 (t3 + 1)) then (if (wrap64 (t3 + 1)) ≤ 8 then (if ((⟨#[97, 98, 99, 100, 101, 102, 103, 104]⟩ : ByteArray).extract (t2 : Int).toNat ((wrap64 (t2 + 1)) : Int).toNat).size + ((⟨#[49, 50, 51, 52, 53, 54, 55, 56]⟩ : ByteArray).extract (t3 : Int).toNat ((wrap64 (t3 + 1)) : Int).toNat).size ≤ 9223372036854775807 then (some (((⟨#[97, 98, 99, 100, 101, 102, 103, 104]⟩ : ByteArray).extract (t2 : Int).toNat ((wrap64 (t2 + 1)) : Int).toNat) ++ ((⟨#[49, 50, 51, 52, 53, 54, 55, 56]⟩ : ByteArray).extract (t3 : Int).toNat ((wrap64 (t3 + 1)) : Int).toNat))) else (none)) else (none)) else (none)) else (none)) else (none)) else (none)) else (none))) = some r1 := H
  have A6 := hid A6_
  clear A6_
  replace H := Option.bind_eq_some_iff.mp H
  obtain ⟨t3, A7_, H⟩ := H
  replace H : (if 0 ≤ t2 then (if t2 ≤ (wrap64 (t2 + 1)) then (if (wrap64 (t2 + 1)) ≤ 8 then (if 0 ≤ t3 then (if t3 ≤ (wrap64 (t3 + 1)) then (if (wrap64 (t3 + 1)) ≤ 8 then (if ((⟨#[97, 98, 99, 100, 101, 102, 103, 104]⟩ : ByteArray).extract (t2 : Int).toNat ((wrap64 (t2 + 1)) : Int).toNat).size + ((⟨#[49, 50, 51, 52, 53, 54, 55, 56]⟩ : ByteArray).extract (t3 : Int).toNat ((wrap64 (t3 + 1)) : Int).toNat).size ≤ 9223372036854775807 then (some (((⟨#[97, 98, 99, 100, 101, 102, 103, 104]⟩ : ByteArray).extract (t2 : Int).toNat ((wrap64 (t2 + 1)) : Int).toNat) ++ ((⟨#[49, 50, 51, 52, 53, 54, 55, 56]⟩ : ByteArray).extract (t3 : Int).toNat ((wrap64 (t3 + 1)) : Int).toNat))) else (none)) else (none)) else (none)) else (none)) else (none)) else (none)) else (none)) = some r1 := H
  have A7 := hid A7_
  clear A7_
  by_cases c8 : 0 ≤ t2
  ·
   rw [if_pos c8] at H
   have c8b0 : decide (0 ≤ t2) = true := decide_eq_true c8
   have hc8 := hid c8
   clear c8
   by_cases c9 : t2 ≤ (wrap64 (t2 + 1))
   ·
    rw [if_pos c9] at H
    have c9b0 : decide (t2 ≤ (wrap64 (t2 + 1))) = true := decide_eq_true c9
    have hc9 := hid c9
    clear c9
    by_cases c10 : (wrap64 (t2 + 1)) ≤ 8
    ·
     rw [if_pos c10] at H
     have c10b0 : decide ((wrap64 (t2 + 1)) ≤ 8) = true := decide_eq_true c10
     have hc10 := hid c10
     clear c10
     by_cases c11 : 0 ≤ t3
     ·
      rw [if_pos c11] at H
      have c11b0 : decide (0 ≤ t3) = true := decide_eq_true c11
      have hc11 := hid c11
      clear c11
      by_cases c12 : t3 ≤ (wrap64 (t3 + 1))
      ·
       rw [if_pos c12] at H
       have c12b0 : decide (t3 ≤ (wrap64 (t3 + 1))) = true := decide_eq_true c12
       have hc12 := hid c12
       clear c12
       by_cases c13 : (wrap64 (t3 + 1)) ≤ 8
       ·
        rw [if_pos c13] at H
        have c13b0 : decide ((wrap64 (t3 + 1)) ≤ 8) = true := decide_eq_true c13
        have hc13 := hid c13
        clear c13
        by_cases c14 : ((⟨#[97, 98, 99, 100, 101, 102, 103, 104]⟩ : ByteArray).extract (t2 : Int).toNat ((wrap64 (t2 + 1)) : Int).toNat).size + ((⟨#[49, 50, 51, 52, 53, 54, 55, 56]⟩ : ByteArray).extract (t3 : Int).toNat ((wrap64 (t3 + 1)) : Int).toNat).size ≤ 9223372036854775807
        ·
         rw [if_pos c14] at H
         have hc14 := hid c14
         clear c14
         obtain rfl := Option.some.inj H
         clear H
         go_enter Try.func67, Try.ntmps67
         have k15 := True.intro
         have k16 := True.intro
         have k17 := True.intro
         go_wp2_with (first
          | (go_at_call 24; clear k15; refine (i_alfilref01_Right.calls a0 true _ A4.out).mono ?_; rintro e_ w' ⟨rfl, rfl⟩)
          | (go_at_call 55; clear k16; refine (i_alfilref01_File.calls k a0 t2 _ A6.out).mono ?_; rintro e_ w' ⟨rfl, rfl⟩)
          | (go_at_call 56; clear k17; refine (i_alfilref01_Rank.calls k a0 t3 _ A7.out).mono ?_; rintro e_ w' ⟨rfl, rfl⟩))
         (try simp only [Act.put, List.setIfInBounds_toArray, List.set_cons_zero, List.set_cons_succ])
         have WR64 := i64_w
         have WR32 := i32_w
         refine up_regionW (by kernel_rfl) (by kernel_rfl) ?_
         refine q_do (.string (⟨#[97, 98, 99, 100, 101, 102, 103, 104]⟩ : ByteArray)) (fun w'_ hc_ => ex_mv (.tmp 3) (.inl rfl) _ rfl) rfl rfl ?_
         intro ts_ ht_; simp only [List.setIfInBounds_toArray, List.set_cons_zero, List.set_cons_succ] at ht_; subst ht_
         refine q_do (.int .i64 t2) (fun w'_ hc_ => ex_mv (.tmp 5) (.inl rfl) _ rfl) rfl rfl ?_
         intro ts_ ht_; simp only [List.setIfInBounds_toArray, List.set_cons_zero, List.set_cons_succ] at ht_; subst ht_
         refine q_do (.int .i64 t2) (fun w'_ hc_ => ex_mv (.tmp 5) (.inl rfl) _ rfl) rfl rfl ?_
         intro ts_ ht_; simp only [List.setIfInBounds_toArray, List.set_cons_zero, List.set_cons_succ] at ht_; subst ht_
         refine q_do (.int .i64 (wrap64 (t2 + 1))) (fun w'_ hc_ => by go_simp) rfl rfl ?_
         intro ts_ ht_; simp only [List.setIfInBounds_toArray, List.set_cons_zero, List.set_cons_succ] at ht_; subst ht_
         refine q_do (.string ((⟨#[97, 98, 99, 100, 101, 102, 103, 104]⟩ : ByteArray).extract (t2 : Int).toNat ((wrap64 (t2 + 1)) : Int).toNat)) (fun w'_ hc_ => by obtain ⟨n_, hn_⟩ := hc_; exact ex_cut_lh 9 und_txt (⟨#[97, 98, 99, 100, 101, 102, 103, 104]⟩ : ByteArray) t2 (wrap64 (t2 + 1)) hc8.out hc9.out hc10.out _ _ _ rfl rfl rfl rfl) rfl rfl ?_
         intro ts_ ht_; simp only [List.setIfInBounds_toArray, List.set_cons_zero, List.set_cons_succ] at ht_; subst ht_
         refine q_do (.string (⟨#[49, 50, 51, 52, 53, 54, 55, 56]⟩ : ByteArray)) (fun w'_ hc_ => ex_mv (.tmp 4) (.inl rfl) _ rfl) rfl rfl ?_
         intro ts_ ht_; simp only [List.setIfInBounds_toArray, List.set_cons_zero, List.set_cons_succ] at ht_; subst ht_
         refine q_do (.int .i64 t3) (fun w'_ hc_ => ex_mv (.tmp 6) (.inl rfl) _ rfl) rfl rfl ?_
         intro ts_ ht_; simp only [List.setIfInBounds_toArray, List.set_cons_zero, List.set_cons_succ] at ht_; subst ht_
         refine q_do (.int .i64 t3) (fun w'_ hc_ => ex_mv (.tmp 6) (.inl rfl) _ rfl) rfl rfl ?_
         intro ts_ ht_; simp only [List.setIfInBounds_toArray, List.set_cons_zero, List.set_cons_succ] at ht_; subst ht_
         refine q_do (.int .i64 (wrap64 (t3 + 1))) (fun w'_ hc_ => by go_simp) rfl rfl ?_
         intro ts_ ht_; simp only [List.setIfInBounds_toArray, List.set_cons_zero, List.set_cons_succ] at ht_; subst ht_
         refine q_do (.string ((⟨#[49, 50, 51, 52, 53, 54, 55, 56]⟩ : ByteArray).extract (t3 : Int).toNat ((wrap64 (t3 + 1)) : Int).toNat)) (fun w'_ hc_ => by obtain ⟨n_, hn_⟩ := hc_; exact ex_cut_lh 9 und_txt (⟨#[49, 50, 51, 52, 53, 54, 55, 56]⟩ : ByteArray) t3 (wrap64 (t3 + 1)) hc11.out hc12.out hc13.out _ _ _ rfl rfl rfl rfl) rfl rfl ?_
         intro ts_ ht_; simp only [List.setIfInBounds_toArray, List.set_cons_zero, List.set_cons_succ] at ht_; subst ht_
         refine q_do (.string (((⟨#[97, 98, 99, 100, 101, 102, 103, 104]⟩ : ByteArray).extract (t2 : Int).toNat ((wrap64 (t2 + 1)) : Int).toNat) ++ ((⟨#[49, 50, 51, 52, 53, 54, 55, 56]⟩ : ByteArray).extract (t3 : Int).toNat ((wrap64 (t3 + 1)) : Int).toNat))) (fun w'_ hc_ => by obtain ⟨n_, hn_⟩ := hc_; exact ex_cat 9 ((⟨#[97, 98, 99, 100, 101, 102, 103, 104]⟩ : ByteArray).extract (t2 : Int).toNat ((wrap64 (t2 + 1)) : Int).toNat) ((⟨#[49, 50, 51, 52, 53, 54, 55, 56]⟩ : ByteArray).extract (t3 : Int).toNat ((wrap64 (t3 + 1)) : Int).toNat) hc14.out _ _ _ rfl rfl rfl) rfl rfl ?_
         intro ts_ ht_; simp only [List.setIfInBounds_toArray, List.set_cons_zero, List.set_cons_succ] at ht_; subst ht_
         refine q_do (.string (((⟨#[97, 98, 99, 100, 101, 102, 103, 104]⟩ : ByteArray).extract (t2 : Int).toNat ((wrap64 (t2 + 1)) : Int).toNat) ++ ((⟨#[49, 50, 51, 52, 53, 54, 55, 56]⟩ : ByteArray).extract (t3 : Int).toNat ((wrap64 (t3 + 1)) : Int).toNat))) (fun w'_ hc_ => ex_mv (.tmp 24) (.inr rfl) _ rfl) rfl rfl ?_
         intro ts_ ht_; simp only [List.setIfInBounds_toArray, List.set_cons_zero, List.set_cons_succ] at ht_; subst ht_
         refine q_end ?_
         rintro w8_ ⟨n_, rfl⟩
         replace HL := hid (HL.out.trans (n_.below.mono HL.out.size))
         generalize n_.world = w18 at *
         clear n_ WR64 WR32
         go_wp2_with fail
         (try simp only [Act.put, List.setIfInBounds_toArray, List.set_cons_zero, List.set_cons_succ])
         go_ret
         exact ⟨by first | rfl | (simp; done) | (simp [*]; done), HL.out⟩
        ·
         rw [if_neg c14] at H
         exact absurd H (by simp)
       ·
        rw [if_neg c13] at H
        exact absurd H (by simp)
      ·
       rw [if_neg c12] at H
       exact absurd H (by simp)
     ·
      rw [if_neg c11] at H
      exact absurd H (by simp)
    ·
     rw [if_neg c10] at H
     exact absurd H (by simp)
   ·
    rw [if_neg c9] at H
    exact absurd H (by simp)
  ·
   rw [if_neg c8] at H
   exact absurd H (by simp)
 | false =>
  rw [if_neg (show ¬ (false = true) by decide)] at H
  obtain rfl := Option.some.inj H
  clear H
  go_enter Try.func67, Try.ntmps67
  have k19 := True.intro
  go_wp2_with (first
   | (go_at_call 24; clear k19; refine (i_alfilref01_Right.calls a0 false _ A4.out).mono ?_; rintro e_ w' ⟨rfl, rfl⟩))
  (try simp only [Act.put, List.setIfInBounds_toArray, List.set_cons_zero, List.set_cons_succ])
  go_ret
  exact ⟨by first | rfl | (simp; done) | (simp [*]; done), HL.out⟩
/-! i_alfilref05_Write: function 43 -/
mutual
def i_alfilref05_Write.l0 : Nat → List Int → ByteArray → Int → Option (ByteArray × Int)
  | 0, _, _, _ => none
  | k + 1, a0, x4_0, x5_0 => if x5_0 < 2 then (if x5_0 = 1 then (if x4_0.size + 6 ≤ 9223372036854775807 then (i_alfilref05_Write.l1 k a0 x5_0 (x4_0 ++ (⟨#[32, 98, 108, 97, 99, 107]⟩ : ByteArray)) 6) else (none)) else (i_alfilref05_Write.l4 k a0 x5_0 x4_0 6)) else (some (x4_0, 0))
def i_alfilref05_Write.l1 : Nat → List Int → Int → ByteArray → Int → Option (ByteArray × Int)
  | 0, _, _, _, _ => none
  | k + 1, a0, x5_0, x4_1, x6_1 => if x6_1 ≥ 1 then (if x5_0 = 1 then ((i_alfilref03_Where.f k a0 (wrap64 (-x6_1))).bind fun t53 => (i_alfilref05_Write.l2 k a0 x5_0 x6_1 t53 x4_1 0)) else ((i_alfilref03_Where.f k a0 x6_1).bind fun t58 => (i_alfilref05_Write.l3 k a0 x5_0 x6_1 t58 x4_1 0))) else (i_alfilref05_Write.l0 k a0 x4_1 (wrap64 (x5_0 + 1)))
def i_alfilref05_Write.l2 : Nat → List Int → Int → Int → List Int → ByteArray → Int → Option (ByteArray × Int)
  | 0, _, _, _, _, _, _ => none
  | k + 1, a0, x5_0, x6_1, t53, x4_2, x9_2 => if x9_2 < (t53.length : Int) then (if 1 + (letterB x6_1).size ≤ 9223372036854775807 then (if 0 ≤ x9_2 then ((i_alfilref01_Name.f k (nt t53 x9_2.toNat 0)).bind fun t57 => (if ((⟨#[32]⟩ : ByteArray) ++ (letterB x6_1)).size + t57.size ≤ 9223372036854775807 then (if x4_2.size + (((⟨#[32]⟩ : ByteArray) ++ (letterB x6_1)) ++ t57).size ≤ 9223372036854775807 then (i_alfilref05_Write.l2 k a0 x5_0 x6_1 t53 (x4_2 ++ (((⟨#[32]⟩ : ByteArray) ++ (letterB x6_1)) ++ t57)) (wrap64 (x9_2 + 1))) else (none)) else (none))) else (none)) else (none)) else (i_alfilref05_Write.l1 k a0 x5_0 x4_2 (wrap64 (x6_1 - 1)))
def i_alfilref05_Write.l3 : Nat → List Int → Int → Int → List Int → ByteArray → Int → Option (ByteArray × Int)
  | 0, _, _, _, _, _, _ => none
  | k + 1, a0, x5_0, x6_1, t58, x4_3, x9_3 => if x9_3 < (t58.length : Int) then (if 1 + (letterB x6_1).size ≤ 9223372036854775807 then (if 0 ≤ x9_3 then ((i_alfilref01_Name.f k (nt t58 x9_3.toNat 0)).bind fun t62 => (if ((⟨#[32]⟩ : ByteArray) ++ (letterB x6_1)).size + t62.size ≤ 9223372036854775807 then (if x4_3.size + (((⟨#[32]⟩ : ByteArray) ++ (letterB x6_1)) ++ t62).size ≤ 9223372036854775807 then (i_alfilref05_Write.l3 k a0 x5_0 x6_1 t58 (x4_3 ++ (((⟨#[32]⟩ : ByteArray) ++ (letterB x6_1)) ++ t62)) (wrap64 (x9_3 + 1))) else (none)) else (none))) else (none)) else (none)) else (i_alfilref05_Write.l1 k a0 x5_0 x4_3 (wrap64 (x6_1 - 1)))
def i_alfilref05_Write.l4 : Nat → List Int → Int → ByteArray → Int → Option (ByteArray × Int)
  | 0, _, _, _, _ => none
  | k + 1, a0, x5_0, x4_4, x6_4 => if x6_4 ≥ 1 then (if x5_0 = 1 then ((i_alfilref03_Where.f k a0 (wrap64 (-x6_4))).bind fun t73 => (i_alfilref05_Write.l5 k a0 x5_0 x6_4 t73 x4_4 0)) else ((i_alfilref03_Where.f k a0 x6_4).bind fun t78 => (i_alfilref05_Write.l6 k a0 x5_0 x6_4 t78 x4_4 0))) else (i_alfilref05_Write.l0 k a0 x4_4 (wrap64 (x5_0 + 1)))
def i_alfilref05_Write.l5 : Nat → List Int → Int → Int → List Int → ByteArray → Int → Option (ByteArray × Int)
  | 0, _, _, _, _, _, _ => none
  | k + 1, a0, x5_0, x6_4, t73, x4_5, x9_5 => if x9_5 < (t73.length : Int) then (if 1 + (letterB x6_4).size ≤ 9223372036854775807 then (if 0 ≤ x9_5 then ((i_alfilref01_Name.f k (nt t73 x9_5.toNat 0)).bind fun t77 => (if ((⟨#[32]⟩ : ByteArray) ++ (letterB x6_4)).size + t77.size ≤ 9223372036854775807 then (if x4_5.size + (((⟨#[32]⟩ : ByteArray) ++ (letterB x6_4)) ++ t77).size ≤ 9223372036854775807 then (i_alfilref05_Write.l5 k a0 x5_0 x6_4 t73 (x4_5 ++ (((⟨#[32]⟩ : ByteArray) ++ (letterB x6_4)) ++ t77)) (wrap64 (x9_5 + 1))) else (none)) else (none))) else (none)) else (none)) else (i_alfilref05_Write.l4 k a0 x5_0 x4_5 (wrap64 (x6_4 - 1)))
def i_alfilref05_Write.l6 : Nat → List Int → Int → Int → List Int → ByteArray → Int → Option (ByteArray × Int)
  | 0, _, _, _, _, _, _ => none
  | k + 1, a0, x5_0, x6_4, t78, x4_6, x9_6 => if x9_6 < (t78.length : Int) then (if 1 + (letterB x6_4).size ≤ 9223372036854775807 then (if 0 ≤ x9_6 then ((i_alfilref01_Name.f k (nt t78 x9_6.toNat 0)).bind fun t82 => (if ((⟨#[32]⟩ : ByteArray) ++ (letterB x6_4)).size + t82.size ≤ 9223372036854775807 then (if x4_6.size + (((⟨#[32]⟩ : ByteArray) ++ (letterB x6_4)) ++ t82).size ≤ 9223372036854775807 then (i_alfilref05_Write.l6 k a0 x5_0 x6_4 t78 (x4_6 ++ (((⟨#[32]⟩ : ByteArray) ++ (letterB x6_4)) ++ t82)) (wrap64 (x9_6 + 1))) else (none)) else (none))) else (none)) else (none)) else (i_alfilref05_Write.l4 k a0 x5_0 x4_6 (wrap64 (x6_4 - 1)))
end
def i_alfilref05_Write.f (k : Nat) (a0 : List Int) : Option (ByteArray × Int) := (i_alfilref03_Right.f k a0).bind fun t2 => (if t2 = true then (i_alfilref05_Write.l0 k a0 (⟨#[119, 104, 105, 116, 101]⟩ : ByteArray) 0) else (some ((⟨#[]⟩ : ByteArray), 5)))
set_option maxHeartbeats 40000000 in
set_option maxRecDepth 100000 in
theorem i_alfilref05_Write.calls (k : Nat) (a0 : List Int) (hla0 : a0.length = 64) (r1 : ByteArray) (r2 : Int) (w : World) (h : i_alfilref05_Write.f k a0 = some (r1, r2)) :
    Calls Try.prog 43 #[.agg (bv a0)] w fun e w' => e = .returned (.tuple #[.string r1, .int .i64 r2]) ∧ Below w.heap.size w w' := by
 have LN_a0 := hid hla0
 clear hla0
 have HL := hid (Below.refl w.heap.size w)
 have H : ((i_alfilref03_Right.f k a0).bind fun t2 => (if t2 = true then (i_alfilref05_Write.l0 k a0 (⟨#[119, 104, 105, 116, 101]⟩ : ByteArray) 0) else (some ((⟨#[]⟩ : ByteArray), 5)))) = some (r1, r2) := h
 clear h
 replace H := Option.bind_eq_some_iff.mp H
 obtain ⟨t2, A83_, H⟩ := H
 replace H : (if t2 = true then (i_alfilref05_Write.l0 k a0 (⟨#[119, 104, 105, 116, 101]⟩ : ByteArray) 0) else (some ((⟨#[]⟩ : ByteArray), 5))) = some (r1, r2) := H
 have A83 := hid A83_
 clear A83_
 cases t2 with
 | true =>
  rw [if_pos rfl] at H
  have H' := hid H
  clear H
  go_enter Try.func43, Try.ntmps43
  have k86 := True.intro
  go_wp2_with (first
   | ((with_reducible refine gate_d (N := 1) rfl ?_); obtain ⟨gb1, hgb1⟩ : ∃ g_, w.heap.size = g_ := ⟨_, rfl⟩; refine ag_box (bv a0) gb1 hgb1 rfl _ rfl rfl ?_; intro w85 hb_ hB_ hs_; have GEb1 : Hid (w.heap.size ≤ gb1) := hid (by have := HL.out.size; omega); replace HL := hid (HL.out.trans (hb_.mono GEb1.out)); have BKb1 := hid hB_; clear hb_ hB_ hs_ hgb1)
   | ((with_reducible refine gate_d (N := 10) rfl ?_); refine ag_fix (.agg (bv a0)) (ex_load boardT gb1 0 (bv a0) (bv a0) BKb1.out (av_le (by first | rfl | (simp only [List.length_set, List.length_replicate, zL_len, List.length_cons, List.length_nil, LN_a0.out]; done) | (simp [zL_len, LN_a0.out]; done))) (av_ex (by first | rfl | (simp only [List.length_set, List.length_replicate, zL_len, List.length_cons, List.length_nil, LN_a0.out]; done) | (simp [zL_len, LN_a0.out]; done))) _ rfl rfl) rfl ?_)
   | (go_at_call 20; clear k86; refine (i_alfilref03_Right.calls k a0 (by first | rfl | (simp only [List.length_set, List.length_replicate, zL_len, List.length_cons, List.length_nil, LN_a0.out]; done) | (simp [zL_len, LN_a0.out]; done)) true _ A83.out).mono ?_; rintro e_ w87 ⟨rfl, hb_⟩; replace BKb1 := hid (BKb1.out.below hb_ BKb1.out.lt); replace HL := hid (HL.out.trans (hb_.mono HL.out.size)); clear hb_))
  (try simp only [Act.put, List.setIfInBounds_toArray, List.set_cons_zero, List.set_cons_succ])
  go_loopg [4, 5] k (fun kq v4 v5 w' => ∃ (x4_0 : ByteArray) (x5_0 : Int), v4 = .string x4_0 ∧ v5 = .int .i64 x5_0 ∧ Hid (i_alfilref05_Write.l0 kq a0 x4_0 x5_0 = some (r1, r2)) ∧ Hid (kq ≤ k) ∧ Hid (Blk w' gb1 24 (bv a0)) ∧ Hid (Below w.heap.size w w'))
  case atStart => exact ⟨(⟨#[119, 104, 105, 116, 101]⟩ : ByteArray), (0 : Int), (by first | rfl | (simp; done) | (simp [*]; done)), (by first | rfl | (simp; done) | (simp [*]; done)), H', (hid (by first | omega | (omega))), (hid (by exact BKb1.out)), HL⟩
  case round =>
   clear H'
   clear HL BKb1
   obtain ⟨x4_0, x5_0, rfl, rfl, HA, HK88, BKb1, HL⟩ := hrel
   cases gk with
   | zero => exact absurd HA.out (by simp [i_alfilref05_Write.l0])
   | succ k89 =>
    have H := HA.out
    clear HA
    simp only [i_alfilref05_Write.l0] at H
    by_cases c90 : x5_0 < 2
    ·
     rw [if_pos c90] at H
     have c90b0 : decide (x5_0 < 2) = true := decide_eq_true c90
     have hc90 := hid c90
     clear c90
     by_cases c91 : x5_0 = 1
     ·
      rw [if_pos c91] at H
      have c91b0 : (x5_0 == 1) = true := beq_iff_eq.mpr c91
      have c91b1 : (x5_0 != 1) = false := bne_eq_false_iff_eq.mpr c91
      have hc91 := hid c91
      clear c91
      by_cases c92 : x4_0.size + 6 ≤ 9223372036854775807
      ·
       rw [if_pos c92] at H
       have hc92 := hid c92
       clear c92
       have H' := hid H
       clear H
       go_wp2_with (first
        | ((with_reducible refine gate_d (N := 20) rfl ?_); refine ag_fix (.string (x4_0 ++ (⟨#[32, 98, 108, 97, 99, 107]⟩ : ByteArray))) (ex_cat 9 x4_0 (⟨#[32, 98, 108, 97, 99, 107]⟩ : ByteArray) hc92.out _ _ _ rfl rfl rfl) rfl ?_))
       (try simp only [Act.put, List.setIfInBounds_toArray, List.set_cons_zero, List.set_cons_succ])
       go_loopg [4, 6] k89 (fun kq v4 v6 w' => ∃ (x4_1 : ByteArray) (x6_1 : Int), v4 = .string x4_1 ∧ v6 = .int .i64 x6_1 ∧ Hid (i_alfilref05_Write.l1 kq a0 x5_0 x4_1 x6_1 = some (r1, r2)) ∧ Hid (kq ≤ k89) ∧ Hid (Blk w' gb1 24 (bv a0)) ∧ Hid (Below w.heap.size w w'))
       case atStart => exact ⟨x4_0 ++ (⟨#[32, 98, 108, 97, 99, 107]⟩ : ByteArray), (6 : Int), (by first | rfl | (simp; done) | (simp [*]; done)), (by first | rfl | (simp; done) | (simp [*]; done)), H', (hid (by first | omega | (have := HK88.out; omega))), (hid (by exact BKb1.out)), HL⟩
       case round =>
        clear H'
        clear HL BKb1
        obtain ⟨x4_1, x6_1, rfl, rfl, HA, HK93, BKb1, HL⟩ := hrel
        cases gk with
        | zero => exact absurd HA.out (by simp [i_alfilref05_Write.l1])
        | succ k94 =>
         have H := HA.out
         clear HA
         simp only [i_alfilref05_Write.l1] at H
         by_cases c95 : x6_1 ≥ 1
         ·
          rw [if_pos c95] at H
          have c95b0 : decide (1 ≤ x6_1) = true := decide_eq_true c95
          have hc95 := hid c95
          clear c95
          by_cases c96 : x5_0 = 1
          ·
           rw [if_pos c96] at H
           have c96b0 : (x5_0 == 1) = true := beq_iff_eq.mpr c96
           have c96b1 : (x5_0 != 1) = false := bne_eq_false_iff_eq.mpr c96
           have hc96 := hid c96
           clear c96
           replace H := Option.bind_eq_some_iff.mp H
           obtain ⟨t53, A97_, H⟩ := H
           replace H : (i_alfilref05_Write.l2 k94 a0 x5_0 x6_1 t53 x4_1 0) = some (r1, r2) := H
           have A97 := hid A97_
           clear A97_
           have H' := hid H
           clear H
           have k98 := True.intro
           go_wp2_with (first
            | ((with_reducible refine gate_d (N := 30) rfl ?_); refine ag_fix (.agg (bv a0)) (ex_load boardT gb1 0 (bv a0) (bv a0) BKb1.out (av_le (by first | rfl | (simp only [List.length_set, List.length_replicate, zL_len, List.length_cons, List.length_nil, LN_a0.out]; done) | (simp [zL_len, LN_a0.out]; done))) (av_ex (by first | rfl | (simp only [List.length_set, List.length_replicate, zL_len, List.length_cons, List.length_nil, LN_a0.out]; done) | (simp [zL_len, LN_a0.out]; done))) _ rfl rfl) rfl ?_)
            | (go_at_call 32; clear k98; refine (i_alfilref03_Where.calls k94 a0 (wrap64 (-x6_1)) (by first | rfl | (simp only [List.length_set, List.length_replicate, zL_len, List.length_cons, List.length_nil, LN_a0.out]; done) | (simp [zL_len, LN_a0.out]; done)) t53 _ A97.out).mono ?_; rintro e_ w99 ⟨ut53, rfl, so_t53, hb_⟩; replace so_t53 := so_t53.mono HL.out.size; have SWn_t53 := hid so_t53; clear so_t53; replace BKb1 := hid (BKb1.out.below hb_ BKb1.out.lt); replace HL := hid (HL.out.trans (hb_.mono HL.out.size)); clear hb_; have SWt53 := SWn_t53; clear SWn_t53))
           (try simp only [Act.put, List.setIfInBounds_toArray, List.set_cons_zero, List.set_cons_succ])
           go_loopg [4, 9] k94 (fun kq v4 v9 w' => ∃ (x4_2 : ByteArray) (x9_2 : Int), v4 = .string x4_2 ∧ v9 = .int .i64 x9_2 ∧ Hid (i_alfilref05_Write.l2 kq a0 x5_0 x6_1 t53 x4_2 x9_2 = some (r1, r2)) ∧ Hid (kq ≤ k94) ∧ Hid (Blk w' gb1 24 (bv a0)) ∧ Hid (Own w' w.heap.size 3 (ut53) (t53.map (Value.int .i64))) ∧ Hid (Below w.heap.size w w'))
           case atStart => exact ⟨x4_1, (0 : Int), (by first | rfl | (simp; done) | (simp [*]; done)), (by first | rfl | (simp; done) | (simp [*]; done)), H', (hid (by first | omega | (have := HK88.out; have := HK93.out; omega))), (hid (by exact BKb1.out)), SWt53, HL⟩
           case round =>
            clear H'
            clear HL BKb1 SWt53
            obtain ⟨x4_2, x9_2, rfl, rfl, HA, HK100, BKb1, SWt53, HL⟩ := hrel
            cases gk with
            | zero => exact absurd HA.out (by simp [i_alfilref05_Write.l2])
            | succ k101 =>
             have H := HA.out
             clear HA
             simp only [i_alfilref05_Write.l2] at H
             by_cases c102 : x9_2 < (t53.length : Int)
             ·
              rw [if_pos c102] at H
              have c102b0 : decide (x9_2 < (t53.length : Int)) = true := decide_eq_true c102
              have hc102 := hid c102
              clear c102
              by_cases c103 : 1 + (letterB x6_1).size ≤ 9223372036854775807
              ·
               rw [if_pos c103] at H
               have c103b0 : decide (1 + (letterB x6_1).size ≤ 9223372036854775807) = true := decide_eq_true c103
               have hc103 := hid c103
               clear c103
               by_cases c104 : 0 ≤ x9_2
               ·
                rw [if_pos c104] at H
                have c104b0 : decide (0 ≤ x9_2) = true := decide_eq_true c104
                have hc104 := hid c104
                clear c104
                replace H := Option.bind_eq_some_iff.mp H
                obtain ⟨t57, A105_, H⟩ := H
                replace H : (if ((⟨#[32]⟩ : ByteArray) ++ (letterB x6_1)).size + t57.size ≤ 9223372036854775807 then (if x4_2.size + (((⟨#[32]⟩ : ByteArray) ++ (letterB x6_1)) ++ t57).size ≤ 9223372036854775807 then (i_alfilref05_Write.l2 k101 a0 x5_0 x6_1 t53 (x4_2 ++ (((⟨#[32]⟩ : ByteArray) ++ (letterB x6_1)) ++ t57)) (wrap64 (x9_2 + 1))) else (none)) else (none)) = some (r1, r2) := H
                have A105 := hid A105_
                clear A105_
                by_cases c106 : ((⟨#[32]⟩ : ByteArray) ++ (letterB x6_1)).size + t57.size ≤ 9223372036854775807
                ·
                 rw [if_pos c106] at H
                 have hc106 := hid c106
                 clear c106
                 by_cases c107 : x4_2.size + (((⟨#[32]⟩ : ByteArray) ++ (letterB x6_1)) ++ t57).size ≤ 9223372036854775807
                 ·
                  rw [if_pos c107] at H
                  have hc107 := hid c107
                  clear c107
                  have H' := hid H
                  clear H
                  go_wp2_with (first
                   | ((with_reducible refine gate_d (N := 35) rfl ?_); obtain ⟨A108, c109, hv110⟩ := SWt53.out.sl.shape; rw [List.length_map] at hv110; refine ag_fix (.int .i64 (t53.length : Int)) (ex_len us43 _ _ _ _ hv110 _ rfl rfl) rfl ?_; clear hv110))
                  (try simp only [Act.put, List.setIfInBounds_toArray, List.set_cons_zero, List.set_cons_succ])
                  obtain ⟨ad56, c_45, hv_45, hc_45⟩ := Sl.get (l := t53) (f := (Value.int .i64)) SWt53.out.sl 0 (i := x9_2) hc104.out hc102.out
                  have HV_45 := hid hv_45
                  have HCad56 := hid hc_45
                  clear hv_45 hc_45
                  have WR64 := i64_w
                  have WR32 := i32_w
                  refine up_regionW (by kernel_rfl) (by kernel_rfl) ?_
                  refine q_do (.string x4_2) (fun w'_ hc_ => ex_mv (.tmp 4) (.inl rfl) _ rfl) rfl rfl ?_
                  intro ts_ ht_; simp only [List.setIfInBounds_toArray, List.set_cons_zero, List.set_cons_succ] at ht_; subst ht_
                  refine q_do (.int .i64 x6_1) (fun w'_ hc_ => ex_mv (.tmp 6) (.inl rfl) _ rfl) rfl rfl ?_
                  intro ts_ ht_; simp only [List.setIfInBounds_toArray, List.set_cons_zero, List.set_cons_succ] at ht_; subst ht_
                  refine q_call (.string (letterB x6_1)) 65 #[.int .i64 x6_1] (fun w'_ => by go_simp) (fun w'_ hc_ => (rLetter x6_1 _).mono fun e_ w2_ h_ => ⟨h_.1, up_below hc_ h_.2⟩) rfl rfl ?_
                  intro ts_ ht_; simp only [List.setIfInBounds_toArray, List.set_cons_zero, List.set_cons_succ] at ht_; subst ht_
                  refine q_do (.string ((⟨#[32]⟩ : ByteArray) ++ (letterB x6_1))) (fun w'_ hc_ => by obtain ⟨n_, hn_⟩ := hc_; exact ex_cat 9 (⟨#[32]⟩ : ByteArray) (letterB x6_1) hc103.out _ _ _ rfl rfl rfl) rfl rfl ?_
                  intro ts_ ht_; simp only [List.setIfInBounds_toArray, List.set_cons_zero, List.set_cons_succ] at ht_; subst ht_
                  refine q_do (ut53) (fun w'_ hc_ => ex_mv (.tmp 8) (.inl rfl) _ rfl) rfl rfl ?_
                  intro ts_ ht_; simp only [List.setIfInBounds_toArray, List.set_cons_zero, List.set_cons_succ] at ht_; subst ht_
                  refine q_do (.int .i64 x9_2) (fun w'_ hc_ => ex_mv (.tmp 9) (.inl rfl) _ rfl) rfl rfl ?_
                  intro ts_ ht_; simp only [List.setIfInBounds_toArray, List.set_cons_zero, List.set_cons_succ] at ht_; subst ht_
                  refine q_do (.pointer (some (ad56.add x9_2.toNat))) (fun w'_ hc_ => by obtain ⟨n_, hn_⟩ := hc_; exact ex_sat _ _ x9_2 _ _ HV_45.out hc104.out hc102.out us43 sT3 _ _ rfl rfl rfl) rfl rfl ?_
                  intro ts_ ht_; simp only [List.setIfInBounds_toArray, List.set_cons_zero, List.set_cons_succ] at ht_; subst ht_
                  refine q_do (.int .i64 (nt t53 x9_2.toNat 0)) (fun w'_ hc_ => by obtain ⟨n_, hn_⟩ := hc_; exact ex_scell sT3 _ _ (by rw [hn_]; exact (n_.below.cell (World.block_lt_of_cell? _ _ HCad56.out)).trans HCad56.out) _ rfl rfl) rfl rfl ?_
                  intro ts_ ht_; simp only [List.setIfInBounds_toArray, List.set_cons_zero, List.set_cons_succ] at ht_; subst ht_
                  refine q_call (.string t57) 67 #[.int .i64 (nt t53 x9_2.toNat 0)] (fun w'_ => by go_simp) (fun w'_ hc_ => (i_alfilref01_Name.calls k101 (nt t53 x9_2.toNat 0) t57 _ A105.out).mono fun e_ w2_ h_ => ⟨h_.1, up_below hc_ h_.2⟩) rfl rfl ?_
                  intro ts_ ht_; simp only [List.setIfInBounds_toArray, List.set_cons_zero, List.set_cons_succ] at ht_; subst ht_
                  refine q_do (.string (((⟨#[32]⟩ : ByteArray) ++ (letterB x6_1)) ++ t57)) (fun w'_ hc_ => by obtain ⟨n_, hn_⟩ := hc_; exact ex_cat 9 ((⟨#[32]⟩ : ByteArray) ++ (letterB x6_1)) t57 hc106.out _ _ _ rfl rfl rfl) rfl rfl ?_
                  intro ts_ ht_; simp only [List.setIfInBounds_toArray, List.set_cons_zero, List.set_cons_succ] at ht_; subst ht_
                  refine q_do (.string (x4_2 ++ (((⟨#[32]⟩ : ByteArray) ++ (letterB x6_1)) ++ t57))) (fun w'_ hc_ => by obtain ⟨n_, hn_⟩ := hc_; exact ex_cat 9 x4_2 (((⟨#[32]⟩ : ByteArray) ++ (letterB x6_1)) ++ t57) hc107.out _ _ _ rfl rfl rfl) rfl rfl ?_
                  intro ts_ ht_; simp only [List.setIfInBounds_toArray, List.set_cons_zero, List.set_cons_succ] at ht_; subst ht_
                  refine q_do (.string (x4_2 ++ (((⟨#[32]⟩ : ByteArray) ++ (letterB x6_1)) ++ t57))) (fun w'_ hc_ => ex_mv (.tmp 49) (.inr rfl) _ rfl) rfl rfl ?_
                  intro ts_ ht_; simp only [List.setIfInBounds_toArray, List.set_cons_zero, List.set_cons_succ] at ht_; subst ht_
                  refine q_end ?_
                  rintro w8_ ⟨n_, rfl⟩
                  replace BKb1 := hid (BKb1.out.below n_.below BKb1.out.lt)
                  replace SWt53 := hid (SWt53.out.below n_.below)
                  replace HL := hid (HL.out.trans (n_.below.mono HL.out.size))
                  generalize n_.world = w111 at *
                  clear n_ WR64 WR32
                  go_wp2_with fail
                  (try simp only [Act.put, List.setIfInBounds_toArray, List.set_cons_zero, List.set_cons_succ])
                  go_roundg k101
                  case measure => have := HK88.out; have := HK93.out; have := HK100.out; omega
                  case rel => exact ⟨x4_2 ++ (((⟨#[32]⟩ : ByteArray) ++ (letterB x6_1)) ++ t57), wrap64 (x9_2 + 1), (by first | rfl | (simp; done) | (simp [*]; done)), (by first | rfl | (simp; done) | (simp [*]; done)), H', (hid (by first | omega | (have := HK88.out; have := HK93.out; have := HK100.out; omega))), (hid (by exact BKb1.out)), SWt53, HL⟩
                 ·
                  rw [if_neg c107] at H
                  exact absurd H (by simp)
                ·
                 rw [if_neg c106] at H
                 exact absurd H (by simp)
               ·
                rw [if_neg c104] at H
                exact absurd H (by simp)
              ·
               rw [if_neg c103] at H
               exact absurd H (by simp)
             ·
              rw [if_neg c102] at H
              have c102b0 : decide (x9_2 < (t53.length : Int)) = false := decide_eq_false c102
              have hc102 := hid c102
              clear c102
              have H' := hid H
              clear H
              go_wp2_with (first
               | ((with_reducible refine gate_d (N := 35) rfl ?_); obtain ⟨A112, c113, hv114⟩ := SWt53.out.sl.shape; rw [List.length_map] at hv114; refine ag_fix (.int .i64 (t53.length : Int)) (ex_len us43 _ _ _ _ hv114 _ rfl rfl) rfl ?_; clear hv114))
              (try simp only [Act.put, List.setIfInBounds_toArray, List.set_cons_zero, List.set_cons_succ])
              go_roundg k101
              case measure => have := HK88.out; have := HK93.out; have := HK100.out; omega
              case rel => exact ⟨x4_2, wrap64 (x6_1 - 1), (by first | rfl | (simp; done) | (simp [*]; done)), (by first | rfl | (simp; done) | (simp [*]; done)), H', (hid (by first | omega | (have := HK88.out; have := HK93.out; have := HK100.out; omega))), (hid (by exact BKb1.out)), HL⟩
          ·
           rw [if_neg c96] at H
           exfalso
           clear H
           have := hc90.out; have := hc91.out; omega
         ·
          rw [if_neg c95] at H
          have c95b0 : decide (1 ≤ x6_1) = false := decide_eq_false c95
          have hc95 := hid c95
          clear c95
          have H' := hid H
          clear H
          go_wp2_with fail
          (try simp only [Act.put, List.setIfInBounds_toArray, List.set_cons_zero, List.set_cons_succ])
          go_roundg k94
          case measure => have := HK88.out; have := HK93.out; omega
          case rel => exact ⟨x4_1, wrap64 (x5_0 + 1), (by first | rfl | (simp; done) | (simp [*]; done)), (by first | rfl | (simp; done) | (simp [*]; done)), H', (hid (by first | omega | (have := HK88.out; have := HK93.out; omega))), (hid (by exact BKb1.out)), HL⟩
      ·
       rw [if_neg c92] at H
       exact absurd H (by simp)
     ·
      rw [if_neg c91] at H
      have c91b0 : (x5_0 == 1) = false := beq_eq_false_iff_ne.mpr c91
      have c91b1 : (x5_0 != 1) = true := bne_iff_ne.mpr c91
      have hc91 := hid c91
      clear c91
      have H' := hid H
      clear H
      go_wp2_with fail
      (try simp only [Act.put, List.setIfInBounds_toArray, List.set_cons_zero, List.set_cons_succ])
      go_loopg [4, 6] k89 (fun kq v4 v6 w' => ∃ (x4_4 : ByteArray) (x6_4 : Int), v4 = .string x4_4 ∧ v6 = .int .i64 x6_4 ∧ Hid (i_alfilref05_Write.l4 kq a0 x5_0 x4_4 x6_4 = some (r1, r2)) ∧ Hid (kq ≤ k89) ∧ Hid (Blk w' gb1 24 (bv a0)) ∧ Hid (Below w.heap.size w w'))
      case atStart => exact ⟨x4_0, (6 : Int), (by first | rfl | (simp; done) | (simp [*]; done)), (by first | rfl | (simp; done) | (simp [*]; done)), H', (hid (by first | omega | (have := HK88.out; omega))), (hid (by exact BKb1.out)), HL⟩
      case round =>
       clear H'
       clear HL BKb1
       obtain ⟨x4_4, x6_4, rfl, rfl, HA, HK115, BKb1, HL⟩ := hrel
       cases gk with
       | zero => exact absurd HA.out (by simp [i_alfilref05_Write.l4])
       | succ k116 =>
        have H := HA.out
        clear HA
        simp only [i_alfilref05_Write.l4] at H
        by_cases c117 : x6_4 ≥ 1
        ·
         rw [if_pos c117] at H
         have c117b0 : decide (1 ≤ x6_4) = true := decide_eq_true c117
         have hc117 := hid c117
         clear c117
         by_cases c118 : x5_0 = 1
         ·
          rw [if_pos c118] at H
          exfalso
          clear H
          have := hc90.out; have := hc91.out; omega
         ·
          rw [if_neg c118] at H
          have c118b0 : (x5_0 == 1) = false := beq_eq_false_iff_ne.mpr c118
          have c118b1 : (x5_0 != 1) = true := bne_iff_ne.mpr c118
          have hc118 := hid c118
          clear c118
          replace H := Option.bind_eq_some_iff.mp H
          obtain ⟨t78, A119_, H⟩ := H
          replace H : (i_alfilref05_Write.l6 k116 a0 x5_0 x6_4 t78 x4_4 0) = some (r1, r2) := H
          have A119 := hid A119_
          clear A119_
          have H' := hid H
          clear H
          have k120 := True.intro
          go_wp2_with (first
           | ((with_reducible refine gate_d (N := 30) rfl ?_); refine ag_fix (.agg (bv a0)) (ex_load boardT gb1 0 (bv a0) (bv a0) BKb1.out (av_le (by first | rfl | (simp only [List.length_set, List.length_replicate, zL_len, List.length_cons, List.length_nil, LN_a0.out]; done) | (simp [zL_len, LN_a0.out]; done))) (av_ex (by first | rfl | (simp only [List.length_set, List.length_replicate, zL_len, List.length_cons, List.length_nil, LN_a0.out]; done) | (simp [zL_len, LN_a0.out]; done))) _ rfl rfl) rfl ?_)
           | (go_at_call 32; clear k120; refine (i_alfilref03_Where.calls k116 a0 x6_4 (by first | rfl | (simp only [List.length_set, List.length_replicate, zL_len, List.length_cons, List.length_nil, LN_a0.out]; done) | (simp [zL_len, LN_a0.out]; done)) t78 _ A119.out).mono ?_; rintro e_ w121 ⟨ut78, rfl, so_t78, hb_⟩; replace so_t78 := so_t78.mono HL.out.size; have SWn_t78 := hid so_t78; clear so_t78; replace BKb1 := hid (BKb1.out.below hb_ BKb1.out.lt); replace HL := hid (HL.out.trans (hb_.mono HL.out.size)); clear hb_; have SWt78 := SWn_t78; clear SWn_t78))
          (try simp only [Act.put, List.setIfInBounds_toArray, List.set_cons_zero, List.set_cons_succ])
          go_loopg [4, 9] k116 (fun kq v4 v9 w' => ∃ (x4_6 : ByteArray) (x9_6 : Int), v4 = .string x4_6 ∧ v9 = .int .i64 x9_6 ∧ Hid (i_alfilref05_Write.l6 kq a0 x5_0 x6_4 t78 x4_6 x9_6 = some (r1, r2)) ∧ Hid (kq ≤ k116) ∧ Hid (Blk w' gb1 24 (bv a0)) ∧ Hid (Own w' w.heap.size 3 (ut78) (t78.map (Value.int .i64))) ∧ Hid (Below w.heap.size w w'))
          case atStart => exact ⟨x4_4, (0 : Int), (by first | rfl | (simp; done) | (simp [*]; done)), (by first | rfl | (simp; done) | (simp [*]; done)), H', (hid (by first | omega | (have := HK88.out; have := HK115.out; omega))), (hid (by exact BKb1.out)), SWt78, HL⟩
          case round =>
           clear H'
           clear HL BKb1 SWt78
           obtain ⟨x4_6, x9_6, rfl, rfl, HA, HK122, BKb1, SWt78, HL⟩ := hrel
           cases gk with
           | zero => exact absurd HA.out (by simp [i_alfilref05_Write.l6])
           | succ k123 =>
            have H := HA.out
            clear HA
            simp only [i_alfilref05_Write.l6] at H
            by_cases c124 : x9_6 < (t78.length : Int)
            ·
             rw [if_pos c124] at H
             have c124b0 : decide (x9_6 < (t78.length : Int)) = true := decide_eq_true c124
             have hc124 := hid c124
             clear c124
             by_cases c125 : 1 + (letterB x6_4).size ≤ 9223372036854775807
             ·
              rw [if_pos c125] at H
              have c125b0 : decide (1 + (letterB x6_4).size ≤ 9223372036854775807) = true := decide_eq_true c125
              have hc125 := hid c125
              clear c125
              by_cases c126 : 0 ≤ x9_6
              ·
               rw [if_pos c126] at H
               have c126b0 : decide (0 ≤ x9_6) = true := decide_eq_true c126
               have hc126 := hid c126
               clear c126
               replace H := Option.bind_eq_some_iff.mp H
               obtain ⟨t82, A127_, H⟩ := H
               replace H : (if ((⟨#[32]⟩ : ByteArray) ++ (letterB x6_4)).size + t82.size ≤ 9223372036854775807 then (if x4_6.size + (((⟨#[32]⟩ : ByteArray) ++ (letterB x6_4)) ++ t82).size ≤ 9223372036854775807 then (i_alfilref05_Write.l6 k123 a0 x5_0 x6_4 t78 (x4_6 ++ (((⟨#[32]⟩ : ByteArray) ++ (letterB x6_4)) ++ t82)) (wrap64 (x9_6 + 1))) else (none)) else (none)) = some (r1, r2) := H
               have A127 := hid A127_
               clear A127_
               by_cases c128 : ((⟨#[32]⟩ : ByteArray) ++ (letterB x6_4)).size + t82.size ≤ 9223372036854775807
               ·
                rw [if_pos c128] at H
                have hc128 := hid c128
                clear c128
                by_cases c129 : x4_6.size + (((⟨#[32]⟩ : ByteArray) ++ (letterB x6_4)) ++ t82).size ≤ 9223372036854775807
                ·
                 rw [if_pos c129] at H
                 have hc129 := hid c129
                 clear c129
                 have H' := hid H
                 clear H
                 go_wp2_with (first
                  | ((with_reducible refine gate_d (N := 35) rfl ?_); obtain ⟨A130, c131, hv132⟩ := SWt78.out.sl.shape; rw [List.length_map] at hv132; refine ag_fix (.int .i64 (t78.length : Int)) (ex_len us43 _ _ _ _ hv132 _ rfl rfl) rfl ?_; clear hv132))
                 (try simp only [Act.put, List.setIfInBounds_toArray, List.set_cons_zero, List.set_cons_succ])
                 obtain ⟨ad81, c_45, hv_45, hc_45⟩ := Sl.get (l := t78) (f := (Value.int .i64)) SWt78.out.sl 0 (i := x9_6) hc126.out hc124.out
                 have HV_45 := hid hv_45
                 have HCad81 := hid hc_45
                 clear hv_45 hc_45
                 have WR64 := i64_w
                 have WR32 := i32_w
                 refine up_regionW (by kernel_rfl) (by kernel_rfl) ?_
                 refine q_do (.string x4_6) (fun w'_ hc_ => ex_mv (.tmp 4) (.inl rfl) _ rfl) rfl rfl ?_
                 intro ts_ ht_; simp only [List.setIfInBounds_toArray, List.set_cons_zero, List.set_cons_succ] at ht_; subst ht_
                 refine q_do (.int .i64 x6_4) (fun w'_ hc_ => ex_mv (.tmp 6) (.inl rfl) _ rfl) rfl rfl ?_
                 intro ts_ ht_; simp only [List.setIfInBounds_toArray, List.set_cons_zero, List.set_cons_succ] at ht_; subst ht_
                 refine q_call (.string (letterB x6_4)) 65 #[.int .i64 x6_4] (fun w'_ => by go_simp) (fun w'_ hc_ => (rLetter x6_4 _).mono fun e_ w2_ h_ => ⟨h_.1, up_below hc_ h_.2⟩) rfl rfl ?_
                 intro ts_ ht_; simp only [List.setIfInBounds_toArray, List.set_cons_zero, List.set_cons_succ] at ht_; subst ht_
                 refine q_do (.string ((⟨#[32]⟩ : ByteArray) ++ (letterB x6_4))) (fun w'_ hc_ => by obtain ⟨n_, hn_⟩ := hc_; exact ex_cat 9 (⟨#[32]⟩ : ByteArray) (letterB x6_4) hc125.out _ _ _ rfl rfl rfl) rfl rfl ?_
                 intro ts_ ht_; simp only [List.setIfInBounds_toArray, List.set_cons_zero, List.set_cons_succ] at ht_; subst ht_
                 refine q_do (ut78) (fun w'_ hc_ => ex_mv (.tmp 8) (.inl rfl) _ rfl) rfl rfl ?_
                 intro ts_ ht_; simp only [List.setIfInBounds_toArray, List.set_cons_zero, List.set_cons_succ] at ht_; subst ht_
                 refine q_do (.int .i64 x9_6) (fun w'_ hc_ => ex_mv (.tmp 9) (.inl rfl) _ rfl) rfl rfl ?_
                 intro ts_ ht_; simp only [List.setIfInBounds_toArray, List.set_cons_zero, List.set_cons_succ] at ht_; subst ht_
                 refine q_do (.pointer (some (ad81.add x9_6.toNat))) (fun w'_ hc_ => by obtain ⟨n_, hn_⟩ := hc_; exact ex_sat _ _ x9_6 _ _ HV_45.out hc126.out hc124.out us43 sT3 _ _ rfl rfl rfl) rfl rfl ?_
                 intro ts_ ht_; simp only [List.setIfInBounds_toArray, List.set_cons_zero, List.set_cons_succ] at ht_; subst ht_
                 refine q_do (.int .i64 (nt t78 x9_6.toNat 0)) (fun w'_ hc_ => by obtain ⟨n_, hn_⟩ := hc_; exact ex_scell sT3 _ _ (by rw [hn_]; exact (n_.below.cell (World.block_lt_of_cell? _ _ HCad81.out)).trans HCad81.out) _ rfl rfl) rfl rfl ?_
                 intro ts_ ht_; simp only [List.setIfInBounds_toArray, List.set_cons_zero, List.set_cons_succ] at ht_; subst ht_
                 refine q_call (.string t82) 67 #[.int .i64 (nt t78 x9_6.toNat 0)] (fun w'_ => by go_simp) (fun w'_ hc_ => (i_alfilref01_Name.calls k123 (nt t78 x9_6.toNat 0) t82 _ A127.out).mono fun e_ w2_ h_ => ⟨h_.1, up_below hc_ h_.2⟩) rfl rfl ?_
                 intro ts_ ht_; simp only [List.setIfInBounds_toArray, List.set_cons_zero, List.set_cons_succ] at ht_; subst ht_
                 refine q_do (.string (((⟨#[32]⟩ : ByteArray) ++ (letterB x6_4)) ++ t82)) (fun w'_ hc_ => by obtain ⟨n_, hn_⟩ := hc_; exact ex_cat 9 ((⟨#[32]⟩ : ByteArray) ++ (letterB x6_4)) t82 hc128.out _ _ _ rfl rfl rfl) rfl rfl ?_
                 intro ts_ ht_; simp only [List.setIfInBounds_toArray, List.set_cons_zero, List.set_cons_succ] at ht_; subst ht_
                 refine q_do (.string (x4_6 ++ (((⟨#[32]⟩ : ByteArray) ++ (letterB x6_4)) ++ t82))) (fun w'_ hc_ => by obtain ⟨n_, hn_⟩ := hc_; exact ex_cat 9 x4_6 (((⟨#[32]⟩ : ByteArray) ++ (letterB x6_4)) ++ t82) hc129.out _ _ _ rfl rfl rfl) rfl rfl ?_
                 intro ts_ ht_; simp only [List.setIfInBounds_toArray, List.set_cons_zero, List.set_cons_succ] at ht_; subst ht_
                 refine q_do (.string (x4_6 ++ (((⟨#[32]⟩ : ByteArray) ++ (letterB x6_4)) ++ t82))) (fun w'_ hc_ => ex_mv (.tmp 49) (.inr rfl) _ rfl) rfl rfl ?_
                 intro ts_ ht_; simp only [List.setIfInBounds_toArray, List.set_cons_zero, List.set_cons_succ] at ht_; subst ht_
                 refine q_end ?_
                 rintro w8_ ⟨n_, rfl⟩
                 replace BKb1 := hid (BKb1.out.below n_.below BKb1.out.lt)
                 replace SWt78 := hid (SWt78.out.below n_.below)
                 replace HL := hid (HL.out.trans (n_.below.mono HL.out.size))
                 generalize n_.world = w133 at *
                 clear n_ WR64 WR32
                 go_wp2_with fail
                 (try simp only [Act.put, List.setIfInBounds_toArray, List.set_cons_zero, List.set_cons_succ])
                 go_roundg k123
                 case measure => have := HK88.out; have := HK115.out; have := HK122.out; omega
                 case rel => exact ⟨x4_6 ++ (((⟨#[32]⟩ : ByteArray) ++ (letterB x6_4)) ++ t82), wrap64 (x9_6 + 1), (by first | rfl | (simp; done) | (simp [*]; done)), (by first | rfl | (simp; done) | (simp [*]; done)), H', (hid (by first | omega | (have := HK88.out; have := HK115.out; have := HK122.out; omega))), (hid (by exact BKb1.out)), SWt78, HL⟩
                ·
                 rw [if_neg c129] at H
                 exact absurd H (by simp)
               ·
                rw [if_neg c128] at H
                exact absurd H (by simp)
              ·
               rw [if_neg c126] at H
               exact absurd H (by simp)
             ·
              rw [if_neg c125] at H
              exact absurd H (by simp)
            ·
             rw [if_neg c124] at H
             have c124b0 : decide (x9_6 < (t78.length : Int)) = false := decide_eq_false c124
             have hc124 := hid c124
             clear c124
             have H' := hid H
             clear H
             go_wp2_with (first
              | ((with_reducible refine gate_d (N := 35) rfl ?_); obtain ⟨A134, c135, hv136⟩ := SWt78.out.sl.shape; rw [List.length_map] at hv136; refine ag_fix (.int .i64 (t78.length : Int)) (ex_len us43 _ _ _ _ hv136 _ rfl rfl) rfl ?_; clear hv136))
             (try simp only [Act.put, List.setIfInBounds_toArray, List.set_cons_zero, List.set_cons_succ])
             go_roundg k123
             case measure => have := HK88.out; have := HK115.out; have := HK122.out; omega
             case rel => exact ⟨x4_6, wrap64 (x6_4 - 1), (by first | rfl | (simp; done) | (simp [*]; done)), (by first | rfl | (simp; done) | (simp [*]; done)), H', (hid (by first | omega | (have := HK88.out; have := HK115.out; have := HK122.out; omega))), (hid (by exact BKb1.out)), HL⟩
        ·
         rw [if_neg c117] at H
         have c117b0 : decide (1 ≤ x6_4) = false := decide_eq_false c117
         have hc117 := hid c117
         clear c117
         have H' := hid H
         clear H
         go_wp2_with fail
         (try simp only [Act.put, List.setIfInBounds_toArray, List.set_cons_zero, List.set_cons_succ])
         go_roundg k116
         case measure => have := HK88.out; have := HK115.out; omega
         case rel => exact ⟨x4_4, wrap64 (x5_0 + 1), (by first | rfl | (simp; done) | (simp [*]; done)), (by first | rfl | (simp; done) | (simp [*]; done)), H', (hid (by first | omega | (have := HK88.out; have := HK115.out; omega))), (hid (by exact BKb1.out)), HL⟩
    ·
     rw [if_neg c90] at H
     have c90b0 : decide (x5_0 < 2) = false := decide_eq_false c90
     have hc90 := hid c90
     clear c90
     simp only [Option.some.injEq, Prod.mk.injEq] at H
     obtain ⟨rfl, rfl⟩ := H
     go_wp2_with fail
     (try simp only [Act.put, List.setIfInBounds_toArray, List.set_cons_zero, List.set_cons_succ])
     go_ret2
     exact ⟨by first | rfl | (simp; done) | (simp [*]; done), HL.out⟩
 | false =>
  rw [if_neg (show ¬ (false = true) by decide)] at H
  simp only [Option.some.injEq, Prod.mk.injEq] at H
  obtain ⟨rfl, rfl⟩ := H
  go_enter Try.func43, Try.ntmps43
  have k138 := True.intro
  go_wp2_with (first
   | ((with_reducible refine gate_d (N := 1) rfl ?_); obtain ⟨gb1, hgb1⟩ : ∃ g_, w.heap.size = g_ := ⟨_, rfl⟩; refine ag_box (bv a0) gb1 hgb1 rfl _ rfl rfl ?_; intro w137 hb_ hB_ hs_; have GEb1 : Hid (w.heap.size ≤ gb1) := hid (by have := HL.out.size; omega); replace HL := hid (HL.out.trans (hb_.mono GEb1.out)); have BKb1 := hid hB_; clear hb_ hB_ hs_ hgb1)
   | ((with_reducible refine gate_d (N := 10) rfl ?_); refine ag_fix (.agg (bv a0)) (ex_load boardT gb1 0 (bv a0) (bv a0) BKb1.out (av_le (by first | rfl | (simp only [List.length_set, List.length_replicate, zL_len, List.length_cons, List.length_nil, LN_a0.out]; done) | (simp [zL_len, LN_a0.out]; done))) (av_ex (by first | rfl | (simp only [List.length_set, List.length_replicate, zL_len, List.length_cons, List.length_nil, LN_a0.out]; done) | (simp [zL_len, LN_a0.out]; done))) _ rfl rfl) rfl ?_)
   | (go_at_call 20; clear k138; refine (i_alfilref03_Right.calls k a0 (by first | rfl | (simp only [List.length_set, List.length_replicate, zL_len, List.length_cons, List.length_nil, LN_a0.out]; done) | (simp [zL_len, LN_a0.out]; done)) false _ A83.out).mono ?_; rintro e_ w139 ⟨rfl, hb_⟩; replace BKb1 := hid (BKb1.out.below hb_ BKb1.out.lt); replace HL := hid (HL.out.trans (hb_.mono HL.out.size)); clear hb_))
  (try simp only [Act.put, List.setIfInBounds_toArray, List.set_cons_zero, List.set_cons_succ])
  go_ret2
  exact ⟨by first | rfl | (simp; done) | (simp [*]; done), HL.out⟩
end Go.Proofs.Ytpgdcpkggmkooaa
