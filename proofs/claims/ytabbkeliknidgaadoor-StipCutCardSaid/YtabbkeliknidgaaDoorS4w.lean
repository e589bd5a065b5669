/- The walks of stipulations that are written. -/
import Derived.Test.YtabbkeliknidgaaDoorProg
import Derived.Test.YtabbkeliknidgaaDoorS1w
import Derived.Test.YtabbkeliknidgaaDoorS2w
namespace Go.Proofs.YtabbkeliknidgaaDoor
open Go.RowKit
set_option linter.unusedVariables false
set_option linter.unusedSimpArgs false

/-! i_intstrconv_small: function 32 -/
def i_intstrconv_small.f (a0 : Int) : Option (ByteArray) := if a0 < 10 then (if 0 ≤ a0 then (if a0 ≤ (wrap64 (a0 + 1)) then (if (wrap64 (a0 + 1)) ≤ 36 then (some ((⟨#[48, 49, 50, 51, 52, 53, 54, 55, 56, 57, 97, 98, 99, 100, 101, 102, 103, 104, 105, 106, 107, 108, 109, 110, 111, 112, 113, 114, 115, 116, 117, 118, 119, 120, 121, 122]⟩ : ByteArray).extract (a0 : Int).toNat ((wrap64 (a0 + 1)) : Int).toNat)) else (none)) else (none)) else (none)) else (if 0 ≤ (wrap64 (a0 * 2)) then (if (wrap64 (a0 * 2)) ≤ (wrap64 ((wrap64 (a0 * 2)) + 2)) then (if (wrap64 ((wrap64 (a0 * 2)) + 2)) ≤ 200 then (some ((⟨#[48, 48, 48, 49, 48, 50, 48, 51, 48, 52, 48, 53, 48, 54, 48, 55, 48, 56, 48, 57, 49, 48, 49, 49, 49, 50, 49, 51, 49, 52, 49, 53, 49, 54, 49, 55, 49, 56, 49, 57, 50, 48, 50, 49, 50, 50, 50, 51, 50, 52, 50, 53, 50, 54, 50, 55, 50, 56, 50, 57, 51, 48, 51, 49, 51, 50, 51, 51, 51, 52, 51, 53, 51, 54, 51, 55, 51, 56, 51, 57, 52, 48, 52, 49, 52, 50, 52, 51, 52, 52, 52, 53, 52, 54, 52, 55, 52, 56, 52, 57, 53, 48, 53, 49, 53, 50, 53, 51, 53, 52, 53, 53, 53, 54, 53, 55, 53, 56, 53, 57, 54, 48, 54, 49, 54, 50, 54, 51, 54, 52, 54, 53, 54, 54, 54, 55, 54, 56, 54, 57, 55, 48, 55, 49, 55, 50, 55, 51, 55, 52, 55, 53, 55, 54, 55, 55, 55, 56, 55, 57, 56, 48, 56, 49, 56, 50, 56, 51, 56, 52, 56, 53, 56, 54, 56, 55, 56, 56, 56, 57, 57, 48, 57, 49, 57, 50, 57, 51, 57, 52, 57, 53, 57, 54, 57, 55, 57, 56, 57, 57]⟩ : ByteArray).extract ((wrap64 (a0 * 2)) : Int).toNat ((wrap64 ((wrap64 (a0 * 2)) + 2)) : Int).toNat)) else (none)) else (none)) else (none))
set_option maxHeartbeats 40000000 in
set_option maxRecDepth 100000 in
theorem i_intstrconv_small.calls (a0 : Int) (r1 : ByteArray) (w : World) (h : i_intstrconv_small.f a0 = some r1) :
    Calls Tryd.prog 32 #[.int .i64 a0] w fun e w' => e = .returned (.string r1) ∧ w = w' := by
 have H : (if a0 < 10 then (if 0 ≤ a0 then (if a0 ≤ (wrap64 (a0 + 1)) then (if (wrap64 (a0 + 1)) ≤ 36 then (some ((⟨#[48, 49, 50, 51, 52, 53, 54, 55, 56, 57, 97, 98, 99, 100, 101, 102, 103, 104, 105, 106, 107, 108, 109, 110, 111, 112, 113, 114, 115, 116, 117, 118, 119, 120, 121, 122]⟩ : ByteArray).extract (a0 : Int).toNat ((wrap64 (a0 + 1)) : Int).toNat)) else (none)) else (none)) else (none)) else (if 0 ≤ (wrap64 (a0 * 2)) then (if (wrap64 (a0 * 2)) ≤ (wrap64 ((wrap64 (a0 * 2)) + 2)) then (if (wrap64 ((wrap64 (a0 * 2)) + 2)) ≤ 200 then (some ((⟨#[48, 48, 48, 49, 48, 50, 48, 51, 48, 52, 48, 53, 48, 54, 48, 55, 48, 56, 48, 57, 49, 48, 49, 49, 49, 50, 49, 51, 49, 52, 49, 53, 49, 54, 49, 55, 49, 56, 49, 57, 50, 48, 50, 49, 50, 50, 50, 51, 50, 52, 50, 53, 50, 54, 50, 55, 50, 56, 50, 57, 51, 48, 51, 49, 51, 50, 51, 51, 51, 52, 51, 53, 51, 54, 51, 55, 51, 56, 51, 57, 52, 48, 52, 49, 52, 50, 52, 51, 52, 52, 52, 53, 52, 54, 52, 55, 52, 56, 52, 57, 53, 48, 53, 49, 53, 50, 53, 51, 53, 52, 53, 53, 53, 54, 53, 55, 53, 56, 53, 57, 54, 48, 54, 49, 54, 50, 54, 51, 54, 52, 54, 53, 54, 54, 54, 55, 54, 56, 54, 57, 55, 48, 55, 49, 55, 50, 55, 51, 55, 52, 55, 53, 55, 54, 55, 55, 55, 56, 55, 57, 56, 48, 56, 49, 56, 50, 56, 51, 56, 52, 56, 53, 56, 54, 56, 55, 56, 56, 56, 57, 57, 48, 57, 49, 57, 50, 57, 51, 57, 52, 57, 53, 57, 54, 57, 55, 57, 56, 57, 57]⟩ : ByteArray).extract ((wrap64 (a0 * 2)) : Int).toNat ((wrap64 ((wrap64 (a0 * 2)) + 2)) : Int).toNat)) else (none)) else (none)) else (none))) = some r1 := h
 clear h
 by_cases c1 : a0 < 10
 ·
  rw [if_pos c1] at H
  have c1b0 : decide (a0 < 10) = true := decide_eq_true c1
  have hc1 := hid c1
  clear c1
  by_cases c2 : 0 ≤ a0
  ·
   rw [if_pos c2] at H
   have c2b0 : decide (0 ≤ a0) = true := decide_eq_true c2
   have hc2 := hid c2
   clear c2
   by_cases c3 : a0 ≤ (wrap64 (a0 + 1))
   ·
    rw [if_pos c3] at H
    have c3b0 : decide (a0 ≤ (wrap64 (a0 + 1))) = true := decide_eq_true c3
    have hc3 := hid c3
    clear c3
    by_cases c4 : (wrap64 (a0 + 1)) ≤ 36
    ·
     rw [if_pos c4] at H
     have c4b0 : decide ((wrap64 (a0 + 1)) ≤ 36) = true := decide_eq_true c4
     have hc4 := hid c4
     clear c4
     obtain rfl := Option.some.inj H
     clear H
     go_enter Tryd.func32, Tryd.ntmps32
     go_wp2_with (first
      | ((with_reducible refine gate_d (N := 8) rfl ?_); refine ag_fix (.string ((⟨#[48, 49, 50, 51, 52, 53, 54, 55, 56, 57, 97, 98, 99, 100, 101, 102, 103, 104, 105, 106, 107, 108, 109, 110, 111, 112, 113, 114, 115, 116, 117, 118, 119, 120, 121, 122]⟩ : ByteArray).extract (a0 : Int).toNat ((wrap64 (a0 + 1)) : Int).toNat)) (ex_cut_lh 9 und_txt (⟨#[48, 49, 50, 51, 52, 53, 54, 55, 56, 57, 97, 98, 99, 100, 101, 102, 103, 104, 105, 106, 107, 108, 109, 110, 111, 112, 113, 114, 115, 116, 117, 118, 119, 120, 121, 122]⟩ : ByteArray) a0 (wrap64 (a0 + 1)) hc2.out hc3.out hc4.out _ _ _ rfl rfl rfl rfl) rfl ?_))
     (try simp only [Act.put, List.setIfInBounds_toArray, List.set_cons_zero, List.set_cons_succ])
     go_ret
     exact ⟨by first | rfl | (simp; done) | (simp [*]; done), rfl⟩
    ·
     rw [if_neg c4] at H
     exact absurd H (by simp)
   ·
    rw [if_neg c3] at H
    exact absurd H (by simp)
  ·
   rw [if_neg c2] at H
   exact absurd H (by simp)
 ·
  rw [if_neg c1] at H
  have c1b0 : decide (a0 < 10) = false := decide_eq_false c1
  have hc1 := hid c1
  clear c1
  by_cases c5 : 0 ≤ (wrap64 (a0 * 2))
  ·
   rw [if_pos c5] at H
   have c5b0 : decide (0 ≤ (wrap64 (a0 * 2))) = true := decide_eq_true c5
   have hc5 := hid c5
   clear c5
   by_cases c6 : (wrap64 (a0 * 2)) ≤ (wrap64 ((wrap64 (a0 * 2)) + 2))
   ·
    rw [if_pos c6] at H
    have c6b0 : decide ((wrap64 (a0 * 2)) ≤ (wrap64 ((wrap64 (a0 * 2)) + 2))) = true := decide_eq_true c6
    have hc6 := hid c6
    clear c6
    by_cases c7 : (wrap64 ((wrap64 (a0 * 2)) + 2)) ≤ 200
    ·
     rw [if_pos c7] at H
     have c7b0 : decide ((wrap64 ((wrap64 (a0 * 2)) + 2)) ≤ 200) = true := decide_eq_true c7
     have hc7 := hid c7
     clear c7
     obtain rfl := Option.some.inj H
     clear H
     go_enter Tryd.func32, Tryd.ntmps32
     go_wp2_with (first
      | ((with_reducible refine gate_d (N := 14) rfl ?_); refine ag_fix (.string ((⟨#[48, 48, 48, 49, 48, 50, 48, 51, 48, 52, 48, 53, 48, 54, 48, 55, 48, 56, 48, 57, 49, 48, 49, 49, 49, 50, 49, 51, 49, 52, 49, 53, 49, 54, 49, 55, 49, 56, 49, 57, 50, 48, 50, 49, 50, 50, 50, 51, 50, 52, 50, 53, 50, 54, 50, 55, 50, 56, 50, 57, 51, 48, 51, 49, 51, 50, 51, 51, 51, 52, 51, 53, 51, 54, 51, 55, 51, 56, 51, 57, 52, 48, 52, 49, 52, 50, 52, 51, 52, 52, 52, 53, 52, 54, 52, 55, 52, 56, 52, 57, 53, 48, 53, 49, 53, 50, 53, 51, 53, 52, 53, 53, 53, 54, 53, 55, 53, 56, 53, 57, 54, 48, 54, 49, 54, 50, 54, 51, 54, 52, 54, 53, 54, 54, 54, 55, 54, 56, 54, 57, 55, 48, 55, 49, 55, 50, 55, 51, 55, 52, 55, 53, 55, 54, 55, 55, 55, 56, 55, 57, 56, 48, 56, 49, 56, 50, 56, 51, 56, 52, 56, 53, 56, 54, 56, 55, 56, 56, 56, 57, 57, 48, 57, 49, 57, 50, 57, 51, 57, 52, 57, 53, 57, 54, 57, 55, 57, 56, 57, 57]⟩ : ByteArray).extract ((wrap64 (a0 * 2)) : Int).toNat ((wrap64 ((wrap64 (a0 * 2)) + 2)) : Int).toNat)) (ex_cut_lh 9 und_txt (⟨#[48, 48, 48, 49, 48, 50, 48, 51, 48, 52, 48, 53, 48, 54, 48, 55, 48, 56, 48, 57, 49, 48, 49, 49, 49, 50, 49, 51, 49, 52, 49, 53, 49, 54, 49, 55, 49, 56, 49, 57, 50, 48, 50, 49, 50, 50, 50, 51, 50, 52, 50, 53, 50, 54, 50, 55, 50, 56, 50, 57, 51, 48, 51, 49, 51, 50, 51, 51, 51, 52, 51, 53, 51, 54, 51, 55, 51, 56, 51, 57, 52, 48, 52, 49, 52, 50, 52, 51, 52, 52, 52, 53, 52, 54, 52, 55, 52, 56, 52, 57, 53, 48, 53, 49, 53, 50, 53, 51, 53, 52, 53, 53, 53, 54, 53, 55, 53, 56, 53, 57, 54, 48, 54, 49, 54, 50, 54, 51, 54, 52, 54, 53, 54, 54, 54, 55, 54, 56, 54, 57, 55, 48, 55, 49, 55, 50, 55, 51, 55, 52, 55, 53, 55, 54, 55, 55, 55, 56, 55, 57, 56, 48, 56, 49, 56, 50, 56, 51, 56, 52, 56, 53, 56, 54, 56, 55, 56, 56, 56, 57, 57, 48, 57, 49, 57, 50, 57, 51, 57, 52, 57, 53, 57, 54, 57, 55, 57, 56, 57, 57]⟩ : ByteArray) (wrap64 (a0 * 2)) (wrap64 ((wrap64 (a0 * 2)) + 2)) hc5.out hc6.out hc7.out _ _ _ rfl rfl rfl rfl) rfl ?_))
     (try simp only [Act.put, List.setIfInBounds_toArray, List.set_cons_zero, List.set_cons_succ])
     go_ret
     exact ⟨by first | rfl | (simp; done) | (simp [*]; done), rfl⟩
    ·
     rw [if_neg c7] at H
     exact absurd H (by simp)
   ·
    rw [if_neg c6] at H
    exact absurd H (by simp)
  ·
   rw [if_neg c5] at H
   exact absurd H (by simp)
/-! i_intstrconv_FormatInt: function 30 -/
def i_intstrconv_FormatInt.f (a0 : Int) (a1 : Int) : Option (ByteArray) := if a1 = 10 then (if 0 ≤ a0 then (if a0 < 100 then ((i_intstrconv_small.f a0).bind fun t1 => (some t1)) else (if a0 < 0 then (none) else (none))) else (if a0 < 0 then (none) else (none))) else (none)
set_option maxHeartbeats 40000000 in
set_option maxRecDepth 100000 in
theorem i_intstrconv_FormatInt.calls (a0 : Int) (a1 : Int) (r1 : ByteArray) (w : World) (h : i_intstrconv_FormatInt.f a0 a1 = some r1) :
    Calls Tryd.prog 30 #[.int .i64 a0, .int .i64 a1] w fun e w' => e = .returned (.string r1) ∧ Below w.heap.size w w' := by
 have HL := hid (Below.refl w.heap.size w)
 have H : (if a1 = 10 then (if 0 ≤ a0 then (if a0 < 100 then ((i_intstrconv_small.f a0).bind fun t1 => (some t1)) else (if a0 < 0 then (none) else (none))) else (if a0 < 0 then (none) else (none))) else (none)) = some r1 := h
 clear h
 by_cases c4 : a1 = 10
 ·
  rw [if_pos c4] at H
  have c4b0 : (a1 == 10) = true := beq_iff_eq.mpr c4
  have c4b1 : (a1 != 10) = false := bne_eq_false_iff_eq.mpr c4
  have hc4 := hid c4
  clear c4
  by_cases c5 : 0 ≤ a0
  ·
   rw [if_pos c5] at H
   have c5b0 : decide (0 ≤ a0) = true := decide_eq_true c5
   have hc5 := hid c5
   clear c5
   by_cases c6 : a0 < 100
   ·
    rw [if_pos c6] at H
    have c6b0 : decide (a0 < 100) = true := decide_eq_true c6
    have hc6 := hid c6
    clear c6
    replace H := Option.bind_eq_some_iff.mp H
    obtain ⟨t1, A7_, H⟩ := H
    replace H : (some t1) = some r1 := H
    have A7 := hid A7_
    clear A7_
    obtain rfl := Option.some.inj H
    clear H
    go_enter Tryd.func30, Tryd.ntmps30
    have k8 := True.intro
    go_wp2_with (first
     | (go_at_call 32; clear k8; refine (i_intstrconv_small.calls a0 t1 _ A7.out).mono ?_; rintro e_ w' ⟨rfl, rfl⟩))
    (try simp only [Act.put, List.setIfInBounds_toArray, List.set_cons_zero, List.set_cons_succ])
    go_ret
    exact ⟨by first | rfl | (simp; done) | (simp [*]; done), HL.out⟩
   ·
    rw [if_neg c6] at H
    have c6b0 : decide (a0 < 100) = false := decide_eq_false c6
    have hc6 := hid c6
    clear c6
    by_cases c9 : a0 < 0
    ·
     rw [if_pos c9] at H
     exact absurd H (by simp)
    ·
     rw [if_neg c9] at H
     exact absurd H (by simp)
  ·
   rw [if_neg c5] at H
   have c5b0 : decide (0 ≤ a0) = false := decide_eq_false c5
   have hc5 := hid c5
   clear c5
   by_cases c10 : a0 < 0
   ·
    rw [if_pos c10] at H
    exact absurd H (by simp)
   ·
    rw [if_neg c10] at H
    exact absurd H (by simp)
 ·
  rw [if_neg c4] at H
  exact absurd H (by simp)
/-! i_intstrconv_Itoa: function 26 -/
def i_intstrconv_Itoa.f (a0 : Int) : Option (ByteArray) := (i_intstrconv_FormatInt.f a0 10).bind fun t1 => (some t1)
set_option maxHeartbeats 40000000 in
set_option maxRecDepth 100000 in
theorem i_intstrconv_Itoa.calls (a0 : Int) (r1 : ByteArray) (w : World) (h : i_intstrconv_Itoa.f a0 = some r1) :
    Calls Tryd.prog 26 #[.int .i64 a0] w fun e w' => e = .returned (.string r1) ∧ Below w.heap.size w w' := by
 have HL := hid (Below.refl w.heap.size w)
 have H : ((i_intstrconv_FormatInt.f a0 10).bind fun t1 => (some t1)) = some r1 := h
 clear h
 replace H := Option.bind_eq_some_iff.mp H
 obtain ⟨t1, A2_, H⟩ := H
 replace H : (some t1) = some r1 := H
 have A2 := hid A2_
 clear A2_
 obtain rfl := Option.some.inj H
 clear H
 go_enter Tryd.func26, Tryd.ntmps26
 have k3 := True.intro
 go_wp2_with (first
  | (go_at_call 30; clear k3; refine (i_intstrconv_FormatInt.calls a0 10 t1 _ A2.out).mono ?_; rintro e_ w4 ⟨rfl, hb_⟩; replace HL := hid (HL.out.trans (hb_.mono HL.out.size)); clear hb_))
 (try simp only [Act.put, List.setIfInBounds_toArray, List.set_cons_zero, List.set_cons_succ])
 go_ret
 exact ⟨by first | rfl | (simp; done) | (simp [*]; done), HL.out⟩
/-! i_strconv_Itoa: function 17 -/
def i_strconv_Itoa.f (a0 : Int) : Option (ByteArray) := (i_intstrconv_Itoa.f a0).bind fun t1 => (some t1)
set_option maxHeartbeats 40000000 in
set_option maxRecDepth 100000 in
theorem i_strconv_Itoa.calls (a0 : Int) (r1 : ByteArray) (w : World) (h : i_strconv_Itoa.f a0 = some r1) :
    Calls Tryd.prog 17 #[.int .i64 a0] w fun e w' => e = .returned (.string r1) ∧ Below w.heap.size w w' := by
 have HL := hid (Below.refl w.heap.size w)
 have H : ((i_intstrconv_Itoa.f a0).bind fun t1 => (some t1)) = some r1 := h
 clear h
 replace H := Option.bind_eq_some_iff.mp H
 obtain ⟨t1, A2_, H⟩ := H
 replace H : (some t1) = some r1 := H
 have A2 := hid A2_
 clear A2_
 obtain rfl := Option.some.inj H
 clear H
 go_enter Tryd.func17, Tryd.ntmps17
 have k3 := True.intro
 go_wp2_with (first
  | (go_at_call 26; clear k3; refine (i_intstrconv_Itoa.calls a0 t1 _ A2.out).mono ?_; rintro e_ w4 ⟨rfl, hb_⟩; replace HL := hid (HL.out.trans (hb_.mono HL.out.size)); clear hb_))
 (try simp only [Act.put, List.setIfInBounds_toArray, List.set_cons_zero, List.set_cons_succ])
 go_ret
 exact ⟨by first | rfl | (simp; done) | (simp [*]; done), HL.out⟩
/-! i_stip_Write: function 6 -/
def i_stip_Write.f (a0_0 : Int) (a0_1 : Int) (a0_2 : Int) (a0_3 : Bool) : Option (ByteArray × Bool) := (i_stip_right.f a0_0 a0_1 a0_2 a0_3).bind fun t2 => (if t2 = true then (if a0_0 = 8 then ((i_strconv_Itoa.f a0_2).bind fun t3 => (if 4 + t3.size ≤ 9223372036854775807 then (if a0_3 = true then (if ((⟨#[100, 105, 97, 32]⟩ : ByteArray) ++ t3).size + 2 ≤ 9223372036854775807 then (some (((⟨#[100, 105, 97, 32]⟩ : ByteArray) ++ t3) ++ (⟨#[46, 53]⟩ : ByteArray), true)) else (none)) else (some ((⟨#[100, 105, 97, 32]⟩ : ByteArray) ++ t3, true))) else (none))) else ((i_stip_kinds.f).bind fun t4 => (if 0 ≤ a0_0 then (if a0_0 < 8 then ((i_stip_goals.f).bind fun t5 => (if 0 ≤ a0_1 then (if a0_1 < 3 then (if (nt t4 a0_0.toNat ByteArray.empty).size + (nt t5 a0_1.toNat ByteArray.empty).size ≤ 9223372036854775807 then ((i_strconv_Itoa.f a0_2).bind fun t6 => (if ((nt t4 a0_0.toNat ByteArray.empty) ++ (nt t5 a0_1.toNat ByteArray.empty)).size + t6.size ≤ 9223372036854775807 then (if a0_3 = true then (if (((nt t4 a0_0.toNat ByteArray.empty) ++ (nt t5 a0_1.toNat ByteArray.empty)) ++ t6).size + 2 ≤ 9223372036854775807 then (some ((((nt t4 a0_0.toNat ByteArray.empty) ++ (nt t5 a0_1.toNat ByteArray.empty)) ++ t6) ++ (⟨#[46, 53]⟩ : ByteArray), true)) else (none)) else (some (((nt t4 a0_0.toNat ByteArray.empty) ++ (nt t5 a0_1.toNat ByteArray.empty)) ++ t6, true))) else (none))) else (none)) else (none)) else (none))) else (none)) else (none)))) else (some ((⟨#[]⟩ : ByteArray), false)))
set_option maxHeartbeats 40000000 in
set_option maxRecDepth 100000 in
theorem i_stip_Write.calls (a0_0 : Int) (a0_1 : Int) (a0_2 : Int) (a0_3 : Bool) (r1 : ByteArray) (r2 : Bool) (w : World) (h : i_stip_Write.f a0_0 a0_1 a0_2 a0_3 = some (r1, r2)) :
    Calls Tryd.prog 6 #[.agg #[.int .i64 a0_0, .int .i64 a0_1, .int .i64 a0_2, .bool a0_3]] w fun e w' => e = .returned (.tuple #[.string r1, .bool r2]) ∧ Below w.heap.size w w' := by
 have HL := hid (Below.refl w.heap.size w)
 have H : ((i_stip_right.f a0_0 a0_1 a0_2 a0_3).bind fun t2 => (if t2 = true then (if a0_0 = 8 then ((i_strconv_Itoa.f a0_2).bind fun t3 => (if 4 + t3.size ≤ 9223372036854775807 then (if a0_3 = true then (if ((⟨#[100, 105, 97, 32]⟩ : ByteArray) ++ t3).size + 2 ≤ 9223372036854775807 then (some (((⟨#[100, 105, 97, 32]⟩ : ByteArray) ++ t3) ++ (⟨#[46, 53]⟩ : ByteArray), true)) else (none)) else (some ((⟨#[100, 105, 97, 32]⟩ : ByteArray) ++ t3, true))) else (none))) else ((i_stip_kinds.f).bind fun t4 => (if 0 ≤ a0_0 then (if a0_0 < 8 then ((i_stip_goals.f).bind fun t5 => (if 0 ≤ a0_1 then (if a0_1 < 3 then (if (nt t4 a0_0.toNat ByteArray.empty).size + (nt t5 a0_1.toNat ByteArray.empty).size ≤ 9223372036854775807 then ((i_strconv_Itoa.f a0_2).bind fun t6 => (if ((nt t4 a0_0.toNat ByteArray.empty) ++ (nt t5 a0_1.toNat ByteArray.empty)).size + t6.size ≤ 9223372036854775807 then (if a0_3 = true then (if (((nt t4 a0_0.toNat ByteArray.empty) ++ (nt t5 a0_1.toNat ByteArray.empty)) ++ t6).size + 2 ≤ 9223372036854775807 then (some ((((nt t4 a0_0.toNat ByteArray.empty) ++ (nt t5 a0_1.toNat ByteArray.empty)) ++ t6) ++ (⟨#[46, 53]⟩ : ByteArray), true)) else (none)) else (some (((nt t4 a0_0.toNat ByteArray.empty) ++ (nt t5 a0_1.toNat ByteArray.empty)) ++ t6, true))) else (none))) else (none)) else (none)) else (none))) else (none)) else (none)))) else (some ((⟨#[]⟩ : ByteArray), false)))) = some (r1, r2) := h
 clear h
 replace H := Option.bind_eq_some_iff.mp H
 obtain ⟨t2, A7_, H⟩ := H
 replace H : (if t2 = true then (if a0_0 = 8 then ((i_strconv_Itoa.f a0_2).bind fun t3 => (if 4 + t3.size ≤ 9223372036854775807 then (if a0_3 = true then (if ((⟨#[100, 105, 97, 32]⟩ : ByteArray) ++ t3).size + 2 ≤ 9223372036854775807 then (some (((⟨#[100, 105, 97, 32]⟩ : ByteArray) ++ t3) ++ (⟨#[46, 53]⟩ : ByteArray), true)) else (none)) else (some ((⟨#[100, 105, 97, 32]⟩ : ByteArray) ++ t3, true))) else (none))) else ((i_stip_kinds.f).bind fun t4 => (if 0 ≤ a0_0 then (if a0_0 < 8 then ((i_stip_goals.f).bind fun t5 => (if 0 ≤ a0_1 then (if a0_1 < 3 then (if (nt t4 a0_0.toNat ByteArray.empty).size + (nt t5 a0_1.toNat ByteArray.empty).size ≤ 9223372036854775807 then ((i_strconv_Itoa.f a0_2).bind fun t6 => (if ((nt t4 a0_0.toNat ByteArray.empty) ++ (nt t5 a0_1.toNat ByteArray.empty)).size + t6.size ≤ 9223372036854775807 then (if a0_3 = true then (if (((nt t4 a0_0.toNat ByteArray.empty) ++ (nt t5 a0_1.toNat ByteArray.empty)) ++ t6).size + 2 ≤ 9223372036854775807 then (some ((((nt t4 a0_0.toNat ByteArray.empty) ++ (nt t5 a0_1.toNat ByteArray.empty)) ++ t6) ++ (⟨#[46, 53]⟩ : ByteArray), true)) else (none)) else (some (((nt t4 a0_0.toNat ByteArray.empty) ++ (nt t5 a0_1.toNat ByteArray.empty)) ++ t6, true))) else (none))) else (none)) else (none)) else (none))) else (none)) else (none)))) else (some ((⟨#[]⟩ : ByteArray), false))) = some (r1, r2) := H
 have A7 := hid A7_
 clear A7_
 cases t2 with
 | true =>
  rw [if_pos rfl] at H
  by_cases c9 : a0_0 = 8
  ·
   rw [if_pos c9] at H
   have c9b0 : (a0_0 == 8) = true := beq_iff_eq.mpr c9
   have c9b1 : (a0_0 != 8) = false := bne_eq_false_iff_eq.mpr c9
   have hc9 := hid c9
   clear c9
   replace H := Option.bind_eq_some_iff.mp H
   obtain ⟨t3, A10_, H⟩ := H
   replace H : (if 4 + t3.size ≤ 9223372036854775807 then (if a0_3 = true then (if ((⟨#[100, 105, 97, 32]⟩ : ByteArray) ++ t3).size + 2 ≤ 9223372036854775807 then (some (((⟨#[100, 105, 97, 32]⟩ : ByteArray) ++ t3) ++ (⟨#[46, 53]⟩ : ByteArray), true)) else (none)) else (some ((⟨#[100, 105, 97, 32]⟩ : ByteArray) ++ t3, true))) else (none)) = some (r1, r2) := H
   have A10 := hid A10_
   clear A10_
   by_cases c11 : 4 + t3.size ≤ 9223372036854775807
   ·
    rw [if_pos c11] at H
    have c11b0 : decide (4 + t3.size ≤ 9223372036854775807) = true := decide_eq_true c11
    have hc11 := hid c11
    clear c11
    cases a0_3 with
    | true =>
     rw [if_pos rfl] at H
     by_cases c13 : ((⟨#[100, 105, 97, 32]⟩ : ByteArray) ++ t3).size + 2 ≤ 9223372036854775807
     ·
      rw [if_pos c13] at H
      have hc13 := hid c13
      clear c13
      simp only [Option.some.injEq, Prod.mk.injEq] at H
      obtain ⟨rfl, rfl⟩ := H
      go_enter Tryd.func6, Tryd.ntmps6
      have k15 := True.intro
      have k17 := True.intro
      go_wp2_with (first
       | ((with_reducible refine gate_d (N := 1) rfl ?_); obtain ⟨gb1, hgb1⟩ : ∃ g_, w.heap.size = g_ := ⟨_, rfl⟩; refine ag_box #[.int .i64 a0_0, .int .i64 a0_1, .int .i64 a0_2, .bool true] gb1 hgb1 rfl _ rfl rfl ?_; intro w14 hb_ hB_ hs_; have GEb1 : Hid (w.heap.size ≤ gb1) := hid (by have := HL.out.size; omega); replace HL := hid (HL.out.trans (hb_.mono GEb1.out)); have BKb1 := hid hB_; clear hb_ hB_ hs_ hgb1)
       | ((with_reducible refine gate_d (N := 5) rfl ?_); refine ag_fix (.agg #[.int .i64 a0_0, .int .i64 a0_1, .int .i64 a0_2, .bool true]) (ex_load aT23 gb1 0 #[.int .i64 a0_0, .int .i64 a0_1, .int .i64 a0_2, .bool true] #[.int .i64 a0_0, .int .i64 a0_1, .int .i64 a0_2, .bool true] BKb1.out (by simp) rfl _ rfl rfl) rfl ?_)
       | (go_at_call 14; clear k15; refine (i_stip_right.calls a0_0 a0_1 a0_2 true true _ A7.out).mono ?_; rintro e_ w16 ⟨rfl, hb_⟩; replace BKb1 := hid (BKb1.out.below hb_ BKb1.out.lt); replace HL := hid (HL.out.trans (hb_.mono HL.out.size)); clear hb_)
       | ((with_reducible refine gate_d (N := 8) rfl ?_); refine ag_fix (.pointer (some ⟨gb1, 0, none⟩)) (ex_field 23 0 (.pointer (some ⟨gb1, 0, none⟩)) (.pointer (some ⟨gb1, 0, none⟩)) (fa23_0_0 gb1) _ rfl rfl) rfl ?_)
       | ((with_reducible refine gate_d (N := 9) rfl ?_); refine ag_fix (.int .i64 a0_0) (ex_get sT3 gb1 (0) (.int .i64 a0_0) (#[.int .i64 a0_0, .int .i64 a0_1, .int .i64 a0_2, .bool true]) BKb1.out rfl _ rfl rfl) rfl ?_)
       | ((with_reducible refine gate_d (N := 21) rfl ?_); refine ag_fix (.pointer (some ⟨gb1, 2, none⟩)) (ex_field 23 2 (.pointer (some ⟨gb1, 0, none⟩)) (.pointer (some ⟨gb1, 2, none⟩)) (fa23_2_0 gb1) _ rfl rfl) rfl ?_)
       | ((with_reducible refine gate_d (N := 22) rfl ?_); refine ag_fix (.int .i64 a0_2) (ex_get sT3 gb1 (2) (.int .i64 a0_2) (#[.int .i64 a0_0, .int .i64 a0_1, .int .i64 a0_2, .bool true]) BKb1.out rfl _ rfl rfl) rfl ?_)
       | (go_at_call 17; clear k17; refine (i_strconv_Itoa.calls a0_2 t3 _ A10.out).mono ?_; rintro e_ w18 ⟨rfl, hb_⟩; replace BKb1 := hid (BKb1.out.below hb_ BKb1.out.lt); replace HL := hid (HL.out.trans (hb_.mono HL.out.size)); clear hb_)
       | ((with_reducible refine gate_d (N := 24) rfl ?_); refine ag_fix (.string ((⟨#[100, 105, 97, 32]⟩ : ByteArray) ++ t3)) (ex_cat 9 (⟨#[100, 105, 97, 32]⟩ : ByteArray) t3 hc11.out _ _ _ rfl rfl rfl) rfl ?_)
       | ((with_reducible refine gate_d (N := 25) rfl ?_); refine ag_fix (.pointer (some ⟨gb1, 3, none⟩)) (ex_field 23 3 (.pointer (some ⟨gb1, 0, none⟩)) (.pointer (some ⟨gb1, 3, none⟩)) (fa23_3_0 gb1) _ rfl rfl) rfl ?_)
       | ((with_reducible refine gate_d (N := 26) rfl ?_); refine ag_fix (.bool true) (ex_get sT4 gb1 (3) (.bool true) (#[.int .i64 a0_0, .int .i64 a0_1, .int .i64 a0_2, .bool true]) BKb1.out rfl _ rfl rfl) rfl ?_)
       | ((with_reducible refine gate_d (N := 28) rfl ?_); refine ag_fix (.string (((⟨#[100, 105, 97, 32]⟩ : ByteArray) ++ t3) ++ (⟨#[46, 53]⟩ : ByteArray))) (ex_cat 9 ((⟨#[100, 105, 97, 32]⟩ : ByteArray) ++ t3) (⟨#[46, 53]⟩ : ByteArray) hc13.out _ _ _ rfl rfl rfl) rfl ?_))
      (try simp only [Act.put, List.setIfInBounds_toArray, List.set_cons_zero, List.set_cons_succ])
      go_ret2
      exact ⟨by first | rfl | (simp; done) | (simp [*]; done), HL.out⟩
     ·
      rw [if_neg c13] at H
      exact absurd H (by simp)
    | false =>
     rw [if_neg (show ¬ (false = true) by decide)] at H
     simp only [Option.some.injEq, Prod.mk.injEq] at H
     obtain ⟨rfl, rfl⟩ := H
     go_enter Tryd.func6, Tryd.ntmps6
     have k20 := True.intro
     have k22 := True.intro
     go_wp2_with (first
      | ((with_reducible refine gate_d (N := 1) rfl ?_); obtain ⟨gb1, hgb1⟩ : ∃ g_, w.heap.size = g_ := ⟨_, rfl⟩; refine ag_box #[.int .i64 a0_0, .int .i64 a0_1, .int .i64 a0_2, .bool false] gb1 hgb1 rfl _ rfl rfl ?_; intro w19 hb_ hB_ hs_; have GEb1 : Hid (w.heap.size ≤ gb1) := hid (by have := HL.out.size; omega); replace HL := hid (HL.out.trans (hb_.mono GEb1.out)); have BKb1 := hid hB_; clear hb_ hB_ hs_ hgb1)
      | ((with_reducible refine gate_d (N := 5) rfl ?_); refine ag_fix (.agg #[.int .i64 a0_0, .int .i64 a0_1, .int .i64 a0_2, .bool false]) (ex_load aT23 gb1 0 #[.int .i64 a0_0, .int .i64 a0_1, .int .i64 a0_2, .bool false] #[.int .i64 a0_0, .int .i64 a0_1, .int .i64 a0_2, .bool false] BKb1.out (by simp) rfl _ rfl rfl) rfl ?_)
      | (go_at_call 14; clear k20; refine (i_stip_right.calls a0_0 a0_1 a0_2 false true _ A7.out).mono ?_; rintro e_ w21 ⟨rfl, hb_⟩; replace BKb1 := hid (BKb1.out.below hb_ BKb1.out.lt); replace HL := hid (HL.out.trans (hb_.mono HL.out.size)); clear hb_)
      | ((with_reducible refine gate_d (N := 8) rfl ?_); refine ag_fix (.pointer (some ⟨gb1, 0, none⟩)) (ex_field 23 0 (.pointer (some ⟨gb1, 0, none⟩)) (.pointer (some ⟨gb1, 0, none⟩)) (fa23_0_0 gb1) _ rfl rfl) rfl ?_)
      | ((with_reducible refine gate_d (N := 9) rfl ?_); refine ag_fix (.int .i64 a0_0) (ex_get sT3 gb1 (0) (.int .i64 a0_0) (#[.int .i64 a0_0, .int .i64 a0_1, .int .i64 a0_2, .bool false]) BKb1.out rfl _ rfl rfl) rfl ?_)
      | ((with_reducible refine gate_d (N := 21) rfl ?_); refine ag_fix (.pointer (some ⟨gb1, 2, none⟩)) (ex_field 23 2 (.pointer (some ⟨gb1, 0, none⟩)) (.pointer (some ⟨gb1, 2, none⟩)) (fa23_2_0 gb1) _ rfl rfl) rfl ?_)
      | ((with_reducible refine gate_d (N := 22) rfl ?_); refine ag_fix (.int .i64 a0_2) (ex_get sT3 gb1 (2) (.int .i64 a0_2) (#[.int .i64 a0_0, .int .i64 a0_1, .int .i64 a0_2, .bool false]) BKb1.out rfl _ rfl rfl) rfl ?_)
      | (go_at_call 17; clear k22; refine (i_strconv_Itoa.calls a0_2 t3 _ A10.out).mono ?_; rintro e_ w23 ⟨rfl, hb_⟩; replace BKb1 := hid (BKb1.out.below hb_ BKb1.out.lt); replace HL := hid (HL.out.trans (hb_.mono HL.out.size)); clear hb_)
      | ((with_reducible refine gate_d (N := 24) rfl ?_); refine ag_fix (.string ((⟨#[100, 105, 97, 32]⟩ : ByteArray) ++ t3)) (ex_cat 9 (⟨#[100, 105, 97, 32]⟩ : ByteArray) t3 hc11.out _ _ _ rfl rfl rfl) rfl ?_)
      | ((with_reducible refine gate_d (N := 25) rfl ?_); refine ag_fix (.pointer (some ⟨gb1, 3, none⟩)) (ex_field 23 3 (.pointer (some ⟨gb1, 0, none⟩)) (.pointer (some ⟨gb1, 3, none⟩)) (fa23_3_0 gb1) _ rfl rfl) rfl ?_)
      | ((with_reducible refine gate_d (N := 26) rfl ?_); refine ag_fix (.bool false) (ex_get sT4 gb1 (3) (.bool false) (#[.int .i64 a0_0, .int .i64 a0_1, .int .i64 a0_2, .bool false]) BKb1.out rfl _ rfl rfl) rfl ?_))
     (try simp only [Act.put, List.setIfInBounds_toArray, List.set_cons_zero, List.set_cons_succ])
     go_ret2
     exact ⟨by first | rfl | (simp; done) | (simp [*]; done), HL.out⟩
   ·
    rw [if_neg c11] at H
    exact absurd H (by simp)
  ·
   rw [if_neg c9] at H
   have c9b0 : (a0_0 == 8) = false := beq_eq_false_iff_ne.mpr c9
   have c9b1 : (a0_0 != 8) = true := bne_iff_ne.mpr c9
   have hc9 := hid c9
   clear c9
   replace H := Option.bind_eq_some_iff.mp H
   obtain ⟨t4, A24_, H⟩ := H
   replace H : (if 0 ≤ a0_0 then (if a0_0 < 8 then ((i_stip_goals.f).bind fun t5 => (if 0 ≤ a0_1 then (if a0_1 < 3 then (if (nt t4 a0_0.toNat ByteArray.empty).size + (nt t5 a0_1.toNat ByteArray.empty).size ≤ 9223372036854775807 then ((i_strconv_Itoa.f a0_2).bind fun t6 => (if ((nt t4 a0_0.toNat ByteArray.empty) ++ (nt t5 a0_1.toNat ByteArray.empty)).size + t6.size ≤ 9223372036854775807 then (if a0_3 = true then (if (((nt t4 a0_0.toNat ByteArray.empty) ++ (nt t5 a0_1.toNat ByteArray.empty)) ++ t6).size + 2 ≤ 9223372036854775807 then (some ((((nt t4 a0_0.toNat ByteArray.empty) ++ (nt t5 a0_1.toNat ByteArray.empty)) ++ t6) ++ (⟨#[46, 53]⟩ : ByteArray), true)) else (none)) else (some (((nt t4 a0_0.toNat ByteArray.empty) ++ (nt t5 a0_1.toNat ByteArray.empty)) ++ t6, true))) else (none))) else (none)) else (none)) else (none))) else (none)) else (none)) = some (r1, r2) := H
   have A24 := hid A24_
   clear A24_
   by_cases c25 : 0 ≤ a0_0
   ·
    rw [if_pos c25] at H
    have c25b0 : decide (0 ≤ a0_0) = true := decide_eq_true c25
    have hc25 := hid c25
    clear c25
    by_cases c26 : a0_0 < 8
    ·
     rw [if_pos c26] at H
     have c26b0 : decide (a0_0 < 8) = true := decide_eq_true c26
     have hc26 := hid c26
     clear c26
     replace H := Option.bind_eq_some_iff.mp H
     obtain ⟨t5, A27_, H⟩ := H
     replace H : (if 0 ≤ a0_1 then (if a0_1 < 3 then (if (nt t4 a0_0.toNat ByteArray.empty).size + (nt t5 a0_1.toNat ByteArray.empty).size ≤ 9223372036854775807 then ((i_strconv_Itoa.f a0_2).bind fun t6 => (if ((nt t4 a0_0.toNat ByteArray.empty) ++ (nt t5 a0_1.toNat ByteArray.empty)).size + t6.size ≤ 9223372036854775807 then (if a0_3 = true then (if (((nt t4 a0_0.toNat ByteArray.empty) ++ (nt t5 a0_1.toNat ByteArray.empty)) ++ t6).size + 2 ≤ 9223372036854775807 then (some ((((nt t4 a0_0.toNat ByteArray.empty) ++ (nt t5 a0_1.toNat ByteArray.empty)) ++ t6) ++ (⟨#[46, 53]⟩ : ByteArray), true)) else (none)) else (some (((nt t4 a0_0.toNat ByteArray.empty) ++ (nt t5 a0_1.toNat ByteArray.empty)) ++ t6, true))) else (none))) else (none)) else (none)) else (none)) = some (r1, r2) := H
     have A27 := hid A27_
     clear A27_
     by_cases c28 : 0 ≤ a0_1
     ·
      rw [if_pos c28] at H
      have c28b0 : decide (0 ≤ a0_1) = true := decide_eq_true c28
      have hc28 := hid c28
      clear c28
      by_cases c29 : a0_1 < 3
      ·
       rw [if_pos c29] at H
       have c29b0 : decide (a0_1 < 3) = true := decide_eq_true c29
       have hc29 := hid c29
       clear c29
       by_cases c30 : (nt t4 a0_0.toNat ByteArray.empty).size + (nt t5 a0_1.toNat ByteArray.empty).size ≤ 9223372036854775807
       ·
        rw [if_pos c30] at H
        have hc30 := hid c30
        clear c30
        replace H := Option.bind_eq_some_iff.mp H
        obtain ⟨t6, A31_, H⟩ := H
        replace H : (if ((nt t4 a0_0.toNat ByteArray.empty) ++ (nt t5 a0_1.toNat ByteArray.empty)).size + t6.size ≤ 9223372036854775807 then (if a0_3 = true then (if (((nt t4 a0_0.toNat ByteArray.empty) ++ (nt t5 a0_1.toNat ByteArray.empty)) ++ t6).size + 2 ≤ 9223372036854775807 then (some ((((nt t4 a0_0.toNat ByteArray.empty) ++ (nt t5 a0_1.toNat ByteArray.empty)) ++ t6) ++ (⟨#[46, 53]⟩ : ByteArray), true)) else (none)) else (some (((nt t4 a0_0.toNat ByteArray.empty) ++ (nt t5 a0_1.toNat ByteArray.empty)) ++ t6, true))) else (none)) = some (r1, r2) := H
        have A31 := hid A31_
        clear A31_
        by_cases c32 : ((nt t4 a0_0.toNat ByteArray.empty) ++ (nt t5 a0_1.toNat ByteArray.empty)).size + t6.size ≤ 9223372036854775807
        ·
         rw [if_pos c32] at H
         have hc32 := hid c32
         clear c32
         cases a0_3 with
         | true =>
          rw [if_pos rfl] at H
          by_cases c34 : (((nt t4 a0_0.toNat ByteArray.empty) ++ (nt t5 a0_1.toNat ByteArray.empty)) ++ t6).size + 2 ≤ 9223372036854775807
          ·
           rw [if_pos c34] at H
           have hc34 := hid c34
           clear c34
           simp only [Option.some.injEq, Prod.mk.injEq] at H
           obtain ⟨rfl, rfl⟩ := H
           go_enter Tryd.func6, Tryd.ntmps6
           have k36 := True.intro
           go_wp2_with (first
            | ((with_reducible refine gate_d (N := 1) rfl ?_); obtain ⟨gb1, hgb1⟩ : ∃ g_, w.heap.size = g_ := ⟨_, rfl⟩; refine ag_box #[.int .i64 a0_0, .int .i64 a0_1, .int .i64 a0_2, .bool true] gb1 hgb1 rfl _ rfl rfl ?_; intro w35 hb_ hB_ hs_; have GEb1 : Hid (w.heap.size ≤ gb1) := hid (by have := HL.out.size; omega); replace HL := hid (HL.out.trans (hb_.mono GEb1.out)); have BKb1 := hid hB_; clear hb_ hB_ hs_ hgb1)
            | ((with_reducible refine gate_d (N := 5) rfl ?_); refine ag_fix (.agg #[.int .i64 a0_0, .int .i64 a0_1, .int .i64 a0_2, .bool true]) (ex_load aT23 gb1 0 #[.int .i64 a0_0, .int .i64 a0_1, .int .i64 a0_2, .bool true] #[.int .i64 a0_0, .int .i64 a0_1, .int .i64 a0_2, .bool true] BKb1.out (by simp) rfl _ rfl rfl) rfl ?_)
            | (go_at_call 14; clear k36; refine (i_stip_right.calls a0_0 a0_1 a0_2 true true _ A7.out).mono ?_; rintro e_ w37 ⟨rfl, hb_⟩; replace BKb1 := hid (BKb1.out.below hb_ BKb1.out.lt); replace HL := hid (HL.out.trans (hb_.mono HL.out.size)); clear hb_)
            | ((with_reducible refine gate_d (N := 8) rfl ?_); refine ag_fix (.pointer (some ⟨gb1, 0, none⟩)) (ex_field 23 0 (.pointer (some ⟨gb1, 0, none⟩)) (.pointer (some ⟨gb1, 0, none⟩)) (fa23_0_0 gb1) _ rfl rfl) rfl ?_)
            | ((with_reducible refine gate_d (N := 9) rfl ?_); refine ag_fix (.int .i64 a0_0) (ex_get sT3 gb1 (0) (.int .i64 a0_0) (#[.int .i64 a0_0, .int .i64 a0_1, .int .i64 a0_2, .bool true]) BKb1.out rfl _ rfl rfl) rfl ?_))
           (try simp only [Act.put, List.setIfInBounds_toArray, List.set_cons_zero, List.set_cons_succ])
           have WR64 := i64_w
           have WR32 := i32_w
           refine sq_region (fun w'_ => Below w.heap.size w w'_ ∧ Blk w'_ gb1 23 #[.int .i64 a0_0, .int .i64 a0_1, .int .i64 a0_2, .bool true] ∧ True) [] [(1, 2), (2, 1), (5, 2), (6, 1), (0, 0), (3, 2), (4, 0), (7, 2), (8, 2), (9, 2)] (by kernel_rfl) (by kernel_rfl) (by kernel_rfl) rfl ?_
           intro w38 hb_
           replace BKb1 := hid (BKb1.out.below hb_ BKb1.out.lt)
           replace HL := hid (HL.out.trans (hb_.mono HL.out.size))
           clear hb_
           refine sq_pure (.pointer (some ⟨gb1, 0, none⟩)) rfl (fun w'_ => ex_field 23 0 (.pointer (some ⟨gb1, 0, none⟩)) (.pointer (some ⟨gb1, 0, none⟩)) (fa23_0_0 gb1) _ rfl rfl) rfl rfl ?_
           intro ts_ ht_; simp only [List.setIfInBounds_toArray, List.set_cons_zero, List.set_cons_succ] at ht_; subst ht_
           refine sq_take (.int .i64 a0_0) ⟨HL.out, BKb1.out, trivial⟩ rfl (fun w'_ hS_ => ex_get sT3 gb1 (0) (.int .i64 a0_0) (#[.int .i64 a0_0, .int .i64 a0_1, .int .i64 a0_2, .bool true]) hS_.2.1 rfl _ rfl rfl) rfl rfl ?_
           intro ts_ ht_; simp only [List.setIfInBounds_toArray, List.set_cons_zero, List.set_cons_succ] at ht_; subst ht_
           refine sq_pure (.pointer (some ⟨gb1, 1, none⟩)) rfl (fun w'_ => ex_field 23 1 (.pointer (some ⟨gb1, 0, none⟩)) (.pointer (some ⟨gb1, 1, none⟩)) (fa23_1_0 gb1) _ rfl rfl) rfl rfl ?_
           intro ts_ ht_; simp only [List.setIfInBounds_toArray, List.set_cons_zero, List.set_cons_succ] at ht_; subst ht_
           refine sq_take (.int .i64 a0_1) ⟨HL.out, BKb1.out, trivial⟩ rfl (fun w'_ hS_ => ex_get sT3 gb1 (1) (.int .i64 a0_1) (#[.int .i64 a0_0, .int .i64 a0_1, .int .i64 a0_2, .bool true]) hS_.2.1 rfl _ rfl rfl) rfl rfl ?_
           intro ts_ ht_; simp only [List.setIfInBounds_toArray, List.set_cons_zero, List.set_cons_succ] at ht_; subst ht_
           refine sq_act rfl (fun Q'_ hQ_ => ?_)
           refine wl_call 15 #[] (by go_simp) rfl ((i_stip_kinds.calls t4 _ A24.out).mono ?_)
           rintro e_ w40 ⟨rfl, ln_t4, hb_⟩
           have LN_t4 := hid ln_t4
           clear ln_t4
           replace BKb1 := hid (BKb1.out.below hb_ BKb1.out.lt)
           replace HL := hid (HL.out.trans (hb_.mono HL.out.size))
           clear hb_
           refine ⟨_, rfl, ?_⟩
           refine hQ_ _ _ (fun _ => ⟨HL.out, BKb1.out, trivial⟩) ?_
           clear hQ_ Q'_
           simp only [Act.put, List.setIfInBounds_toArray, List.set_cons_zero, List.set_cons_succ]
           refine sq_pure (.string (nt t4 a0_0.toNat ByteArray.empty)) rfl (fun w'_ => ex_ix 37 (.agg (av Value.string t4)) (.int .i64 a0_0) (.string (nt t4 a0_0.toNat ByteArray.empty)) (fun w_ => run_ixv 9 uT37 sT9 t4 (by first | rfl | (simp only [List.length_set, List.length_replicate, zL_len, List.length_cons, List.length_nil, LN_t4.out]; done) | (simp [zL_len, LN_t4.out]; done)) ByteArray.empty a0_0 hc25.out hc26.out w_) _ _ rfl rfl rfl) rfl rfl ?_
           intro ts_ ht_; simp only [List.setIfInBounds_toArray, List.set_cons_zero, List.set_cons_succ] at ht_; subst ht_
           refine sq_act rfl (fun Q'_ hQ_ => ?_)
           refine wl_call 16 #[] (by go_simp) rfl ((i_stip_goals.calls t5 _ A27.out).mono ?_)
           rintro e_ w42 ⟨rfl, ln_t5, hb_⟩
           have LN_t5 := hid ln_t5
           clear ln_t5
           replace BKb1 := hid (BKb1.out.below hb_ BKb1.out.lt)
           replace HL := hid (HL.out.trans (hb_.mono HL.out.size))
           clear hb_
           refine ⟨_, rfl, ?_⟩
           refine hQ_ _ _ (fun _ => ⟨HL.out, BKb1.out, trivial⟩) ?_
           clear hQ_ Q'_
           simp only [Act.put, List.setIfInBounds_toArray, List.set_cons_zero, List.set_cons_succ]
           refine sq_pure (.string (nt t5 a0_1.toNat ByteArray.empty)) rfl (fun w'_ => ex_ix 39 (.agg (av Value.string t5)) (.int .i64 a0_1) (.string (nt t5 a0_1.toNat ByteArray.empty)) (fun w_ => run_ixv 9 uT39 sT9 t5 (by first | rfl | (simp only [List.length_set, List.length_replicate, zL_len, List.length_cons, List.length_nil, LN_t4.out, LN_t5.out]; done) | (simp [zL_len, LN_t4.out, LN_t5.out]; done)) ByteArray.empty a0_1 hc28.out hc29.out w_) _ _ rfl rfl rfl) rfl rfl ?_
           intro ts_ ht_; simp only [List.setIfInBounds_toArray, List.set_cons_zero, List.set_cons_succ] at ht_; subst ht_
           refine sq_pure (.string ((nt t4 a0_0.toNat ByteArray.empty) ++ (nt t5 a0_1.toNat ByteArray.empty))) rfl (fun w'_ => ex_cat 9 (nt t4 a0_0.toNat ByteArray.empty) (nt t5 a0_1.toNat ByteArray.empty) hc30.out _ _ _ rfl rfl rfl) rfl rfl ?_
           intro ts_ ht_; simp only [List.setIfInBounds_toArray, List.set_cons_zero, List.set_cons_succ] at ht_; subst ht_
           refine sq_pure (.string ((nt t4 a0_0.toNat ByteArray.empty) ++ (nt t5 a0_1.toNat ByteArray.empty))) rfl (fun w'_ => ex_mv (.tmp 19) (.inr rfl) _ rfl) rfl rfl ?_
           intro ts_ ht_; simp only [List.setIfInBounds_toArray, List.set_cons_zero, List.set_cons_succ] at ht_; subst ht_
           refine sq_end ?_
           clear WR64 WR32
           have k43 := True.intro
           go_wp2_with (first
            | ((with_reducible refine gate_d (N := 21) rfl ?_); refine ag_fix (.pointer (some ⟨gb1, 2, none⟩)) (ex_field 23 2 (.pointer (some ⟨gb1, 0, none⟩)) (.pointer (some ⟨gb1, 2, none⟩)) (fa23_2_0 gb1) _ rfl rfl) rfl ?_)
            | ((with_reducible refine gate_d (N := 22) rfl ?_); refine ag_fix (.int .i64 a0_2) (ex_get sT3 gb1 (2) (.int .i64 a0_2) (#[.int .i64 a0_0, .int .i64 a0_1, .int .i64 a0_2, .bool true]) BKb1.out rfl _ rfl rfl) rfl ?_)
            | (go_at_call 17; clear k43; refine (i_strconv_Itoa.calls a0_2 t6 _ A31.out).mono ?_; rintro e_ w44 ⟨rfl, hb_⟩; replace BKb1 := hid (BKb1.out.below hb_ BKb1.out.lt); replace HL := hid (HL.out.trans (hb_.mono HL.out.size)); clear hb_)
            | ((with_reducible refine gate_d (N := 24) rfl ?_); refine ag_fix (.string (((nt t4 a0_0.toNat ByteArray.empty) ++ (nt t5 a0_1.toNat ByteArray.empty)) ++ t6)) (ex_cat 9 ((nt t4 a0_0.toNat ByteArray.empty) ++ (nt t5 a0_1.toNat ByteArray.empty)) t6 hc32.out _ _ _ rfl rfl rfl) rfl ?_)
            | ((with_reducible refine gate_d (N := 25) rfl ?_); refine ag_fix (.pointer (some ⟨gb1, 3, none⟩)) (ex_field 23 3 (.pointer (some ⟨gb1, 0, none⟩)) (.pointer (some ⟨gb1, 3, none⟩)) (fa23_3_0 gb1) _ rfl rfl) rfl ?_)
            | ((with_reducible refine gate_d (N := 26) rfl ?_); refine ag_fix (.bool true) (ex_get sT4 gb1 (3) (.bool true) (#[.int .i64 a0_0, .int .i64 a0_1, .int .i64 a0_2, .bool true]) BKb1.out rfl _ rfl rfl) rfl ?_)
            | ((with_reducible refine gate_d (N := 28) rfl ?_); refine ag_fix (.string ((((nt t4 a0_0.toNat ByteArray.empty) ++ (nt t5 a0_1.toNat ByteArray.empty)) ++ t6) ++ (⟨#[46, 53]⟩ : ByteArray))) (ex_cat 9 (((nt t4 a0_0.toNat ByteArray.empty) ++ (nt t5 a0_1.toNat ByteArray.empty)) ++ t6) (⟨#[46, 53]⟩ : ByteArray) hc34.out _ _ _ rfl rfl rfl) rfl ?_))
           (try simp only [Act.put, List.setIfInBounds_toArray, List.set_cons_zero, List.set_cons_succ])
           go_ret2
           exact ⟨by first | rfl | (simp; done) | (simp [*]; done), HL.out⟩
          ·
           rw [if_neg c34] at H
           exact absurd H (by simp)
         | false =>
          rw [if_neg (show ¬ (false = true) by decide)] at H
          simp only [Option.some.injEq, Prod.mk.injEq] at H
          obtain ⟨rfl, rfl⟩ := H
          go_enter Tryd.func6, Tryd.ntmps6
          have k46 := True.intro
          go_wp2_with (first
           | ((with_reducible refine gate_d (N := 1) rfl ?_); obtain ⟨gb1, hgb1⟩ : ∃ g_, w.heap.size = g_ := ⟨_, rfl⟩; refine ag_box #[.int .i64 a0_0, .int .i64 a0_1, .int .i64 a0_2, .bool false] gb1 hgb1 rfl _ rfl rfl ?_; intro w45 hb_ hB_ hs_; have GEb1 : Hid (w.heap.size ≤ gb1) := hid (by have := HL.out.size; omega); replace HL := hid (HL.out.trans (hb_.mono GEb1.out)); have BKb1 := hid hB_; clear hb_ hB_ hs_ hgb1)
           | ((with_reducible refine gate_d (N := 5) rfl ?_); refine ag_fix (.agg #[.int .i64 a0_0, .int .i64 a0_1, .int .i64 a0_2, .bool false]) (ex_load aT23 gb1 0 #[.int .i64 a0_0, .int .i64 a0_1, .int .i64 a0_2, .bool false] #[.int .i64 a0_0, .int .i64 a0_1, .int .i64 a0_2, .bool false] BKb1.out (by simp) rfl _ rfl rfl) rfl ?_)
           | (go_at_call 14; clear k46; refine (i_stip_right.calls a0_0 a0_1 a0_2 false true _ A7.out).mono ?_; rintro e_ w47 ⟨rfl, hb_⟩; replace BKb1 := hid (BKb1.out.below hb_ BKb1.out.lt); replace HL := hid (HL.out.trans (hb_.mono HL.out.size)); clear hb_)
           | ((with_reducible refine gate_d (N := 8) rfl ?_); refine ag_fix (.pointer (some ⟨gb1, 0, none⟩)) (ex_field 23 0 (.pointer (some ⟨gb1, 0, none⟩)) (.pointer (some ⟨gb1, 0, none⟩)) (fa23_0_0 gb1) _ rfl rfl) rfl ?_)
           | ((with_reducible refine gate_d (N := 9) rfl ?_); refine ag_fix (.int .i64 a0_0) (ex_get sT3 gb1 (0) (.int .i64 a0_0) (#[.int .i64 a0_0, .int .i64 a0_1, .int .i64 a0_2, .bool false]) BKb1.out rfl _ rfl rfl) rfl ?_))
          (try simp only [Act.put, List.setIfInBounds_toArray, List.set_cons_zero, List.set_cons_succ])
          have WR64 := i64_w
          have WR32 := i32_w
          refine sq_region (fun w'_ => Below w.heap.size w w'_ ∧ Blk w'_ gb1 23 #[.int .i64 a0_0, .int .i64 a0_1, .int .i64 a0_2, .bool false] ∧ True) [] [(1, 2), (2, 1), (5, 2), (6, 1), (0, 0), (3, 2), (4, 0), (7, 2), (8, 2), (9, 2)] (by kernel_rfl) (by kernel_rfl) (by kernel_rfl) rfl ?_
          intro w48 hb_
          replace BKb1 := hid (BKb1.out.below hb_ BKb1.out.lt)
          replace HL := hid (HL.out.trans (hb_.mono HL.out.size))
          clear hb_
          refine sq_pure (.pointer (some ⟨gb1, 0, none⟩)) rfl (fun w'_ => ex_field 23 0 (.pointer (some ⟨gb1, 0, none⟩)) (.pointer (some ⟨gb1, 0, none⟩)) (fa23_0_0 gb1) _ rfl rfl) rfl rfl ?_
          intro ts_ ht_; simp only [List.setIfInBounds_toArray, List.set_cons_zero, List.set_cons_succ] at ht_; subst ht_
          refine sq_take (.int .i64 a0_0) ⟨HL.out, BKb1.out, trivial⟩ rfl (fun w'_ hS_ => ex_get sT3 gb1 (0) (.int .i64 a0_0) (#[.int .i64 a0_0, .int .i64 a0_1, .int .i64 a0_2, .bool false]) hS_.2.1 rfl _ rfl rfl) rfl rfl ?_
          intro ts_ ht_; simp only [List.setIfInBounds_toArray, List.set_cons_zero, List.set_cons_succ] at ht_; subst ht_
          refine sq_pure (.pointer (some ⟨gb1, 1, none⟩)) rfl (fun w'_ => ex_field 23 1 (.pointer (some ⟨gb1, 0, none⟩)) (.pointer (some ⟨gb1, 1, none⟩)) (fa23_1_0 gb1) _ rfl rfl) rfl rfl ?_
          intro ts_ ht_; simp only [List.setIfInBounds_toArray, List.set_cons_zero, List.set_cons_succ] at ht_; subst ht_
          refine sq_take (.int .i64 a0_1) ⟨HL.out, BKb1.out, trivial⟩ rfl (fun w'_ hS_ => ex_get sT3 gb1 (1) (.int .i64 a0_1) (#[.int .i64 a0_0, .int .i64 a0_1, .int .i64 a0_2, .bool false]) hS_.2.1 rfl _ rfl rfl) rfl rfl ?_
          intro ts_ ht_; simp only [List.setIfInBounds_toArray, List.set_cons_zero, List.set_cons_succ] at ht_; subst ht_
          refine sq_act rfl (fun Q'_ hQ_ => ?_)
          refine wl_call 15 #[] (by go_simp) rfl ((i_stip_kinds.calls t4 _ A24.out).mono ?_)
          rintro e_ w50 ⟨rfl, ln_t4, hb_⟩
          have LN_t4 := hid ln_t4
          clear ln_t4
          replace BKb1 := hid (BKb1.out.below hb_ BKb1.out.lt)
          replace HL := hid (HL.out.trans (hb_.mono HL.out.size))
          clear hb_
          refine ⟨_, rfl, ?_⟩
          refine hQ_ _ _ (fun _ => ⟨HL.out, BKb1.out, trivial⟩) ?_
          clear hQ_ Q'_
          simp only [Act.put, List.setIfInBounds_toArray, List.set_cons_zero, List.set_cons_succ]
          refine sq_pure (.string (nt t4 a0_0.toNat ByteArray.empty)) rfl (fun w'_ => ex_ix 37 (.agg (av Value.string t4)) (.int .i64 a0_0) (.string (nt t4 a0_0.toNat ByteArray.empty)) (fun w_ => run_ixv 9 uT37 sT9 t4 (by first | rfl | (simp only [List.length_set, List.length_replicate, zL_len, List.length_cons, List.length_nil, LN_t4.out]; done) | (simp [zL_len, LN_t4.out]; done)) ByteArray.empty a0_0 hc25.out hc26.out w_) _ _ rfl rfl rfl) rfl rfl ?_
          intro ts_ ht_; simp only [List.setIfInBounds_toArray, List.set_cons_zero, List.set_cons_succ] at ht_; subst ht_
          refine sq_act rfl (fun Q'_ hQ_ => ?_)
          refine wl_call 16 #[] (by go_simp) rfl ((i_stip_goals.calls t5 _ A27.out).mono ?_)
          rintro e_ w52 ⟨rfl, ln_t5, hb_⟩
          have LN_t5 := hid ln_t5
          clear ln_t5
          replace BKb1 := hid (BKb1.out.below hb_ BKb1.out.lt)
          replace HL := hid (HL.out.trans (hb_.mono HL.out.size))
          clear hb_
          refine ⟨_, rfl, ?_⟩
          refine hQ_ _ _ (fun _ => ⟨HL.out, BKb1.out, trivial⟩) ?_
          clear hQ_ Q'_
          simp only [Act.put, List.setIfInBounds_toArray, List.set_cons_zero, List.set_cons_succ]
          refine sq_pure (.string (nt t5 a0_1.toNat ByteArray.empty)) rfl (fun w'_ => ex_ix 39 (.agg (av Value.string t5)) (.int .i64 a0_1) (.string (nt t5 a0_1.toNat ByteArray.empty)) (fun w_ => run_ixv 9 uT39 sT9 t5 (by first | rfl | (simp only [List.length_set, List.length_replicate, zL_len, List.length_cons, List.length_nil, LN_t4.out, LN_t5.out]; done) | (simp [zL_len, LN_t4.out, LN_t5.out]; done)) ByteArray.empty a0_1 hc28.out hc29.out w_) _ _ rfl rfl rfl) rfl rfl ?_
          intro ts_ ht_; simp only [List.setIfInBounds_toArray, List.set_cons_zero, List.set_cons_succ] at ht_; subst ht_
          refine sq_pure (.string ((nt t4 a0_0.toNat ByteArray.empty) ++ (nt t5 a0_1.toNat ByteArray.empty))) rfl (fun w'_ => ex_cat 9 (nt t4 a0_0.toNat ByteArray.empty) (nt t5 a0_1.toNat ByteArray.empty) hc30.out _ _ _ rfl rfl rfl) rfl rfl ?_
          intro ts_ ht_; simp only [List.setIfInBounds_toArray, List.set_cons_zero, List.set_cons_succ] at ht_; subst ht_
          refine sq_pure (.string ((nt t4 a0_0.toNat ByteArray.empty) ++ (nt t5 a0_1.toNat ByteArray.empty))) rfl (fun w'_ => ex_mv (.tmp 19) (.inr rfl) _ rfl) rfl rfl ?_
          intro ts_ ht_; simp only [List.setIfInBounds_toArray, List.set_cons_zero, List.set_cons_succ] at ht_; subst ht_
          refine sq_end ?_
          clear WR64 WR32
          have k53 := True.intro
          go_wp2_with (first
           | ((with_reducible refine gate_d (N := 21) rfl ?_); refine ag_fix (.pointer (some ⟨gb1, 2, none⟩)) (ex_field 23 2 (.pointer (some ⟨gb1, 0, none⟩)) (.pointer (some ⟨gb1, 2, none⟩)) (fa23_2_0 gb1) _ rfl rfl) rfl ?_)
           | ((with_reducible refine gate_d (N := 22) rfl ?_); refine ag_fix (.int .i64 a0_2) (ex_get sT3 gb1 (2) (.int .i64 a0_2) (#[.int .i64 a0_0, .int .i64 a0_1, .int .i64 a0_2, .bool false]) BKb1.out rfl _ rfl rfl) rfl ?_)
           | (go_at_call 17; clear k53; refine (i_strconv_Itoa.calls a0_2 t6 _ A31.out).mono ?_; rintro e_ w54 ⟨rfl, hb_⟩; replace BKb1 := hid (BKb1.out.below hb_ BKb1.out.lt); replace HL := hid (HL.out.trans (hb_.mono HL.out.size)); clear hb_)
           | ((with_reducible refine gate_d (N := 24) rfl ?_); refine ag_fix (.string (((nt t4 a0_0.toNat ByteArray.empty) ++ (nt t5 a0_1.toNat ByteArray.empty)) ++ t6)) (ex_cat 9 ((nt t4 a0_0.toNat ByteArray.empty) ++ (nt t5 a0_1.toNat ByteArray.empty)) t6 hc32.out _ _ _ rfl rfl rfl) rfl ?_)
           | ((with_reducible refine gate_d (N := 25) rfl ?_); refine ag_fix (.pointer (some ⟨gb1, 3, none⟩)) (ex_field 23 3 (.pointer (some ⟨gb1, 0, none⟩)) (.pointer (some ⟨gb1, 3, none⟩)) (fa23_3_0 gb1) _ rfl rfl) rfl ?_)
           | ((with_reducible refine gate_d (N := 26) rfl ?_); refine ag_fix (.bool false) (ex_get sT4 gb1 (3) (.bool false) (#[.int .i64 a0_0, .int .i64 a0_1, .int .i64 a0_2, .bool false]) BKb1.out rfl _ rfl rfl) rfl ?_))
          (try simp only [Act.put, List.setIfInBounds_toArray, List.set_cons_zero, List.set_cons_succ])
          go_ret2
          exact ⟨by first | rfl | (simp; done) | (simp [*]; done), HL.out⟩
        ·
         rw [if_neg c32] at H
         exact absurd H (by simp)
       ·
        rw [if_neg c30] at H
        exact absurd H (by simp)
      ·
       rw [if_neg c29] at H
       exact absurd H (by simp)
     ·
      rw [if_neg c28] at H
      exact absurd H (by simp)
    ·
     rw [if_neg c26] at H
     exact absurd H (by simp)
   ·
    rw [if_neg c25] at H
    exact absurd H (by simp)
 | false =>
  rw [if_neg (show ¬ (false = true) by decide)] at H
  simp only [Option.some.injEq, Prod.mk.injEq] at H
  obtain ⟨rfl, rfl⟩ := H
  go_enter Tryd.func6, Tryd.ntmps6
  have k56 := True.intro
  go_wp2_with (first
   | ((with_reducible refine gate_d (N := 1) rfl ?_); obtain ⟨gb1, hgb1⟩ : ∃ g_, w.heap.size = g_ := ⟨_, rfl⟩; refine ag_box #[.int .i64 a0_0, .int .i64 a0_1, .int .i64 a0_2, .bool a0_3] gb1 hgb1 rfl _ rfl rfl ?_; intro w55 hb_ hB_ hs_; have GEb1 : Hid (w.heap.size ≤ gb1) := hid (by have := HL.out.size; omega); replace HL := hid (HL.out.trans (hb_.mono GEb1.out)); have BKb1 := hid hB_; clear hb_ hB_ hs_ hgb1)
   | ((with_reducible refine gate_d (N := 5) rfl ?_); refine ag_fix (.agg #[.int .i64 a0_0, .int .i64 a0_1, .int .i64 a0_2, .bool a0_3]) (ex_load aT23 gb1 0 #[.int .i64 a0_0, .int .i64 a0_1, .int .i64 a0_2, .bool a0_3] #[.int .i64 a0_0, .int .i64 a0_1, .int .i64 a0_2, .bool a0_3] BKb1.out (by simp) rfl _ rfl rfl) rfl ?_)
   | (go_at_call 14; clear k56; refine (i_stip_right.calls a0_0 a0_1 a0_2 a0_3 false _ A7.out).mono ?_; rintro e_ w57 ⟨rfl, hb_⟩; replace BKb1 := hid (BKb1.out.below hb_ BKb1.out.lt); replace HL := hid (HL.out.trans (hb_.mono HL.out.size)); clear hb_))
  (try simp only [Act.put, List.setIfInBounds_toArray, List.set_cons_zero, List.set_cons_succ])
  go_ret2
  exact ⟨by first | rfl | (simp; done) | (simp [*]; done), HL.out⟩
/-! i_alfilref15_decimal: function 25 -/
def i_alfilref15_decimal.f (a0 : Int) : Option (ByteArray) := if a0 < 10 then (if 0 ≤ a0 then (if a0 ≤ (wrap64 (a0 + 1)) then (if (wrap64 (a0 + 1)) ≤ 10 then (some ((⟨#[48, 49, 50, 51, 52, 53, 54, 55, 56, 57]⟩ : ByteArray).extract (a0 : Int).toNat ((wrap64 (a0 + 1)) : Int).toNat)) else (none)) else (none)) else (none)) else (if 0 ≤ (wrap64 (Int.tdiv a0 10)) then (if (wrap64 (Int.tdiv a0 10)) ≤ (wrap64 ((wrap64 (Int.tdiv a0 10)) + 1)) then (if (wrap64 ((wrap64 (Int.tdiv a0 10)) + 1)) ≤ 10 then (if 0 ≤ (Int.tmod a0 10) then (if (Int.tmod a0 10) ≤ (wrap64 ((Int.tmod a0 10) + 1)) then (if (wrap64 ((Int.tmod a0 10) + 1)) ≤ 10 then (if ((⟨#[48, 49, 50, 51, 52, 53, 54, 55, 56, 57]⟩ : ByteArray).extract ((wrap64 (Int.tdiv a0 10)) : Int).toNat ((wrap64 ((wrap64 (Int.tdiv a0 10)) + 1)) : Int).toNat).size + ((⟨#[48, 49, 50, 51, 52, 53, 54, 55, 56, 57]⟩ : ByteArray).extract ((Int.tmod a0 10) : Int).toNat ((wrap64 ((Int.tmod a0 10) + 1)) : Int).toNat).size ≤ 9223372036854775807 then (some (((⟨#[48, 49, 50, 51, 52, 53, 54, 55, 56, 57]⟩ : ByteArray).extract ((wrap64 (Int.tdiv a0 10)) : Int).toNat ((wrap64 ((wrap64 (Int.tdiv a0 10)) + 1)) : Int).toNat) ++ ((⟨#[48, 49, 50, 51, 52, 53, 54, 55, 56, 57]⟩ : ByteArray).extract ((Int.tmod a0 10) : Int).toNat ((wrap64 ((Int.tmod a0 10) + 1)) : Int).toNat))) else (none)) else (none)) else (none)) else (none)) else (none)) else (none)) else (none))
set_option maxHeartbeats 40000000 in
set_option maxRecDepth 100000 in
theorem i_alfilref15_decimal.calls (a0 : Int) (r1 : ByteArray) (w : World) (h : i_alfilref15_decimal.f a0 = some r1) :
    Calls Tryd.prog 25 #[.int .i64 a0] w fun e w' => e = .returned (.string r1) ∧ Below w.heap.size w w' := by
 have HL := hid (Below.refl w.heap.size w)
 have H : (if a0 < 10 then (if 0 ≤ a0 then (if a0 ≤ (wrap64 (a0 + 1)) then (if (wrap64 (a0 + 1)) ≤ 10 then (some ((⟨#[48, 49, 50, 51, 52, 53, 54, 55, 56, 57]⟩ : ByteArray).extract (a0 : Int).toNat ((wrap64 (a0 + 1)) : Int).toNat)) else (none)) else (none)) else (none)) else (if 0 ≤ (wrap64 (Int.tdiv a0 10)) then (if (wrap64 (Int.tdiv a0 10)) ≤ (wrap64 ((wrap64 (Int.tdiv a0 10)) + 1)) then (if (wrap64 ((wrap64 (Int.tdiv a0 10)) + 1)) ≤ 10 then (if 0 ≤ (Int.tmod a0 10) then (if (Int.tmod a0 10) ≤ (wrap64 ((Int.tmod a0 10) + 1)) then (if (wrap64 ((Int.tmod a0 10) + 1)) ≤ 10 then (if ((⟨#[48, 49, 50, 51, 52, 53, 54, 55, 56, 57]⟩ : ByteArray).extract ((wrap64 (Int.tdiv a0 10)) : Int).toNat ((wrap64 ((wrap64 (Int.tdiv a0 10)) + 1)) : Int).toNat).size + ((⟨#[48, 49, 50, 51, 52, 53, 54, 55, 56, 57]⟩ : ByteArray).extract ((Int.tmod a0 10) : Int).toNat ((wrap64 ((Int.tmod a0 10) + 1)) : Int).toNat).size ≤ 9223372036854775807 then (some (((⟨#[48, 49, 50, 51, 52, 53, 54, 55, 56, 57]⟩ : ByteArray).extract ((wrap64 (Int.tdiv a0 10)) : Int).toNat ((wrap64 ((wrap64 (Int.tdiv a0 10)) + 1)) : Int).toNat) ++ ((⟨#[48, 49, 50, 51, 52, 53, 54, 55, 56, 57]⟩ : ByteArray).extract ((Int.tmod a0 10) : Int).toNat ((wrap64 ((Int.tmod a0 10) + 1)) : Int).toNat))) else (none)) else (none)) else (none)) else (none)) else (none)) else (none)) else (none))) = some r1 := h
 clear h
 by_cases c1 : a0 < 10
 ·
  rw [if_pos c1] at H
  have c1b0 : decide (a0 < 10) = true := decide_eq_true c1
  have hc1 := hid c1
  clear c1
  by_cases c2 : 0 ≤ a0
  ·
   rw [if_pos c2] at H
   have c2b0 : decide (0 ≤ a0) = true := decide_eq_true c2
   have hc2 := hid c2
   clear c2
   by_cases c3 : a0 ≤ (wrap64 (a0 + 1))
   ·
    rw [if_pos c3] at H
    have c3b0 : decide (a0 ≤ (wrap64 (a0 + 1))) = true := decide_eq_true c3
    have hc3 := hid c3
    clear c3
    by_cases c4 : (wrap64 (a0 + 1)) ≤ 10
    ·
     rw [if_pos c4] at H
     have c4b0 : decide ((wrap64 (a0 + 1)) ≤ 10) = true := decide_eq_true c4
     have hc4 := hid c4
     clear c4
     obtain rfl := Option.some.inj H
     clear H
     go_enter Tryd.func25, Tryd.ntmps25
     go_wp2_with (first
      | ((with_reducible refine gate_d (N := 10) rfl ?_); refine ag_fix (.string ((⟨#[48, 49, 50, 51, 52, 53, 54, 55, 56, 57]⟩ : ByteArray).extract (a0 : Int).toNat ((wrap64 (a0 + 1)) : Int).toNat)) (ex_cut_lh 9 und_txt (⟨#[48, 49, 50, 51, 52, 53, 54, 55, 56, 57]⟩ : ByteArray) a0 (wrap64 (a0 + 1)) hc2.out hc3.out hc4.out _ _ _ rfl rfl rfl rfl) rfl ?_))
     (try simp only [Act.put, List.setIfInBounds_toArray, List.set_cons_zero, List.set_cons_succ])
     go_ret
     exact ⟨by first | rfl | (simp; done) | (simp [*]; done), HL.out⟩
    ·
     rw [if_neg c4] at H
     exact absurd H (by simp)
   ·
    rw [if_neg c3] at H
    exact absurd H (by simp)
  ·
   rw [if_neg c2] at H
   exact absurd H (by simp)
 ·
  rw [if_neg c1] at H
  have c1b0 : decide (a0 < 10) = false := decide_eq_false c1
  have hc1 := hid c1
  clear c1
  by_cases c5 : 0 ≤ (wrap64 (Int.tdiv a0 10))
  ·
   rw [if_pos c5] at H
   have c5b0 : decide (0 ≤ (wrap64 (Int.tdiv a0 10))) = true := decide_eq_true c5
   have hc5 := hid c5
   clear c5
   by_cases c6 : (wrap64 (Int.tdiv a0 10)) ≤ (wrap64 ((wrap64 (Int.tdiv a0 10)) + 1))
   ·
    rw [if_pos c6] at H
    have c6b0 : decide ((wrap64 (Int.tdiv a0 10)) ≤ (wrap64 ((wrap64 (Int.tdiv a0 10)) + 1))) = true := decide_eq_true c6
    have hc6 := hid c6
    clear c6
    by_cases c7 : (wrap64 ((wrap64 (Int.tdiv a0 10)) + 1)) ≤ 10
    ·
     rw [if_pos c7] at H
     have c7b0 : decide ((wrap64 ((wrap64 (Int.tdiv a0 10)) + 1)) ≤ 10) = true := decide_eq_true c7
     have hc7 := hid c7
     clear c7
     by_cases c8 : 0 ≤ (Int.tmod a0 10)
     ·
      rw [if_pos c8] at H
      have c8b0 : decide (0 ≤ (Int.tmod a0 10)) = true := decide_eq_true c8
      have hc8 := hid c8
      clear c8
      by_cases c9 : (Int.tmod a0 10) ≤ (wrap64 ((Int.tmod a0 10) + 1))
      ·
       rw [if_pos c9] at H
       have c9b0 : decide ((Int.tmod a0 10) ≤ (wrap64 ((Int.tmod a0 10) + 1))) = true := decide_eq_true c9
       have hc9 := hid c9
       clear c9
       by_cases c10 : (wrap64 ((Int.tmod a0 10) + 1)) ≤ 10
       ·
        rw [if_pos c10] at H
        have c10b0 : decide ((wrap64 ((Int.tmod a0 10) + 1)) ≤ 10) = true := decide_eq_true c10
        have hc10 := hid c10
        clear c10
        by_cases c11 : ((⟨#[48, 49, 50, 51, 52, 53, 54, 55, 56, 57]⟩ : ByteArray).extract ((wrap64 (Int.tdiv a0 10)) : Int).toNat ((wrap64 ((wrap64 (Int.tdiv a0 10)) + 1)) : Int).toNat).size + ((⟨#[48, 49, 50, 51, 52, 53, 54, 55, 56, 57]⟩ : ByteArray).extract ((Int.tmod a0 10) : Int).toNat ((wrap64 ((Int.tmod a0 10) + 1)) : Int).toNat).size ≤ 9223372036854775807
        ·
         rw [if_pos c11] at H
         have hc11 := hid c11
         clear c11
         obtain rfl := Option.some.inj H
         clear H
         go_enter Tryd.func25, Tryd.ntmps25
         go_wp2_with fail
         (try simp only [Act.put, List.setIfInBounds_toArray, List.set_cons_zero, List.set_cons_succ])
         have WR64 := i64_w
         have WR32 := i32_w
         refine up_regionW (by kernel_rfl) (by kernel_rfl) ?_
         refine q_do (.string (⟨#[48, 49, 50, 51, 52, 53, 54, 55, 56, 57]⟩ : ByteArray)) (fun w'_ hc_ => ex_mv (.tmp 3) (.inl rfl) _ rfl) rfl rfl ?_
         intro ts_ ht_; simp only [List.setIfInBounds_toArray, List.set_cons_zero, List.set_cons_succ] at ht_; subst ht_
         refine q_do (.int .i64 a0) (fun w'_ hc_ => ex_mv (.tmp 0) (.inl rfl) _ rfl) rfl rfl ?_
         intro ts_ ht_; simp only [List.setIfInBounds_toArray, List.set_cons_zero, List.set_cons_succ] at ht_; subst ht_
         refine q_do (.int .i64 (wrap64 (Int.tdiv a0 10))) (fun w'_ hc_ => by go_simp) rfl rfl ?_
         intro ts_ ht_; simp only [List.setIfInBounds_toArray, List.set_cons_zero, List.set_cons_succ] at ht_; subst ht_
         refine q_do (.int .i64 a0) (fun w'_ hc_ => ex_mv (.tmp 0) (.inl rfl) _ rfl) rfl rfl ?_
         intro ts_ ht_; simp only [List.setIfInBounds_toArray, List.set_cons_zero, List.set_cons_succ] at ht_; subst ht_
         refine q_do (.int .i64 (wrap64 (Int.tdiv a0 10))) (fun w'_ hc_ => by go_simp) rfl rfl ?_
         intro ts_ ht_; simp only [List.setIfInBounds_toArray, List.set_cons_zero, List.set_cons_succ] at ht_; subst ht_
         refine q_do (.int .i64 (wrap64 ((wrap64 (Int.tdiv a0 10)) + 1))) (fun w'_ hc_ => by go_simp) rfl rfl ?_
         intro ts_ ht_; simp only [List.setIfInBounds_toArray, List.set_cons_zero, List.set_cons_succ] at ht_; subst ht_
         refine q_do (.string ((⟨#[48, 49, 50, 51, 52, 53, 54, 55, 56, 57]⟩ : ByteArray).extract ((wrap64 (Int.tdiv a0 10)) : Int).toNat ((wrap64 ((wrap64 (Int.tdiv a0 10)) + 1)) : Int).toNat)) (fun w'_ hc_ => by obtain ⟨n_, hn_⟩ := hc_; exact ex_cut_lh 9 und_txt (⟨#[48, 49, 50, 51, 52, 53, 54, 55, 56, 57]⟩ : ByteArray) (wrap64 (Int.tdiv a0 10)) (wrap64 ((wrap64 (Int.tdiv a0 10)) + 1)) hc5.out hc6.out hc7.out _ _ _ rfl rfl rfl rfl) rfl rfl ?_
         intro ts_ ht_; simp only [List.setIfInBounds_toArray, List.set_cons_zero, List.set_cons_succ] at ht_; subst ht_
         refine q_do (.string (⟨#[48, 49, 50, 51, 52, 53, 54, 55, 56, 57]⟩ : ByteArray)) (fun w'_ hc_ => ex_mv (.tmp 3) (.inl rfl) _ rfl) rfl rfl ?_
         intro ts_ ht_; simp only [List.setIfInBounds_toArray, List.set_cons_zero, List.set_cons_succ] at ht_; subst ht_
         refine q_do (.int .i64 a0) (fun w'_ hc_ => ex_mv (.tmp 0) (.inl rfl) _ rfl) rfl rfl ?_
         intro ts_ ht_; simp only [List.setIfInBounds_toArray, List.set_cons_zero, List.set_cons_succ] at ht_; subst ht_
         refine q_do (.int .i64 (Int.tmod a0 10)) (fun w'_ hc_ => by go_simp) rfl rfl ?_
         intro ts_ ht_; simp only [List.setIfInBounds_toArray, List.set_cons_zero, List.set_cons_succ] at ht_; subst ht_
         refine q_do (.int .i64 a0) (fun w'_ hc_ => ex_mv (.tmp 0) (.inl rfl) _ rfl) rfl rfl ?_
         intro ts_ ht_; simp only [List.setIfInBounds_toArray, List.set_cons_zero, List.set_cons_succ] at ht_; subst ht_
         refine q_do (.int .i64 (Int.tmod a0 10)) (fun w'_ hc_ => by go_simp) rfl rfl ?_
         intro ts_ ht_; simp only [List.setIfInBounds_toArray, List.set_cons_zero, List.set_cons_succ] at ht_; subst ht_
         refine q_do (.int .i64 (wrap64 ((Int.tmod a0 10) + 1))) (fun w'_ hc_ => by go_simp) rfl rfl ?_
         intro ts_ ht_; simp only [List.setIfInBounds_toArray, List.set_cons_zero, List.set_cons_succ] at ht_; subst ht_
         refine q_do (.string ((⟨#[48, 49, 50, 51, 52, 53, 54, 55, 56, 57]⟩ : ByteArray).extract ((Int.tmod a0 10) : Int).toNat ((wrap64 ((Int.tmod a0 10) + 1)) : Int).toNat)) (fun w'_ hc_ => by obtain ⟨n_, hn_⟩ := hc_; exact ex_cut_lh 9 und_txt (⟨#[48, 49, 50, 51, 52, 53, 54, 55, 56, 57]⟩ : ByteArray) (Int.tmod a0 10) (wrap64 ((Int.tmod a0 10) + 1)) hc8.out hc9.out hc10.out _ _ _ rfl rfl rfl rfl) rfl rfl ?_
         intro ts_ ht_; simp only [List.setIfInBounds_toArray, List.set_cons_zero, List.set_cons_succ] at ht_; subst ht_
         refine q_do (.string (((⟨#[48, 49, 50, 51, 52, 53, 54, 55, 56, 57]⟩ : ByteArray).extract ((wrap64 (Int.tdiv a0 10)) : Int).toNat ((wrap64 ((wrap64 (Int.tdiv a0 10)) + 1)) : Int).toNat) ++ ((⟨#[48, 49, 50, 51, 52, 53, 54, 55, 56, 57]⟩ : ByteArray).extract ((Int.tmod a0 10) : Int).toNat ((wrap64 ((Int.tmod a0 10) + 1)) : Int).toNat))) (fun w'_ hc_ => by obtain ⟨n_, hn_⟩ := hc_; exact ex_cat 9 ((⟨#[48, 49, 50, 51, 52, 53, 54, 55, 56, 57]⟩ : ByteArray).extract ((wrap64 (Int.tdiv a0 10)) : Int).toNat ((wrap64 ((wrap64 (Int.tdiv a0 10)) + 1)) : Int).toNat) ((⟨#[48, 49, 50, 51, 52, 53, 54, 55, 56, 57]⟩ : ByteArray).extract ((Int.tmod a0 10) : Int).toNat ((wrap64 ((Int.tmod a0 10) + 1)) : Int).toNat) hc11.out _ _ _ rfl rfl rfl) rfl rfl ?_
         intro ts_ ht_; simp only [List.setIfInBounds_toArray, List.set_cons_zero, List.set_cons_succ] at ht_; subst ht_
         refine q_do (.string (((⟨#[48, 49, 50, 51, 52, 53, 54, 55, 56, 57]⟩ : ByteArray).extract ((wrap64 (Int.tdiv a0 10)) : Int).toNat ((wrap64 ((wrap64 (Int.tdiv a0 10)) + 1)) : Int).toNat) ++ ((⟨#[48, 49, 50, 51, 52, 53, 54, 55, 56, 57]⟩ : ByteArray).extract ((Int.tmod a0 10) : Int).toNat ((wrap64 ((Int.tmod a0 10) + 1)) : Int).toNat))) (fun w'_ hc_ => ex_mv (.tmp 25) (.inr rfl) _ rfl) rfl rfl ?_
         intro ts_ ht_; simp only [List.setIfInBounds_toArray, List.set_cons_zero, List.set_cons_succ] at ht_; subst ht_
         refine q_end ?_
         rintro w8_ ⟨n_, rfl⟩
         replace HL := hid (HL.out.trans (n_.below.mono HL.out.size))
         generalize n_.world = w12 at *
         clear n_ WR64 WR32
         go_wp2_with fail
         (try simp only [Act.put, List.setIfInBounds_toArray, List.set_cons_zero, List.set_cons_succ])
         go_ret
         exact ⟨by first | rfl | (simp; done) | (simp [*]; done), HL.out⟩
        ·
         rw [if_neg c11] at H
         exact absurd H (by simp)
       ·
        rw [if_neg c10] at H
        exact absurd H (by simp)
      ·
       rw [if_neg c9] at H
       exact absurd H (by simp)
     ·
      rw [if_neg c8] at H
      exact absurd H (by simp)
    ·
     rw [if_neg c7] at H
     exact absurd H (by simp)
   ·
    rw [if_neg c6] at H
    exact absurd H (by simp)
  ·
   rw [if_neg c5] at H
   exact absurd H (by simp)
/-! i_alfilref15_kind: function 23 -/
def i_alfilref15_kind.f (a0 : Int) : Option (ByteArray) := if a0 = 2 then (some (⟨#[115]⟩ : ByteArray)) else (if a0 = 3 then (some (⟨#[114]⟩ : ByteArray)) else (if a0 = 4 then (some (⟨#[115, 101, 109, 105, 45, 114]⟩ : ByteArray)) else (if a0 = 5 then (some (⟨#[104]⟩ : ByteArray)) else (if a0 = 6 then (some (⟨#[115, 101, 114, 45, 104]⟩ : ByteArray)) else (if a0 = 7 then (some (⟨#[115, 101, 114, 45]⟩ : ByteArray)) else (if a0 = 8 then (some (⟨#[100, 105, 97, 32]⟩ : ByteArray)) else (some (⟨#[]⟩ : ByteArray))))))))
set_option maxHeartbeats 40000000 in
set_option maxRecDepth 100000 in
theorem i_alfilref15_kind.calls (a0 : Int) (r1 : ByteArray) (w : World) (h : i_alfilref15_kind.f a0 = some r1) :
    Calls Tryd.prog 23 #[.int .i64 a0] w fun e w' => e = .returned (.string r1) ∧ w = w' := by
 have H : (if a0 = 2 then (some (⟨#[115]⟩ : ByteArray)) else (if a0 = 3 then (some (⟨#[114]⟩ : ByteArray)) else (if a0 = 4 then (some (⟨#[115, 101, 109, 105, 45, 114]⟩ : ByteArray)) else (if a0 = 5 then (some (⟨#[104]⟩ : ByteArray)) else (if a0 = 6 then (some (⟨#[115, 101, 114, 45, 104]⟩ : ByteArray)) else (if a0 = 7 then (some (⟨#[115, 101, 114, 45]⟩ : ByteArray)) else (if a0 = 8 then (some (⟨#[100, 105, 97, 32]⟩ : ByteArray)) else (some (⟨#[]⟩ : ByteArray))))))))) = some r1 := h
 clear h
 by_cases c1 : a0 = 2
 ·
  rw [if_pos c1] at H
  have c1b0 : (a0 == 2) = true := beq_iff_eq.mpr c1
  have c1b1 : (a0 != 2) = false := bne_eq_false_iff_eq.mpr c1
  have hc1 := hid c1
  clear c1
  obtain rfl := Option.some.inj H
  clear H
  go_enter Tryd.func23, Tryd.ntmps23
  go_wp2_with fail
  (try simp only [Act.put, List.setIfInBounds_toArray, List.set_cons_zero, List.set_cons_succ])
  go_ret
  exact ⟨by first | rfl | (simp; done) | (simp [*]; done), rfl⟩
 ·
  rw [if_neg c1] at H
  have c1b0 : (a0 == 2) = false := beq_eq_false_iff_ne.mpr c1
  have c1b1 : (a0 != 2) = true := bne_iff_ne.mpr c1
  have hc1 := hid c1
  clear c1
  by_cases c2 : a0 = 3
  ·
   rw [if_pos c2] at H
   have c2b0 : (a0 == 3) = true := beq_iff_eq.mpr c2
   have c2b1 : (a0 != 3) = false := bne_eq_false_iff_eq.mpr c2
   have hc2 := hid c2
   clear c2
   obtain rfl := Option.some.inj H
   clear H
   go_enter Tryd.func23, Tryd.ntmps23
   go_wp2_with fail
   (try simp only [Act.put, List.setIfInBounds_toArray, List.set_cons_zero, List.set_cons_succ])
   go_ret
   exact ⟨by first | rfl | (simp; done) | (simp [*]; done), rfl⟩
  ·
   rw [if_neg c2] at H
   have c2b0 : (a0 == 3) = false := beq_eq_false_iff_ne.mpr c2
   have c2b1 : (a0 != 3) = true := bne_iff_ne.mpr c2
   have hc2 := hid c2
   clear c2
   by_cases c3 : a0 = 4
   ·
    rw [if_pos c3] at H
    have c3b0 : (a0 == 4) = true := beq_iff_eq.mpr c3
    have c3b1 : (a0 != 4) = false := bne_eq_false_iff_eq.mpr c3
    have hc3 := hid c3
    clear c3
    obtain rfl := Option.some.inj H
    clear H
    go_enter Tryd.func23, Tryd.ntmps23
    go_wp2_with fail
    (try simp only [Act.put, List.setIfInBounds_toArray, List.set_cons_zero, List.set_cons_succ])
    go_ret
    exact ⟨by first | rfl | (simp; done) | (simp [*]; done), rfl⟩
   ·
    rw [if_neg c3] at H
    have c3b0 : (a0 == 4) = false := beq_eq_false_iff_ne.mpr c3
    have c3b1 : (a0 != 4) = true := bne_iff_ne.mpr c3
    have hc3 := hid c3
    clear c3
    by_cases c4 : a0 = 5
    ·
     rw [if_pos c4] at H
     have c4b0 : (a0 == 5) = true := beq_iff_eq.mpr c4
     have c4b1 : (a0 != 5) = false := bne_eq_false_iff_eq.mpr c4
     have hc4 := hid c4
     clear c4
     obtain rfl := Option.some.inj H
     clear H
     go_enter Tryd.func23, Tryd.ntmps23
     go_wp2_with fail
     (try simp only [Act.put, List.setIfInBounds_toArray, List.set_cons_zero, List.set_cons_succ])
     go_ret
     exact ⟨by first | rfl | (simp; done) | (simp [*]; done), rfl⟩
    ·
     rw [if_neg c4] at H
     have c4b0 : (a0 == 5) = false := beq_eq_false_iff_ne.mpr c4
     have c4b1 : (a0 != 5) = true := bne_iff_ne.mpr c4
     have hc4 := hid c4
     clear c4
     by_cases c5 : a0 = 6
     ·
      rw [if_pos c5] at H
      have c5b0 : (a0 == 6) = true := beq_iff_eq.mpr c5
      have c5b1 : (a0 != 6) = false := bne_eq_false_iff_eq.mpr c5
      have hc5 := hid c5
      clear c5
      obtain rfl := Option.some.inj H
      clear H
      go_enter Tryd.func23, Tryd.ntmps23
      go_wp2_with fail
      (try simp only [Act.put, List.setIfInBounds_toArray, List.set_cons_zero, List.set_cons_succ])
      go_ret
      exact ⟨by first | rfl | (simp; done) | (simp [*]; done), rfl⟩
     ·
      rw [if_neg c5] at H
      have c5b0 : (a0 == 6) = false := beq_eq_false_iff_ne.mpr c5
      have c5b1 : (a0 != 6) = true := bne_iff_ne.mpr c5
      have hc5 := hid c5
      clear c5
      by_cases c6 : a0 = 7
      ·
       rw [if_pos c6] at H
       have c6b0 : (a0 == 7) = true := beq_iff_eq.mpr c6
       have c6b1 : (a0 != 7) = false := bne_eq_false_iff_eq.mpr c6
       have hc6 := hid c6
       clear c6
       obtain rfl := Option.some.inj H
       clear H
       go_enter Tryd.func23, Tryd.ntmps23
       go_wp2_with fail
       (try simp only [Act.put, List.setIfInBounds_toArray, List.set_cons_zero, List.set_cons_succ])
       go_ret
       exact ⟨by first | rfl | (simp; done) | (simp [*]; done), rfl⟩
      ·
       rw [if_neg c6] at H
       have c6b0 : (a0 == 7) = false := beq_eq_false_iff_ne.mpr c6
       have c6b1 : (a0 != 7) = true := bne_iff_ne.mpr c6
       have hc6 := hid c6
       clear c6
       by_cases c7 : a0 = 8
       ·
        rw [if_pos c7] at H
        have c7b0 : (a0 == 8) = true := beq_iff_eq.mpr c7
        have c7b1 : (a0 != 8) = false := bne_eq_false_iff_eq.mpr c7
        have hc7 := hid c7
        clear c7
        obtain rfl := Option.some.inj H
        clear H
        go_enter Tryd.func23, Tryd.ntmps23
        go_wp2_with fail
        (try simp only [Act.put, List.setIfInBounds_toArray, List.set_cons_zero, List.set_cons_succ])
        go_ret
        exact ⟨by first | rfl | (simp; done) | (simp [*]; done), rfl⟩
       ·
        rw [if_neg c7] at H
        have c7b0 : (a0 == 8) = false := beq_eq_false_iff_ne.mpr c7
        have c7b1 : (a0 != 8) = true := bne_iff_ne.mpr c7
        have hc7 := hid c7
        clear c7
        obtain rfl := Option.some.inj H
        clear H
        go_enter Tryd.func23, Tryd.ntmps23
        go_wp2_with fail
        (try simp only [Act.put, List.setIfInBounds_toArray, List.set_cons_zero, List.set_cons_succ])
        go_ret
        exact ⟨by first | rfl | (simp; done) | (simp [*]; done), rfl⟩
/-! i_alfilref15_goal: function 24 -/
def i_alfilref15_goal.f (a0 : Int) : Option (ByteArray) := if a0 = 1 then (some (⟨#[35]⟩ : ByteArray)) else (if a0 = 2 then (some (⟨#[61]⟩ : ByteArray)) else (some (⟨#[]⟩ : ByteArray)))
set_option maxHeartbeats 40000000 in
set_option maxRecDepth 100000 in
theorem i_alfilref15_goal.calls (a0 : Int) (r1 : ByteArray) (w : World) (h : i_alfilref15_goal.f a0 = some r1) :
    Calls Tryd.prog 24 #[.int .i64 a0] w fun e w' => e = .returned (.string r1) ∧ w = w' := by
 have H : (if a0 = 1 then (some (⟨#[35]⟩ : ByteArray)) else (if a0 = 2 then (some (⟨#[61]⟩ : ByteArray)) else (some (⟨#[]⟩ : ByteArray)))) = some r1 := h
 clear h
 by_cases c1 : a0 = 1
 ·
  rw [if_pos c1] at H
  have c1b0 : (a0 == 1) = true := beq_iff_eq.mpr c1
  have c1b1 : (a0 != 1) = false := bne_eq_false_iff_eq.mpr c1
  have hc1 := hid c1
  clear c1
  obtain rfl := Option.some.inj H
  clear H
  go_enter Tryd.func24, Tryd.ntmps24
  go_wp2_with fail
  (try simp only [Act.put, List.setIfInBounds_toArray, List.set_cons_zero, List.set_cons_succ])
  go_ret
  exact ⟨by first | rfl | (simp; done) | (simp [*]; done), rfl⟩
 ·
  rw [if_neg c1] at H
  have c1b0 : (a0 == 1) = false := beq_eq_false_iff_ne.mpr c1
  have c1b1 : (a0 != 1) = true := bne_iff_ne.mpr c1
  have hc1 := hid c1
  clear c1
  by_cases c2 : a0 = 2
  ·
   rw [if_pos c2] at H
   have c2b0 : (a0 == 2) = true := beq_iff_eq.mpr c2
   have c2b1 : (a0 != 2) = false := bne_eq_false_iff_eq.mpr c2
   have hc2 := hid c2
   clear c2
   obtain rfl := Option.some.inj H
   clear H
   go_enter Tryd.func24, Tryd.ntmps24
   go_wp2_with fail
   (try simp only [Act.put, List.setIfInBounds_toArray, List.set_cons_zero, List.set_cons_succ])
   go_ret
   exact ⟨by first | rfl | (simp; done) | (simp [*]; done), rfl⟩
  ·
   rw [if_neg c2] at H
   have c2b0 : (a0 == 2) = false := beq_eq_false_iff_ne.mpr c2
   have c2b1 : (a0 != 2) = true := bne_iff_ne.mpr c2
   have hc2 := hid c2
   clear c2
   obtain rfl := Option.some.inj H
   clear H
   go_enter Tryd.func24, Tryd.ntmps24
   go_wp2_with fail
   (try simp only [Act.put, List.setIfInBounds_toArray, List.set_cons_zero, List.set_cons_succ])
   go_ret
   exact ⟨by first | rfl | (simp; done) | (simp [*]; done), rfl⟩
/-! i_alfilref15_Text: function 11 -/
def i_alfilref15_Text.f (a0_0 : Int) (a0_1 : Int) (a0_2 : Int) (a0_3 : Bool) : Option (ByteArray) := (i_alfilref15_kind.f a0_0).bind fun t2 => ((i_alfilref15_goal.f a0_1).bind fun t3 => (if t2.size + t3.size ≤ 9223372036854775807 then ((i_alfilref15_decimal.f a0_2).bind fun t4 => (if (t2 ++ t3).size + t4.size ≤ 9223372036854775807 then (if a0_3 = true then (if ((t2 ++ t3) ++ t4).size + 2 ≤ 9223372036854775807 then (some (((t2 ++ t3) ++ t4) ++ (⟨#[46, 53]⟩ : ByteArray))) else (none)) else (some ((t2 ++ t3) ++ t4))) else (none))) else (none)))
set_option maxHeartbeats 40000000 in
set_option maxRecDepth 100000 in
theorem i_alfilref15_Text.calls (a0_0 : Int) (a0_1 : Int) (a0_2 : Int) (a0_3 : Bool) (r1 : ByteArray) (w : World) (h : i_alfilref15_Text.f a0_0 a0_1 a0_2 a0_3 = some r1) :
    Calls Tryd.prog 11 #[.agg #[.int .i64 a0_0, .int .i64 a0_1, .int .i64 a0_2, .bool a0_3]] w fun e w' => e = .returned (.string r1) ∧ Below w.heap.size w w' := by
 have HL := hid (Below.refl w.heap.size w)
 have H : ((i_alfilref15_kind.f a0_0).bind fun t2 => ((i_alfilref15_goal.f a0_1).bind fun t3 => (if t2.size + t3.size ≤ 9223372036854775807 then ((i_alfilref15_decimal.f a0_2).bind fun t4 => (if (t2 ++ t3).size + t4.size ≤ 9223372036854775807 then (if a0_3 = true then (if ((t2 ++ t3) ++ t4).size + 2 ≤ 9223372036854775807 then (some (((t2 ++ t3) ++ t4) ++ (⟨#[46, 53]⟩ : ByteArray))) else (none)) else (some ((t2 ++ t3) ++ t4))) else (none))) else (none)))) = some r1 := h
 clear h
 replace H := Option.bind_eq_some_iff.mp H
 obtain ⟨t2, A5_, H⟩ := H
 replace H : ((i_alfilref15_goal.f a0_1).bind fun t3 => (if t2.size + t3.size ≤ 9223372036854775807 then ((i_alfilref15_decimal.f a0_2).bind fun t4 => (if (t2 ++ t3).size + t4.size ≤ 9223372036854775807 then (if a0_3 = true then (if ((t2 ++ t3) ++ t4).size + 2 ≤ 9223372036854775807 then (some (((t2 ++ t3) ++ t4) ++ (⟨#[46, 53]⟩ : ByteArray))) else (none)) else (some ((t2 ++ t3) ++ t4))) else (none))) else (none))) = some r1 := H
 have A5 := hid A5_
 clear A5_
 replace H := Option.bind_eq_some_iff.mp H
 obtain ⟨t3, A6_, H⟩ := H
 replace H : (if t2.size + t3.size ≤ 9223372036854775807 then ((i_alfilref15_decimal.f a0_2).bind fun t4 => (if (t2 ++ t3).size + t4.size ≤ 9223372036854775807 then (if a0_3 = true then (if ((t2 ++ t3) ++ t4).size + 2 ≤ 9223372036854775807 then (some (((t2 ++ t3) ++ t4) ++ (⟨#[46, 53]⟩ : ByteArray))) else (none)) else (some ((t2 ++ t3) ++ t4))) else (none))) else (none)) = some r1 := H
 have A6 := hid A6_
 clear A6_
 by_cases c7 : t2.size + t3.size ≤ 9223372036854775807
 ·
  rw [if_pos c7] at H
  have hc7 := hid c7
  clear c7
  replace H := Option.bind_eq_some_iff.mp H
  obtain ⟨t4, A8_, H⟩ := H
  replace H : (if (t2 ++ t3).size + t4.size ≤ 9223372036854775807 then (if a0_3 = true then (if ((t2 ++ t3) ++ t4).size + 2 ≤ 9223372036854775807 then (some (((t2 ++ t3) ++ t4) ++ (⟨#[46, 53]⟩ : ByteArray))) else (none)) else (some ((t2 ++ t3) ++ t4))) else (none)) = some r1 := H
  have A8 := hid A8_
  clear A8_
  by_cases c9 : (t2 ++ t3).size + t4.size ≤ 9223372036854775807
  ·
   rw [if_pos c9] at H
   have hc9 := hid c9
   clear c9
   cases a0_3 with
   | true =>
    rw [if_pos rfl] at H
    by_cases c11 : ((t2 ++ t3) ++ t4).size + 2 ≤ 9223372036854775807
    ·
     rw [if_pos c11] at H
     have hc11 := hid c11
     clear c11
     obtain rfl := Option.some.inj H
     clear H
     go_enter Tryd.func11, Tryd.ntmps11
     go_wp2_with (first
      | ((with_reducible refine gate_d (N := 1) rfl ?_); obtain ⟨gb1, hgb1⟩ : ∃ g_, w.heap.size = g_ := ⟨_, rfl⟩; refine ag_box #[.int .i64 a0_0, .int .i64 a0_1, .int .i64 a0_2, .bool true] gb1 hgb1 rfl _ rfl rfl ?_; intro w12 hb_ hB_ hs_; have GEb1 : Hid (w.heap.size ≤ gb1) := hid (by have := HL.out.size; omega); replace HL := hid (HL.out.trans (hb_.mono GEb1.out)); have BKb1 := hid hB_; clear hb_ hB_ hs_ hgb1))
     (try simp only [Act.put, List.setIfInBounds_toArray, List.set_cons_zero, List.set_cons_succ])
     have WR64 := i64_w
     have WR32 := i32_w
     refine up_regionW (by kernel_rfl) (by kernel_rfl) ?_
     refine q_do (.pointer (some ⟨gb1, 0, none⟩)) (fun w'_ hc_ => by obtain ⟨n_, hn_⟩ := hc_; exact ex_field 23 0 (.pointer (some ⟨gb1, 0, none⟩)) (.pointer (some ⟨gb1, 0, none⟩)) (fa23_0_0 gb1) _ rfl rfl) rfl rfl ?_
     intro ts_ ht_; simp only [List.setIfInBounds_toArray, List.set_cons_zero, List.set_cons_succ] at ht_; subst ht_
     refine q_do (.int .i64 a0_0) (fun w'_ hc_ => by obtain ⟨n_, hn_⟩ := hc_; exact ex_get sT3 gb1 (0) (.int .i64 a0_0) (#[.int .i64 a0_0, .int .i64 a0_1, .int .i64 a0_2, .bool true]) (by rw [hn_]; exact BKb1.out.below n_.below BKb1.out.lt) rfl _ rfl rfl) rfl rfl ?_
     intro ts_ ht_; simp only [List.setIfInBounds_toArray, List.set_cons_zero, List.set_cons_succ] at ht_; subst ht_
     refine q_call (.string t2) 23 #[.int .i64 a0_0] (fun w'_ => by go_simp) (fun w'_ hc_ => (i_alfilref15_kind.calls a0_0 t2 _ A5.out).mono fun e_ w2_ h_ => ⟨h_.1, up_same hc_ h_.2⟩) rfl rfl ?_
     intro ts_ ht_; simp only [List.setIfInBounds_toArray, List.set_cons_zero, List.set_cons_succ] at ht_; subst ht_
     refine q_do (.pointer (some ⟨gb1, 1, none⟩)) (fun w'_ hc_ => by obtain ⟨n_, hn_⟩ := hc_; exact ex_field 23 1 (.pointer (some ⟨gb1, 0, none⟩)) (.pointer (some ⟨gb1, 1, none⟩)) (fa23_1_0 gb1) _ rfl rfl) rfl rfl ?_
     intro ts_ ht_; simp only [List.setIfInBounds_toArray, List.set_cons_zero, List.set_cons_succ] at ht_; subst ht_
     refine q_do (.int .i64 a0_1) (fun w'_ hc_ => by obtain ⟨n_, hn_⟩ := hc_; exact ex_get sT3 gb1 (1) (.int .i64 a0_1) (#[.int .i64 a0_0, .int .i64 a0_1, .int .i64 a0_2, .bool true]) (by rw [hn_]; exact BKb1.out.below n_.below BKb1.out.lt) rfl _ rfl rfl) rfl rfl ?_
     intro ts_ ht_; simp only [List.setIfInBounds_toArray, List.set_cons_zero, List.set_cons_succ] at ht_; subst ht_
     refine q_call (.string t3) 24 #[.int .i64 a0_1] (fun w'_ => by go_simp) (fun w'_ hc_ => (i_alfilref15_goal.calls a0_1 t3 _ A6.out).mono fun e_ w2_ h_ => ⟨h_.1, up_same hc_ h_.2⟩) rfl rfl ?_
     intro ts_ ht_; simp only [List.setIfInBounds_toArray, List.set_cons_zero, List.set_cons_succ] at ht_; subst ht_
     refine q_do (.string (t2 ++ t3)) (fun w'_ hc_ => by obtain ⟨n_, hn_⟩ := hc_; exact ex_cat 9 t2 t3 hc7.out _ _ _ rfl rfl rfl) rfl rfl ?_
     intro ts_ ht_; simp only [List.setIfInBounds_toArray, List.set_cons_zero, List.set_cons_succ] at ht_; subst ht_
     refine q_do (.pointer (some ⟨gb1, 2, none⟩)) (fun w'_ hc_ => by obtain ⟨n_, hn_⟩ := hc_; exact ex_field 23 2 (.pointer (some ⟨gb1, 0, none⟩)) (.pointer (some ⟨gb1, 2, none⟩)) (fa23_2_0 gb1) _ rfl rfl) rfl rfl ?_
     intro ts_ ht_; simp only [List.setIfInBounds_toArray, List.set_cons_zero, List.set_cons_succ] at ht_; subst ht_
     refine q_do (.int .i64 a0_2) (fun w'_ hc_ => by obtain ⟨n_, hn_⟩ := hc_; exact ex_get sT3 gb1 (2) (.int .i64 a0_2) (#[.int .i64 a0_0, .int .i64 a0_1, .int .i64 a0_2, .bool true]) (by rw [hn_]; exact BKb1.out.below n_.below BKb1.out.lt) rfl _ rfl rfl) rfl rfl ?_
     intro ts_ ht_; simp only [List.setIfInBounds_toArray, List.set_cons_zero, List.set_cons_succ] at ht_; subst ht_
     refine q_call (.string t4) 25 #[.int .i64 a0_2] (fun w'_ => by go_simp) (fun w'_ hc_ => (i_alfilref15_decimal.calls a0_2 t4 _ A8.out).mono fun e_ w2_ h_ => ⟨h_.1, up_below hc_ h_.2⟩) rfl rfl ?_
     intro ts_ ht_; simp only [List.setIfInBounds_toArray, List.set_cons_zero, List.set_cons_succ] at ht_; subst ht_
     refine q_do (.string ((t2 ++ t3) ++ t4)) (fun w'_ hc_ => by obtain ⟨n_, hn_⟩ := hc_; exact ex_cat 9 (t2 ++ t3) t4 hc9.out _ _ _ rfl rfl rfl) rfl rfl ?_
     intro ts_ ht_; simp only [List.setIfInBounds_toArray, List.set_cons_zero, List.set_cons_succ] at ht_; subst ht_
     refine q_do (.string ((t2 ++ t3) ++ t4)) (fun w'_ hc_ => ex_mv (.tmp 14) (.inr rfl) _ rfl) rfl rfl ?_
     intro ts_ ht_; simp only [List.setIfInBounds_toArray, List.set_cons_zero, List.set_cons_succ] at ht_; subst ht_
     refine q_end ?_
     rintro w8_ ⟨n_, rfl⟩
     replace BKb1 := hid (BKb1.out.below n_.below BKb1.out.lt)
     replace HL := hid (HL.out.trans (n_.below.mono HL.out.size))
     generalize n_.world = w13 at *
     clear n_ WR64 WR32
     go_wp2_with (first
      | ((with_reducible refine gate_d (N := 15) rfl ?_); refine ag_fix (.pointer (some ⟨gb1, 3, none⟩)) (ex_field 23 3 (.pointer (some ⟨gb1, 0, none⟩)) (.pointer (some ⟨gb1, 3, none⟩)) (fa23_3_0 gb1) _ rfl rfl) rfl ?_)
      | ((with_reducible refine gate_d (N := 16) rfl ?_); refine ag_fix (.bool true) (ex_get sT4 gb1 (3) (.bool true) (#[.int .i64 a0_0, .int .i64 a0_1, .int .i64 a0_2, .bool true]) BKb1.out rfl _ rfl rfl) rfl ?_)
      | ((with_reducible refine gate_d (N := 18) rfl ?_); refine ag_fix (.string (((t2 ++ t3) ++ t4) ++ (⟨#[46, 53]⟩ : ByteArray))) (ex_cat 9 ((t2 ++ t3) ++ t4) (⟨#[46, 53]⟩ : ByteArray) hc11.out _ _ _ rfl rfl rfl) rfl ?_))
     (try simp only [Act.put, List.setIfInBounds_toArray, List.set_cons_zero, List.set_cons_succ])
     go_ret
     exact ⟨by first | rfl | (simp; done) | (simp [*]; done), HL.out⟩
    ·
     rw [if_neg c11] at H
     exact absurd H (by simp)
   | false =>
    rw [if_neg (show ¬ (false = true) by decide)] at H
    obtain rfl := Option.some.inj H
    clear H
    go_enter Tryd.func11, Tryd.ntmps11
    go_wp2_with (first
     | ((with_reducible refine gate_d (N := 1) rfl ?_); obtain ⟨gb1, hgb1⟩ : ∃ g_, w.heap.size = g_ := ⟨_, rfl⟩; refine ag_box #[.int .i64 a0_0, .int .i64 a0_1, .int .i64 a0_2, .bool false] gb1 hgb1 rfl _ rfl rfl ?_; intro w14 hb_ hB_ hs_; have GEb1 : Hid (w.heap.size ≤ gb1) := hid (by have := HL.out.size; omega); replace HL := hid (HL.out.trans (hb_.mono GEb1.out)); have BKb1 := hid hB_; clear hb_ hB_ hs_ hgb1))
    (try simp only [Act.put, List.setIfInBounds_toArray, List.set_cons_zero, List.set_cons_succ])
    have WR64 := i64_w
    have WR32 := i32_w
    refine up_regionW (by kernel_rfl) (by kernel_rfl) ?_
    refine q_do (.pointer (some ⟨gb1, 0, none⟩)) (fun w'_ hc_ => by obtain ⟨n_, hn_⟩ := hc_; exact ex_field 23 0 (.pointer (some ⟨gb1, 0, none⟩)) (.pointer (some ⟨gb1, 0, none⟩)) (fa23_0_0 gb1) _ rfl rfl) rfl rfl ?_
    intro ts_ ht_; simp only [List.setIfInBounds_toArray, List.set_cons_zero, List.set_cons_succ] at ht_; subst ht_
    refine q_do (.int .i64 a0_0) (fun w'_ hc_ => by obtain ⟨n_, hn_⟩ := hc_; exact ex_get sT3 gb1 (0) (.int .i64 a0_0) (#[.int .i64 a0_0, .int .i64 a0_1, .int .i64 a0_2, .bool false]) (by rw [hn_]; exact BKb1.out.below n_.below BKb1.out.lt) rfl _ rfl rfl) rfl rfl ?_
    intro ts_ ht_; simp only [List.setIfInBounds_toArray, List.set_cons_zero, List.set_cons_succ] at ht_; subst ht_
    refine q_call (.string t2) 23 #[.int .i64 a0_0] (fun w'_ => by go_simp) (fun w'_ hc_ => (i_alfilref15_kind.calls a0_0 t2 _ A5.out).mono fun e_ w2_ h_ => ⟨h_.1, up_same hc_ h_.2⟩) rfl rfl ?_
    intro ts_ ht_; simp only [List.setIfInBounds_toArray, List.set_cons_zero, List.set_cons_succ] at ht_; subst ht_
    refine q_do (.pointer (some ⟨gb1, 1, none⟩)) (fun w'_ hc_ => by obtain ⟨n_, hn_⟩ := hc_; exact ex_field 23 1 (.pointer (some ⟨gb1, 0, none⟩)) (.pointer (some ⟨gb1, 1, none⟩)) (fa23_1_0 gb1) _ rfl rfl) rfl rfl ?_
    intro ts_ ht_; simp only [List.setIfInBounds_toArray, List.set_cons_zero, List.set_cons_succ] at ht_; subst ht_
    refine q_do (.int .i64 a0_1) (fun w'_ hc_ => by obtain ⟨n_, hn_⟩ := hc_; exact ex_get sT3 gb1 (1) (.int .i64 a0_1) (#[.int .i64 a0_0, .int .i64 a0_1, .int .i64 a0_2, .bool false]) (by rw [hn_]; exact BKb1.out.below n_.below BKb1.out.lt) rfl _ rfl rfl) rfl rfl ?_
    intro ts_ ht_; simp only [List.setIfInBounds_toArray, List.set_cons_zero, List.set_cons_succ] at ht_; subst ht_
    refine q_call (.string t3) 24 #[.int .i64 a0_1] (fun w'_ => by go_simp) (fun w'_ hc_ => (i_alfilref15_goal.calls a0_1 t3 _ A6.out).mono fun e_ w2_ h_ => ⟨h_.1, up_same hc_ h_.2⟩) rfl rfl ?_
    intro ts_ ht_; simp only [List.setIfInBounds_toArray, List.set_cons_zero, List.set_cons_succ] at ht_; subst ht_
    refine q_do (.string (t2 ++ t3)) (fun w'_ hc_ => by obtain ⟨n_, hn_⟩ := hc_; exact ex_cat 9 t2 t3 hc7.out _ _ _ rfl rfl rfl) rfl rfl ?_
    intro ts_ ht_; simp only [List.setIfInBounds_toArray, List.set_cons_zero, List.set_cons_succ] at ht_; subst ht_
    refine q_do (.pointer (some ⟨gb1, 2, none⟩)) (fun w'_ hc_ => by obtain ⟨n_, hn_⟩ := hc_; exact ex_field 23 2 (.pointer (some ⟨gb1, 0, none⟩)) (.pointer (some ⟨gb1, 2, none⟩)) (fa23_2_0 gb1) _ rfl rfl) rfl rfl ?_
    intro ts_ ht_; simp only [List.setIfInBounds_toArray, List.set_cons_zero, List.set_cons_succ] at ht_; subst ht_
    refine q_do (.int .i64 a0_2) (fun w'_ hc_ => by obtain ⟨n_, hn_⟩ := hc_; exact ex_get sT3 gb1 (2) (.int .i64 a0_2) (#[.int .i64 a0_0, .int .i64 a0_1, .int .i64 a0_2, .bool false]) (by rw [hn_]; exact BKb1.out.below n_.below BKb1.out.lt) rfl _ rfl rfl) rfl rfl ?_
    intro ts_ ht_; simp only [List.setIfInBounds_toArray, List.set_cons_zero, List.set_cons_succ] at ht_; subst ht_
    refine q_call (.string t4) 25 #[.int .i64 a0_2] (fun w'_ => by go_simp) (fun w'_ hc_ => (i_alfilref15_decimal.calls a0_2 t4 _ A8.out).mono fun e_ w2_ h_ => ⟨h_.1, up_below hc_ h_.2⟩) rfl rfl ?_
    intro ts_ ht_; simp only [List.setIfInBounds_toArray, List.set_cons_zero, List.set_cons_succ] at ht_; subst ht_
    refine q_do (.string ((t2 ++ t3) ++ t4)) (fun w'_ hc_ => by obtain ⟨n_, hn_⟩ := hc_; exact ex_cat 9 (t2 ++ t3) t4 hc9.out _ _ _ rfl rfl rfl) rfl rfl ?_
    intro ts_ ht_; simp only [List.setIfInBounds_toArray, List.set_cons_zero, List.set_cons_succ] at ht_; subst ht_
    refine q_do (.string ((t2 ++ t3) ++ t4)) (fun w'_ hc_ => ex_mv (.tmp 14) (.inr rfl) _ rfl) rfl rfl ?_
    intro ts_ ht_; simp only [List.setIfInBounds_toArray, List.set_cons_zero, List.set_cons_succ] at ht_; subst ht_
    refine q_end ?_
    rintro w8_ ⟨n_, rfl⟩
    replace BKb1 := hid (BKb1.out.below n_.below BKb1.out.lt)
    replace HL := hid (HL.out.trans (n_.below.mono HL.out.size))
    generalize n_.world = w15 at *
    clear n_ WR64 WR32
    go_wp2_with (first
     | ((with_reducible refine gate_d (N := 15) rfl ?_); refine ag_fix (.pointer (some ⟨gb1, 3, none⟩)) (ex_field 23 3 (.pointer (some ⟨gb1, 0, none⟩)) (.pointer (some ⟨gb1, 3, none⟩)) (fa23_3_0 gb1) _ rfl rfl) rfl ?_)
     | ((with_reducible refine gate_d (N := 16) rfl ?_); refine ag_fix (.bool false) (ex_get sT4 gb1 (3) (.bool false) (#[.int .i64 a0_0, .int .i64 a0_1, .int .i64 a0_2, .bool false]) BKb1.out rfl _ rfl rfl) rfl ?_))
    (try simp only [Act.put, List.setIfInBounds_toArray, List.set_cons_zero, List.set_cons_succ])
    go_ret
    exact ⟨by first | rfl | (simp; done) | (simp [*]; done), HL.out⟩
  ·
   rw [if_neg c9] at H
   exact absurd H (by simp)
 ·
  rw [if_neg c7] at H
  exact absurd H (by simp)
/-! i_alfilref15_Begins: function 12 -/
def i_alfilref15_Begins.f (a0_0 : Int) (a0_1 : Int) (a0_2 : Int) (a0_3 : Bool) : Option (Int) := if a0_0 = 6 then (some 1) else (if a0_0 = 5 then (if a0_3 = true then (some 0) else (some 1)) else (some 0))
set_option maxHeartbeats 40000000 in
set_option maxRecDepth 100000 in
theorem i_alfilref15_Begins.calls (a0_0 : Int) (a0_1 : Int) (a0_2 : Int) (a0_3 : Bool) (r1 : Int) (w : World) (h : i_alfilref15_Begins.f a0_0 a0_1 a0_2 a0_3 = some r1) :
    Calls Tryd.prog 12 #[.agg #[.int .i64 a0_0, .int .i64 a0_1, .int .i64 a0_2, .bool a0_3]] w fun e w' => e = .returned (.int .i64 r1) ∧ Below w.heap.size w w' := by
 have HL := hid (Below.refl w.heap.size w)
 have H : (if a0_0 = 6 then (some 1) else (if a0_0 = 5 then (if a0_3 = true then (some 0) else (some 1)) else (some 0))) = some r1 := h
 clear h
 by_cases c2 : a0_0 = 6
 ·
  rw [if_pos c2] at H
  have c2b0 : (a0_0 == 6) = true := beq_iff_eq.mpr c2
  have c2b1 : (a0_0 != 6) = false := bne_eq_false_iff_eq.mpr c2
  have hc2 := hid c2
  clear c2
  obtain rfl := Option.some.inj H
  clear H
  go_enter Tryd.func12, Tryd.ntmps12
  go_wp2_with (first
   | ((with_reducible refine gate_d (N := 1) rfl ?_); obtain ⟨gb1, hgb1⟩ : ∃ g_, w.heap.size = g_ := ⟨_, rfl⟩; refine ag_box #[.int .i64 a0_0, .int .i64 a0_1, .int .i64 a0_2, .bool a0_3] gb1 hgb1 rfl _ rfl rfl ?_; intro w3 hb_ hB_ hs_; have GEb1 : Hid (w.heap.size ≤ gb1) := hid (by have := HL.out.size; omega); replace HL := hid (HL.out.trans (hb_.mono GEb1.out)); have BKb1 := hid hB_; clear hb_ hB_ hs_ hgb1)
   | ((with_reducible refine gate_d (N := 3) rfl ?_); refine ag_fix (.pointer (some ⟨gb1, 0, none⟩)) (ex_field 23 0 (.pointer (some ⟨gb1, 0, none⟩)) (.pointer (some ⟨gb1, 0, none⟩)) (fa23_0_0 gb1) _ rfl rfl) rfl ?_)
   | ((with_reducible refine gate_d (N := 4) rfl ?_); refine ag_fix (.int .i64 a0_0) (ex_get sT3 gb1 (0) (.int .i64 a0_0) (#[.int .i64 a0_0, .int .i64 a0_1, .int .i64 a0_2, .bool a0_3]) BKb1.out rfl _ rfl rfl) rfl ?_))
  (try simp only [Act.put, List.setIfInBounds_toArray, List.set_cons_zero, List.set_cons_succ])
  go_ret
  exact ⟨by first | rfl | (simp; done) | (simp [*]; done), HL.out⟩
 ·
  rw [if_neg c2] at H
  have c2b0 : (a0_0 == 6) = false := beq_eq_false_iff_ne.mpr c2
  have c2b1 : (a0_0 != 6) = true := bne_iff_ne.mpr c2
  have hc2 := hid c2
  clear c2
  by_cases c4 : a0_0 = 5
  ·
   rw [if_pos c4] at H
   have c4b0 : (a0_0 == 5) = true := beq_iff_eq.mpr c4
   have c4b1 : (a0_0 != 5) = false := bne_eq_false_iff_eq.mpr c4
   have hc4 := hid c4
   clear c4
   cases a0_3 with
   | true =>
    rw [if_pos rfl] at H
    obtain rfl := Option.some.inj H
    clear H
    go_enter Tryd.func12, Tryd.ntmps12
    go_wp2_with (first
     | ((with_reducible refine gate_d (N := 1) rfl ?_); obtain ⟨gb1, hgb1⟩ : ∃ g_, w.heap.size = g_ := ⟨_, rfl⟩; refine ag_box #[.int .i64 a0_0, .int .i64 a0_1, .int .i64 a0_2, .bool true] gb1 hgb1 rfl _ rfl rfl ?_; intro w6 hb_ hB_ hs_; have GEb1 : Hid (w.heap.size ≤ gb1) := hid (by have := HL.out.size; omega); replace HL := hid (HL.out.trans (hb_.mono GEb1.out)); have BKb1 := hid hB_; clear hb_ hB_ hs_ hgb1)
     | ((with_reducible refine gate_d (N := 3) rfl ?_); refine ag_fix (.pointer (some ⟨gb1, 0, none⟩)) (ex_field 23 0 (.pointer (some ⟨gb1, 0, none⟩)) (.pointer (some ⟨gb1, 0, none⟩)) (fa23_0_0 gb1) _ rfl rfl) rfl ?_)
     | ((with_reducible refine gate_d (N := 4) rfl ?_); refine ag_fix (.int .i64 a0_0) (ex_get sT3 gb1 (0) (.int .i64 a0_0) (#[.int .i64 a0_0, .int .i64 a0_1, .int .i64 a0_2, .bool true]) BKb1.out rfl _ rfl rfl) rfl ?_)
     | ((with_reducible refine gate_d (N := 7) rfl ?_); refine ag_fix (.pointer (some ⟨gb1, 0, none⟩)) (ex_field 23 0 (.pointer (some ⟨gb1, 0, none⟩)) (.pointer (some ⟨gb1, 0, none⟩)) (fa23_0_0 gb1) _ rfl rfl) rfl ?_)
     | ((with_reducible refine gate_d (N := 8) rfl ?_); refine ag_fix (.int .i64 a0_0) (ex_get sT3 gb1 (0) (.int .i64 a0_0) (#[.int .i64 a0_0, .int .i64 a0_1, .int .i64 a0_2, .bool true]) BKb1.out rfl _ rfl rfl) rfl ?_)
     | ((with_reducible refine gate_d (N := 11) rfl ?_); refine ag_fix (.pointer (some ⟨gb1, 3, none⟩)) (ex_field 23 3 (.pointer (some ⟨gb1, 0, none⟩)) (.pointer (some ⟨gb1, 3, none⟩)) (fa23_3_0 gb1) _ rfl rfl) rfl ?_)
     | ((with_reducible refine gate_d (N := 12) rfl ?_); refine ag_fix (.bool true) (ex_get sT4 gb1 (3) (.bool true) (#[.int .i64 a0_0, .int .i64 a0_1, .int .i64 a0_2, .bool true]) BKb1.out rfl _ rfl rfl) rfl ?_))
    (try simp only [Act.put, List.setIfInBounds_toArray, List.set_cons_zero, List.set_cons_succ])
    go_ret
    exact ⟨by first | rfl | (simp; done) | (simp [*]; done), HL.out⟩
   | false =>
    rw [if_neg (show ¬ (false = true) by decide)] at H
    obtain rfl := Option.some.inj H
    clear H
    go_enter Tryd.func12, Tryd.ntmps12
    go_wp2_with (first
     | ((with_reducible refine gate_d (N := 1) rfl ?_); obtain ⟨gb1, hgb1⟩ : ∃ g_, w.heap.size = g_ := ⟨_, rfl⟩; refine ag_box #[.int .i64 a0_0, .int .i64 a0_1, .int .i64 a0_2, .bool false] gb1 hgb1 rfl _ rfl rfl ?_; intro w7 hb_ hB_ hs_; have GEb1 : Hid (w.heap.size ≤ gb1) := hid (by have := HL.out.size; omega); replace HL := hid (HL.out.trans (hb_.mono GEb1.out)); have BKb1 := hid hB_; clear hb_ hB_ hs_ hgb1)
     | ((with_reducible refine gate_d (N := 3) rfl ?_); refine ag_fix (.pointer (some ⟨gb1, 0, none⟩)) (ex_field 23 0 (.pointer (some ⟨gb1, 0, none⟩)) (.pointer (some ⟨gb1, 0, none⟩)) (fa23_0_0 gb1) _ rfl rfl) rfl ?_)
     | ((with_reducible refine gate_d (N := 4) rfl ?_); refine ag_fix (.int .i64 a0_0) (ex_get sT3 gb1 (0) (.int .i64 a0_0) (#[.int .i64 a0_0, .int .i64 a0_1, .int .i64 a0_2, .bool false]) BKb1.out rfl _ rfl rfl) rfl ?_)
     | ((with_reducible refine gate_d (N := 7) rfl ?_); refine ag_fix (.pointer (some ⟨gb1, 0, none⟩)) (ex_field 23 0 (.pointer (some ⟨gb1, 0, none⟩)) (.pointer (some ⟨gb1, 0, none⟩)) (fa23_0_0 gb1) _ rfl rfl) rfl ?_)
     | ((with_reducible refine gate_d (N := 8) rfl ?_); refine ag_fix (.int .i64 a0_0) (ex_get sT3 gb1 (0) (.int .i64 a0_0) (#[.int .i64 a0_0, .int .i64 a0_1, .int .i64 a0_2, .bool false]) BKb1.out rfl _ rfl rfl) rfl ?_)
     | ((with_reducible refine gate_d (N := 11) rfl ?_); refine ag_fix (.pointer (some ⟨gb1, 3, none⟩)) (ex_field 23 3 (.pointer (some ⟨gb1, 0, none⟩)) (.pointer (some ⟨gb1, 3, none⟩)) (fa23_3_0 gb1) _ rfl rfl) rfl ?_)
     | ((with_reducible refine gate_d (N := 12) rfl ?_); refine ag_fix (.bool false) (ex_get sT4 gb1 (3) (.bool false) (#[.int .i64 a0_0, .int .i64 a0_1, .int .i64 a0_2, .bool false]) BKb1.out rfl _ rfl rfl) rfl ?_))
    (try simp only [Act.put, List.setIfInBounds_toArray, List.set_cons_zero, List.set_cons_succ])
    go_ret
    exact ⟨by first | rfl | (simp; done) | (simp [*]; done), HL.out⟩
  ·
   rw [if_neg c4] at H
   have c4b0 : (a0_0 == 5) = false := beq_eq_false_iff_ne.mpr c4
   have c4b1 : (a0_0 != 5) = true := bne_iff_ne.mpr c4
   have hc4 := hid c4
   clear c4
   obtain rfl := Option.some.inj H
   clear H
   go_enter Tryd.func12, Tryd.ntmps12
   go_wp2_with (first
    | ((with_reducible refine gate_d (N := 1) rfl ?_); obtain ⟨gb1, hgb1⟩ : ∃ g_, w.heap.size = g_ := ⟨_, rfl⟩; refine ag_box #[.int .i64 a0_0, .int .i64 a0_1, .int .i64 a0_2, .bool a0_3] gb1 hgb1 rfl _ rfl rfl ?_; intro w8 hb_ hB_ hs_; have GEb1 : Hid (w.heap.size ≤ gb1) := hid (by have := HL.out.size; omega); replace HL := hid (HL.out.trans (hb_.mono GEb1.out)); have BKb1 := hid hB_; clear hb_ hB_ hs_ hgb1)
    | ((with_reducible refine gate_d (N := 3) rfl ?_); refine ag_fix (.pointer (some ⟨gb1, 0, none⟩)) (ex_field 23 0 (.pointer (some ⟨gb1, 0, none⟩)) (.pointer (some ⟨gb1, 0, none⟩)) (fa23_0_0 gb1) _ rfl rfl) rfl ?_)
    | ((with_reducible refine gate_d (N := 4) rfl ?_); refine ag_fix (.int .i64 a0_0) (ex_get sT3 gb1 (0) (.int .i64 a0_0) (#[.int .i64 a0_0, .int .i64 a0_1, .int .i64 a0_2, .bool a0_3]) BKb1.out rfl _ rfl rfl) rfl ?_)
    | ((with_reducible refine gate_d (N := 7) rfl ?_); refine ag_fix (.pointer (some ⟨gb1, 0, none⟩)) (ex_field 23 0 (.pointer (some ⟨gb1, 0, none⟩)) (.pointer (some ⟨gb1, 0, none⟩)) (fa23_0_0 gb1) _ rfl rfl) rfl ?_)
    | ((with_reducible refine gate_d (N := 8) rfl ?_); refine ag_fix (.int .i64 a0_0) (ex_get sT3 gb1 (0) (.int .i64 a0_0) (#[.int .i64 a0_0, .int .i64 a0_1, .int .i64 a0_2, .bool a0_3]) BKb1.out rfl _ rfl rfl) rfl ?_))
   (try simp only [Act.put, List.setIfInBounds_toArray, List.set_cons_zero, List.set_cons_succ])
   go_ret
   exact ⟨by first | rfl | (simp; done) | (simp [*]; done), HL.out⟩
end Go.Proofs.YtabbkeliknidgaaDoor
