import Derived.Test.YtpjocgebnodnoaaProg
import Derived.Test.YtpjocgebnodnoaaC3wz
import Derived.Test.YtpjocgebnodnoaaY2wz
namespace Go.Proofs.Ytpjocgebnodnoaa
open Go.RowKit
set_option linter.unusedVariables false
set_option linter.unusedSimpArgs false
set_option maxRecDepth 100000
theorem fa75_0_0 (g : Nat) (w : World) : (Instr.fieldAt 75 (.pointer (some ⟨g, 0, none⟩)) 0).run Try.prog w = .ok (.pointer (some ⟨g, 0, none⟩)) w := by kernel_rfl
theorem fa75_1_0 (g : Nat) (w : World) : (Instr.fieldAt 75 (.pointer (some ⟨g, 0, none⟩)) 1).run Try.prog w = .ok (.pointer (some ⟨g, 1, none⟩)) w := by kernel_rfl
theorem fa46_0_0 (g : Nat) (w : World) : (Instr.fieldAt 46 (.pointer (some ⟨g, 0, none⟩)) 0).run Try.prog w = .ok (.pointer (some ⟨g, 0, none⟩)) w := by kernel_rfl
theorem fa46_1_0 (g : Nat) (w : World) : (Instr.fieldAt 46 (.pointer (some ⟨g, 0, none⟩)) 1).run Try.prog w = .ok (.pointer (some ⟨g, 64, none⟩)) w := by kernel_rfl
theorem fa75_2_0 (g : Nat) (w : World) : (Instr.fieldAt 75 (.pointer (some ⟨g, 0, none⟩)) 2).run Try.prog w = .ok (.pointer (some ⟨g, 2, none⟩)) w := by kernel_rfl
def i_alfilref09_Pawn.f (a0 : List Int) (a1 : Int) : Option (Bool) := if 0 ≤ a1 then (if a1 < 64 then (if (nt a0 a1.toNat 0) = 1 then (some true) else (some ((nt a0 a1.toNat 0) == (-1)))) else (none)) else (none)
set_option maxHeartbeats 40000000 in
set_option maxRecDepth 100000 in
theorem i_alfilref09_Pawn.calls (a0 : List Int) (a1 : Int) (hla0 : a0.length = 64) (r1 : Bool) (w : World) (h : i_alfilref09_Pawn.f a0 a1 = some r1) :
    Calls Try.prog 83 #[.agg (bv a0), .int .i64 a1] w fun e w' => e = .returned (.bool r1) ∧ Below w.heap.size w w' := by
 have LN_a0 := hid hla0
 clear hla0
 have HL := hid (Below.refl w.heap.size w)
 have H : (if 0 ≤ a1 then (if a1 < 64 then (if (nt a0 a1.toNat 0) = 1 then (some true) else (some ((nt a0 a1.toNat 0) == (-1)))) else (none)) else (none)) = some r1 := h
 clear h
 by_cases c2 : 0 ≤ a1
 ·
  rw [if_pos c2] at H
  have c2b0 : decide (0 ≤ a1) = true := decide_eq_true c2
  have hc2 := hid c2
  clear c2
  by_cases c3 : a1 < 64
  ·
   rw [if_pos c3] at H
   have c3b0 : decide (a1 < 64) = true := decide_eq_true c3
   have hc3 := hid c3
   clear c3
   by_cases c4 : (nt a0 a1.toNat 0) = 1
   ·
    rw [if_pos c4] at H
    have c4b0 : ((nt a0 a1.toNat 0) == 1) = true := beq_iff_eq.mpr c4
    have c4b1 : ((nt a0 a1.toNat 0) != 1) = false := bne_eq_false_iff_eq.mpr c4
    have hc4 := hid c4
    clear c4
    obtain rfl := Option.some.inj H
    clear H
    go_enter Try.func83, Try.ntmps83
    go_wp2_with (first
     | ((with_reducible refine gate_d (N := 2) rfl ?_); obtain ⟨gb1, hgb1⟩ : ∃ g_, w.heap.size = g_ := ⟨_, rfl⟩; refine ag_box (bv a0) gb1 hgb1 rfl _ rfl rfl ?_; intro w5 hb_ hB_ hs_; have GEb1 : Hid (w.heap.size ≤ gb1) := hid (by have := HL.out.size; omega); replace HL := hid (HL.out.trans (hb_.mono GEb1.out)); have BKb1 := hid hB_; clear hb_ hB_ hs_ hgb1)
     | ((with_reducible refine gate_d (N := 6) rfl ?_); refine ag_fix (.pointer (some ⟨gb1, a1.toNat, none⟩)) (ex_at 44 (.pointer (some ⟨gb1, 0, none⟩)) (.int .i64 a1) (.pointer (some ⟨gb1, a1.toNat, none⟩)) (fun w_ => (run_atv 42 uT44 sT42.size gb1 0 a1 hc2.out hc3.out w_).trans (by simp)) _ _ rfl rfl rfl) rfl ?_)
     | ((with_reducible refine gate_d (N := 7) rfl ?_); refine ag_fix (.int .i8 (nt a0 a1.toNat 0)) (ex_get sT42 gb1 (a1.toNat) (.int .i8 (nt a0 a1.toNat 0)) ((bv a0)) BKb1.out (av_get 0 (by have h_ : a0.length = 64 := LN_a0.out; have h1_ := hc2.out; have h2_ := hc3.out; omega)) _ rfl rfl) rfl ?_))
    (try simp only [Act.put, sI, sZ, sS])
    go_ret
    exact ⟨by first | rfl | (simp; done) | (simp [*]; done), HL.out⟩
   ·
    rw [if_neg c4] at H
    have c4b0 : ((nt a0 a1.toNat 0) == 1) = false := beq_eq_false_iff_ne.mpr c4
    have c4b1 : ((nt a0 a1.toNat 0) != 1) = true := bne_iff_ne.mpr c4
    have hc4 := hid c4
    clear c4
    obtain rfl := Option.some.inj H
    clear H
    go_enter Try.func83, Try.ntmps83
    go_wp2_with (first
     | ((with_reducible refine gate_d (N := 2) rfl ?_); obtain ⟨gb1, hgb1⟩ : ∃ g_, w.heap.size = g_ := ⟨_, rfl⟩; refine ag_box (bv a0) gb1 hgb1 rfl _ rfl rfl ?_; intro w6 hb_ hB_ hs_; have GEb1 : Hid (w.heap.size ≤ gb1) := hid (by have := HL.out.size; omega); replace HL := hid (HL.out.trans (hb_.mono GEb1.out)); have BKb1 := hid hB_; clear hb_ hB_ hs_ hgb1)
     | ((with_reducible refine gate_d (N := 6) rfl ?_); refine ag_fix (.pointer (some ⟨gb1, a1.toNat, none⟩)) (ex_at 44 (.pointer (some ⟨gb1, 0, none⟩)) (.int .i64 a1) (.pointer (some ⟨gb1, a1.toNat, none⟩)) (fun w_ => (run_atv 42 uT44 sT42.size gb1 0 a1 hc2.out hc3.out w_).trans (by simp)) _ _ rfl rfl rfl) rfl ?_)
     | ((with_reducible refine gate_d (N := 7) rfl ?_); refine ag_fix (.int .i8 (nt a0 a1.toNat 0)) (ex_get sT42 gb1 (a1.toNat) (.int .i8 (nt a0 a1.toNat 0)) ((bv a0)) BKb1.out (av_get 0 (by have h_ : a0.length = 64 := LN_a0.out; have h1_ := hc2.out; have h2_ := hc3.out; omega)) _ rfl rfl) rfl ?_)
     | ((with_reducible refine gate_d (N := 11) rfl ?_); refine ag_fix (.pointer (some ⟨gb1, a1.toNat, none⟩)) (ex_at 44 (.pointer (some ⟨gb1, 0, none⟩)) (.int .i64 a1) (.pointer (some ⟨gb1, a1.toNat, none⟩)) (fun w_ => (run_atv 42 uT44 sT42.size gb1 0 a1 hc2.out hc3.out w_).trans (by simp)) _ _ rfl rfl rfl) rfl ?_)
     | ((with_reducible refine gate_d (N := 12) rfl ?_); refine ag_fix (.int .i8 (nt a0 a1.toNat 0)) (ex_get sT42 gb1 (a1.toNat) (.int .i8 (nt a0 a1.toNat 0)) ((bv a0)) BKb1.out (av_get 0 (by have h_ : a0.length = 64 := LN_a0.out; have h1_ := hc2.out; have h2_ := hc3.out; omega)) _ rfl rfl) rfl ?_))
    (try simp only [Act.put, sI, sZ, sS])
    go_ret
    exact ⟨by first | rfl | (simp; done) | (simp [*]; done), HL.out⟩
  ·
   rw [if_neg c3] at H
   exact absurd H (by simp)
 ·
  rw [if_neg c2] at H
  exact absurd H (by simp)
def i_alfilref08_Has.f (a0 : Int) (a1 : Int) : Option (Bool) := if a1 = 0 then (none) else (some ((Int.tmod (wrap64 (Int.tdiv a0 a1)) 2) == 1))
set_option maxHeartbeats 40000000 in
set_option maxRecDepth 100000 in
theorem i_alfilref08_Has.calls (a0 : Int) (a1 : Int) (r1 : Bool) (w : World) (h : i_alfilref08_Has.f a0 a1 = some r1) :
    Calls Try.prog 86 #[.int .i64 a0, .int .i64 a1] w fun e w' => e = .returned (.bool r1) ∧ w = w' := by
 have H : (if a1 = 0 then (none) else (some ((Int.tmod (wrap64 (Int.tdiv a0 a1)) 2) == 1))) = some r1 := h
 clear h
 by_cases c1 : a1 = 0
 ·
  rw [if_pos c1] at H
  exact absurd H (by simp)
 ·
  rw [if_neg c1] at H
  have c1b0 : (a1 == 0) = false := beq_eq_false_iff_ne.mpr c1
  have c1b1 : (a1 != 0) = true := bne_iff_ne.mpr c1
  have c1b2 : ¬ (a1 = 0) := c1
  have hc1 := hid c1
  clear c1
  obtain rfl := Option.some.inj H
  clear H
  go_enter Try.func86, Try.ntmps86
  go_wp2_with fail
  (try simp only [Act.put, sI, sZ, sS])
  go_ret
  exact ⟨by first | rfl | (simp; done) | (simp [*]; done), rfl⟩
def i_alfilref09_clear.f (a0 : List Int) (a1 : Int) : Option (Bool) := if a1 = 1 then (if (nt a0 5 0) = 0 then (some ((nt a0 6 0) == 0)) else (some false)) else (if a1 = 2 then (if (nt a0 1 0) = 0 then (if (nt a0 2 0) = 0 then (some ((nt a0 3 0) == 0)) else (some false)) else (some false)) else (if a1 = 4 then (if (nt a0 61 0) = 0 then (some ((nt a0 62 0) == 0)) else (some false)) else (if (nt a0 57 0) = 0 then (if (nt a0 58 0) = 0 then (some ((nt a0 59 0) == 0)) else (some false)) else (some false))))
set_option maxHeartbeats 40000000 in
set_option maxRecDepth 100000 in
theorem i_alfilref09_clear.calls (a0 : List Int) (a1 : Int) (hla0 : a0.length = 64) (r1 : Bool) (w : World) (h : i_alfilref09_clear.f a0 a1 = some r1) :
    Calls Try.prog 111 #[.agg (bv a0), .int .i64 a1] w fun e w' => e = .returned (.bool r1) ∧ Below w.heap.size w w' := by
 have LN_a0 := hid hla0
 clear hla0
 have HL := hid (Below.refl w.heap.size w)
 have H : (if a1 = 1 then (if (nt a0 5 0) = 0 then (some ((nt a0 6 0) == 0)) else (some false)) else (if a1 = 2 then (if (nt a0 1 0) = 0 then (if (nt a0 2 0) = 0 then (some ((nt a0 3 0) == 0)) else (some false)) else (some false)) else (if a1 = 4 then (if (nt a0 61 0) = 0 then (some ((nt a0 62 0) == 0)) else (some false)) else (if (nt a0 57 0) = 0 then (if (nt a0 58 0) = 0 then (some ((nt a0 59 0) == 0)) else (some false)) else (some false))))) = some r1 := h
 clear h
 by_cases c2 : a1 = 1
 ·
  rw [if_pos c2] at H
  have c2b0 : (a1 == 1) = true := beq_iff_eq.mpr c2
  have c2b1 : (a1 != 1) = false := bne_eq_false_iff_eq.mpr c2
  have hc2 := hid c2
  clear c2
  by_cases c3 : (nt a0 5 0) = 0
  ·
   rw [if_pos c3] at H
   have c3b0 : ((nt a0 5 0) == 0) = true := beq_iff_eq.mpr c3
   have c3b1 : ((nt a0 5 0) != 0) = false := bne_eq_false_iff_eq.mpr c3
   have hc3 := hid c3
   clear c3
   obtain rfl := Option.some.inj H
   clear H
   go_enter Try.func111, Try.ntmps111
   go_wp2_with (first
    | ((with_reducible refine gate_d (N := 2) rfl ?_); obtain ⟨gb1, hgb1⟩ : ∃ g_, w.heap.size = g_ := ⟨_, rfl⟩; refine ag_box (bv a0) gb1 hgb1 rfl _ rfl rfl ?_; intro w4 hb_ hB_ hs_; have GEb1 : Hid (w.heap.size ≤ gb1) := hid (by have := HL.out.size; omega); replace HL := hid (HL.out.trans (hb_.mono GEb1.out)); have BKb1 := hid hB_; clear hb_ hB_ hs_ hgb1)
    | ((with_reducible refine gate_d (N := 8) rfl ?_); refine ag_fix (.pointer (some ⟨gb1, 5, none⟩)) (ex_at 44 (.pointer (some ⟨gb1, 0, none⟩)) (.int .i64 5) (.pointer (some ⟨gb1, 5, none⟩)) (fun w_ => (run_atv 42 uT44 sT42.size gb1 0 5 (by omega) (by omega) w_).trans rfl) _ _ rfl rfl rfl) rfl ?_)
    | ((with_reducible refine gate_d (N := 9) rfl ?_); refine ag_fix (.int .i8 (nt a0 5 0)) (ex_get sT42 gb1 (5) (.int .i8 (nt a0 5 0)) ((bv a0)) BKb1.out (av_get 0 (by have h_ : a0.length = 64 := LN_a0.out; omega)) _ rfl rfl) rfl ?_)
    | ((with_reducible refine gate_d (N := 12) rfl ?_); refine ag_fix (.pointer (some ⟨gb1, 6, none⟩)) (ex_at 44 (.pointer (some ⟨gb1, 0, none⟩)) (.int .i64 6) (.pointer (some ⟨gb1, 6, none⟩)) (fun w_ => (run_atv 42 uT44 sT42.size gb1 0 6 (by omega) (by omega) w_).trans rfl) _ _ rfl rfl rfl) rfl ?_)
    | ((with_reducible refine gate_d (N := 13) rfl ?_); refine ag_fix (.int .i8 (nt a0 6 0)) (ex_get sT42 gb1 (6) (.int .i8 (nt a0 6 0)) ((bv a0)) BKb1.out (av_get 0 (by have h_ : a0.length = 64 := LN_a0.out; omega)) _ rfl rfl) rfl ?_))
   (try simp only [Act.put, sI, sZ, sS])
   go_ret
   exact ⟨by first | rfl | (simp; done) | (simp [*]; done), HL.out⟩
  ·
   rw [if_neg c3] at H
   have c3b0 : ((nt a0 5 0) == 0) = false := beq_eq_false_iff_ne.mpr c3
   have c3b1 : ((nt a0 5 0) != 0) = true := bne_iff_ne.mpr c3
   have hc3 := hid c3
   clear c3
   obtain rfl := Option.some.inj H
   clear H
   go_enter Try.func111, Try.ntmps111
   go_wp2_with (first
    | ((with_reducible refine gate_d (N := 2) rfl ?_); obtain ⟨gb1, hgb1⟩ : ∃ g_, w.heap.size = g_ := ⟨_, rfl⟩; refine ag_box (bv a0) gb1 hgb1 rfl _ rfl rfl ?_; intro w5 hb_ hB_ hs_; have GEb1 : Hid (w.heap.size ≤ gb1) := hid (by have := HL.out.size; omega); replace HL := hid (HL.out.trans (hb_.mono GEb1.out)); have BKb1 := hid hB_; clear hb_ hB_ hs_ hgb1)
    | ((with_reducible refine gate_d (N := 8) rfl ?_); refine ag_fix (.pointer (some ⟨gb1, 5, none⟩)) (ex_at 44 (.pointer (some ⟨gb1, 0, none⟩)) (.int .i64 5) (.pointer (some ⟨gb1, 5, none⟩)) (fun w_ => (run_atv 42 uT44 sT42.size gb1 0 5 (by omega) (by omega) w_).trans rfl) _ _ rfl rfl rfl) rfl ?_)
    | ((with_reducible refine gate_d (N := 9) rfl ?_); refine ag_fix (.int .i8 (nt a0 5 0)) (ex_get sT42 gb1 (5) (.int .i8 (nt a0 5 0)) ((bv a0)) BKb1.out (av_get 0 (by have h_ : a0.length = 64 := LN_a0.out; omega)) _ rfl rfl) rfl ?_))
   (try simp only [Act.put, sI, sZ, sS])
   go_ret
   exact ⟨by first | rfl | (simp; done) | (simp [*]; done), HL.out⟩
 ·
  rw [if_neg c2] at H
  have c2b0 : (a1 == 1) = false := beq_eq_false_iff_ne.mpr c2
  have c2b1 : (a1 != 1) = true := bne_iff_ne.mpr c2
  have hc2 := hid c2
  clear c2
  by_cases c6 : a1 = 2
  ·
   rw [if_pos c6] at H
   have c6b0 : (a1 == 2) = true := beq_iff_eq.mpr c6
   have c6b1 : (a1 != 2) = false := bne_eq_false_iff_eq.mpr c6
   have hc6 := hid c6
   clear c6
   by_cases c7 : (nt a0 1 0) = 0
   ·
    rw [if_pos c7] at H
    have c7b0 : ((nt a0 1 0) == 0) = true := beq_iff_eq.mpr c7
    have c7b1 : ((nt a0 1 0) != 0) = false := bne_eq_false_iff_eq.mpr c7
    have hc7 := hid c7
    clear c7
    by_cases c8 : (nt a0 2 0) = 0
    ·
     rw [if_pos c8] at H
     have c8b0 : ((nt a0 2 0) == 0) = true := beq_iff_eq.mpr c8
     have c8b1 : ((nt a0 2 0) != 0) = false := bne_eq_false_iff_eq.mpr c8
     have hc8 := hid c8
     clear c8
     obtain rfl := Option.some.inj H
     clear H
     go_enter Try.func111, Try.ntmps111
     go_wp2_with (first
      | ((with_reducible refine gate_d (N := 2) rfl ?_); obtain ⟨gb1, hgb1⟩ : ∃ g_, w.heap.size = g_ := ⟨_, rfl⟩; refine ag_box (bv a0) gb1 hgb1 rfl _ rfl rfl ?_; intro w9 hb_ hB_ hs_; have GEb1 : Hid (w.heap.size ≤ gb1) := hid (by have := HL.out.size; omega); replace HL := hid (HL.out.trans (hb_.mono GEb1.out)); have BKb1 := hid hB_; clear hb_ hB_ hs_ hgb1)
      | ((with_reducible refine gate_d (N := 18) rfl ?_); refine ag_fix (.pointer (some ⟨gb1, 1, none⟩)) (ex_at 44 (.pointer (some ⟨gb1, 0, none⟩)) (.int .i64 1) (.pointer (some ⟨gb1, 1, none⟩)) (fun w_ => (run_atv 42 uT44 sT42.size gb1 0 1 (by omega) (by omega) w_).trans rfl) _ _ rfl rfl rfl) rfl ?_)
      | ((with_reducible refine gate_d (N := 19) rfl ?_); refine ag_fix (.int .i8 (nt a0 1 0)) (ex_get sT42 gb1 (1) (.int .i8 (nt a0 1 0)) ((bv a0)) BKb1.out (av_get 0 (by have h_ : a0.length = 64 := LN_a0.out; omega)) _ rfl rfl) rfl ?_)
      | ((with_reducible refine gate_d (N := 22) rfl ?_); refine ag_fix (.pointer (some ⟨gb1, 2, none⟩)) (ex_at 44 (.pointer (some ⟨gb1, 0, none⟩)) (.int .i64 2) (.pointer (some ⟨gb1, 2, none⟩)) (fun w_ => (run_atv 42 uT44 sT42.size gb1 0 2 (by omega) (by omega) w_).trans rfl) _ _ rfl rfl rfl) rfl ?_)
      | ((with_reducible refine gate_d (N := 23) rfl ?_); refine ag_fix (.int .i8 (nt a0 2 0)) (ex_get sT42 gb1 (2) (.int .i8 (nt a0 2 0)) ((bv a0)) BKb1.out (av_get 0 (by have h_ : a0.length = 64 := LN_a0.out; omega)) _ rfl rfl) rfl ?_)
      | ((with_reducible refine gate_d (N := 27) rfl ?_); refine ag_fix (.pointer (some ⟨gb1, 3, none⟩)) (ex_at 44 (.pointer (some ⟨gb1, 0, none⟩)) (.int .i64 3) (.pointer (some ⟨gb1, 3, none⟩)) (fun w_ => (run_atv 42 uT44 sT42.size gb1 0 3 (by omega) (by omega) w_).trans rfl) _ _ rfl rfl rfl) rfl ?_)
      | ((with_reducible refine gate_d (N := 28) rfl ?_); refine ag_fix (.int .i8 (nt a0 3 0)) (ex_get sT42 gb1 (3) (.int .i8 (nt a0 3 0)) ((bv a0)) BKb1.out (av_get 0 (by have h_ : a0.length = 64 := LN_a0.out; omega)) _ rfl rfl) rfl ?_))
     (try simp only [Act.put, sI, sZ, sS])
     go_ret
     exact ⟨by first | rfl | (simp; done) | (simp [*]; done), HL.out⟩
    ·
     rw [if_neg c8] at H
     have c8b0 : ((nt a0 2 0) == 0) = false := beq_eq_false_iff_ne.mpr c8
     have c8b1 : ((nt a0 2 0) != 0) = true := bne_iff_ne.mpr c8
     have hc8 := hid c8
     clear c8
     obtain rfl := Option.some.inj H
     clear H
     go_enter Try.func111, Try.ntmps111
     go_wp2_with (first
      | ((with_reducible refine gate_d (N := 2) rfl ?_); obtain ⟨gb1, hgb1⟩ : ∃ g_, w.heap.size = g_ := ⟨_, rfl⟩; refine ag_box (bv a0) gb1 hgb1 rfl _ rfl rfl ?_; intro w10 hb_ hB_ hs_; have GEb1 : Hid (w.heap.size ≤ gb1) := hid (by have := HL.out.size; omega); replace HL := hid (HL.out.trans (hb_.mono GEb1.out)); have BKb1 := hid hB_; clear hb_ hB_ hs_ hgb1)
      | ((with_reducible refine gate_d (N := 18) rfl ?_); refine ag_fix (.pointer (some ⟨gb1, 1, none⟩)) (ex_at 44 (.pointer (some ⟨gb1, 0, none⟩)) (.int .i64 1) (.pointer (some ⟨gb1, 1, none⟩)) (fun w_ => (run_atv 42 uT44 sT42.size gb1 0 1 (by omega) (by omega) w_).trans rfl) _ _ rfl rfl rfl) rfl ?_)
      | ((with_reducible refine gate_d (N := 19) rfl ?_); refine ag_fix (.int .i8 (nt a0 1 0)) (ex_get sT42 gb1 (1) (.int .i8 (nt a0 1 0)) ((bv a0)) BKb1.out (av_get 0 (by have h_ : a0.length = 64 := LN_a0.out; omega)) _ rfl rfl) rfl ?_)
      | ((with_reducible refine gate_d (N := 22) rfl ?_); refine ag_fix (.pointer (some ⟨gb1, 2, none⟩)) (ex_at 44 (.pointer (some ⟨gb1, 0, none⟩)) (.int .i64 2) (.pointer (some ⟨gb1, 2, none⟩)) (fun w_ => (run_atv 42 uT44 sT42.size gb1 0 2 (by omega) (by omega) w_).trans rfl) _ _ rfl rfl rfl) rfl ?_)
      | ((with_reducible refine gate_d (N := 23) rfl ?_); refine ag_fix (.int .i8 (nt a0 2 0)) (ex_get sT42 gb1 (2) (.int .i8 (nt a0 2 0)) ((bv a0)) BKb1.out (av_get 0 (by have h_ : a0.length = 64 := LN_a0.out; omega)) _ rfl rfl) rfl ?_))
     (try simp only [Act.put, sI, sZ, sS])
     go_ret
     exact ⟨by first | rfl | (simp; done) | (simp [*]; done), HL.out⟩
   ·
    rw [if_neg c7] at H
    have c7b0 : ((nt a0 1 0) == 0) = false := beq_eq_false_iff_ne.mpr c7
    have c7b1 : ((nt a0 1 0) != 0) = true := bne_iff_ne.mpr c7
    have hc7 := hid c7
    clear c7
    obtain rfl := Option.some.inj H
    clear H
    go_enter Try.func111, Try.ntmps111
    go_wp2_with (first
     | ((with_reducible refine gate_d (N := 2) rfl ?_); obtain ⟨gb1, hgb1⟩ : ∃ g_, w.heap.size = g_ := ⟨_, rfl⟩; refine ag_box (bv a0) gb1 hgb1 rfl _ rfl rfl ?_; intro w11 hb_ hB_ hs_; have GEb1 : Hid (w.heap.size ≤ gb1) := hid (by have := HL.out.size; omega); replace HL := hid (HL.out.trans (hb_.mono GEb1.out)); have BKb1 := hid hB_; clear hb_ hB_ hs_ hgb1)
     | ((with_reducible refine gate_d (N := 18) rfl ?_); refine ag_fix (.pointer (some ⟨gb1, 1, none⟩)) (ex_at 44 (.pointer (some ⟨gb1, 0, none⟩)) (.int .i64 1) (.pointer (some ⟨gb1, 1, none⟩)) (fun w_ => (run_atv 42 uT44 sT42.size gb1 0 1 (by omega) (by omega) w_).trans rfl) _ _ rfl rfl rfl) rfl ?_)
     | ((with_reducible refine gate_d (N := 19) rfl ?_); refine ag_fix (.int .i8 (nt a0 1 0)) (ex_get sT42 gb1 (1) (.int .i8 (nt a0 1 0)) ((bv a0)) BKb1.out (av_get 0 (by have h_ : a0.length = 64 := LN_a0.out; omega)) _ rfl rfl) rfl ?_))
    (try simp only [Act.put, sI, sZ, sS])
    go_ret
    exact ⟨by first | rfl | (simp; done) | (simp [*]; done), HL.out⟩
  ·
   rw [if_neg c6] at H
   have c6b0 : (a1 == 2) = false := beq_eq_false_iff_ne.mpr c6
   have c6b1 : (a1 != 2) = true := bne_iff_ne.mpr c6
   have hc6 := hid c6
   clear c6
   by_cases c12 : a1 = 4
   ·
    rw [if_pos c12] at H
    have c12b0 : (a1 == 4) = true := beq_iff_eq.mpr c12
    have c12b1 : (a1 != 4) = false := bne_eq_false_iff_eq.mpr c12
    have hc12 := hid c12
    clear c12
    by_cases c13 : (nt a0 61 0) = 0
    ·
     rw [if_pos c13] at H
     have c13b0 : ((nt a0 61 0) == 0) = true := beq_iff_eq.mpr c13
     have c13b1 : ((nt a0 61 0) != 0) = false := bne_eq_false_iff_eq.mpr c13
     have hc13 := hid c13
     clear c13
     obtain rfl := Option.some.inj H
     clear H
     go_enter Try.func111, Try.ntmps111
     go_wp2_with (first
      | ((with_reducible refine gate_d (N := 2) rfl ?_); obtain ⟨gb1, hgb1⟩ : ∃ g_, w.heap.size = g_ := ⟨_, rfl⟩; refine ag_box (bv a0) gb1 hgb1 rfl _ rfl rfl ?_; intro w14 hb_ hB_ hs_; have GEb1 : Hid (w.heap.size ≤ gb1) := hid (by have := HL.out.size; omega); replace HL := hid (HL.out.trans (hb_.mono GEb1.out)); have BKb1 := hid hB_; clear hb_ hB_ hs_ hgb1)
      | ((with_reducible refine gate_d (N := 33) rfl ?_); refine ag_fix (.pointer (some ⟨gb1, 61, none⟩)) (ex_at 44 (.pointer (some ⟨gb1, 0, none⟩)) (.int .i64 61) (.pointer (some ⟨gb1, 61, none⟩)) (fun w_ => (run_atv 42 uT44 sT42.size gb1 0 61 (by omega) (by omega) w_).trans rfl) _ _ rfl rfl rfl) rfl ?_)
      | ((with_reducible refine gate_d (N := 34) rfl ?_); refine ag_fix (.int .i8 (nt a0 61 0)) (ex_get sT42 gb1 (61) (.int .i8 (nt a0 61 0)) ((bv a0)) BKb1.out (av_get 0 (by have h_ : a0.length = 64 := LN_a0.out; omega)) _ rfl rfl) rfl ?_)
      | ((with_reducible refine gate_d (N := 37) rfl ?_); refine ag_fix (.pointer (some ⟨gb1, 62, none⟩)) (ex_at 44 (.pointer (some ⟨gb1, 0, none⟩)) (.int .i64 62) (.pointer (some ⟨gb1, 62, none⟩)) (fun w_ => (run_atv 42 uT44 sT42.size gb1 0 62 (by omega) (by omega) w_).trans rfl) _ _ rfl rfl rfl) rfl ?_)
      | ((with_reducible refine gate_d (N := 38) rfl ?_); refine ag_fix (.int .i8 (nt a0 62 0)) (ex_get sT42 gb1 (62) (.int .i8 (nt a0 62 0)) ((bv a0)) BKb1.out (av_get 0 (by have h_ : a0.length = 64 := LN_a0.out; omega)) _ rfl rfl) rfl ?_))
     (try simp only [Act.put, sI, sZ, sS])
     go_ret
     exact ⟨by first | rfl | (simp; done) | (simp [*]; done), HL.out⟩
    ·
     rw [if_neg c13] at H
     have c13b0 : ((nt a0 61 0) == 0) = false := beq_eq_false_iff_ne.mpr c13
     have c13b1 : ((nt a0 61 0) != 0) = true := bne_iff_ne.mpr c13
     have hc13 := hid c13
     clear c13
     obtain rfl := Option.some.inj H
     clear H
     go_enter Try.func111, Try.ntmps111
     go_wp2_with (first
      | ((with_reducible refine gate_d (N := 2) rfl ?_); obtain ⟨gb1, hgb1⟩ : ∃ g_, w.heap.size = g_ := ⟨_, rfl⟩; refine ag_box (bv a0) gb1 hgb1 rfl _ rfl rfl ?_; intro w15 hb_ hB_ hs_; have GEb1 : Hid (w.heap.size ≤ gb1) := hid (by have := HL.out.size; omega); replace HL := hid (HL.out.trans (hb_.mono GEb1.out)); have BKb1 := hid hB_; clear hb_ hB_ hs_ hgb1)
      | ((with_reducible refine gate_d (N := 33) rfl ?_); refine ag_fix (.pointer (some ⟨gb1, 61, none⟩)) (ex_at 44 (.pointer (some ⟨gb1, 0, none⟩)) (.int .i64 61) (.pointer (some ⟨gb1, 61, none⟩)) (fun w_ => (run_atv 42 uT44 sT42.size gb1 0 61 (by omega) (by omega) w_).trans rfl) _ _ rfl rfl rfl) rfl ?_)
      | ((with_reducible refine gate_d (N := 34) rfl ?_); refine ag_fix (.int .i8 (nt a0 61 0)) (ex_get sT42 gb1 (61) (.int .i8 (nt a0 61 0)) ((bv a0)) BKb1.out (av_get 0 (by have h_ : a0.length = 64 := LN_a0.out; omega)) _ rfl rfl) rfl ?_))
     (try simp only [Act.put, sI, sZ, sS])
     go_ret
     exact ⟨by first | rfl | (simp; done) | (simp [*]; done), HL.out⟩
   ·
    rw [if_neg c12] at H
    have c12b0 : (a1 == 4) = false := beq_eq_false_iff_ne.mpr c12
    have c12b1 : (a1 != 4) = true := bne_iff_ne.mpr c12
    have hc12 := hid c12
    clear c12
    by_cases c16 : (nt a0 57 0) = 0
    ·
     rw [if_pos c16] at H
     have c16b0 : ((nt a0 57 0) == 0) = true := beq_iff_eq.mpr c16
     have c16b1 : ((nt a0 57 0) != 0) = false := bne_eq_false_iff_eq.mpr c16
     have hc16 := hid c16
     clear c16
     by_cases c17 : (nt a0 58 0) = 0
     ·
      rw [if_pos c17] at H
      have c17b0 : ((nt a0 58 0) == 0) = true := beq_iff_eq.mpr c17
      have c17b1 : ((nt a0 58 0) != 0) = false := bne_eq_false_iff_eq.mpr c17
      have hc17 := hid c17
      clear c17
      obtain rfl := Option.some.inj H
      clear H
      go_enter Try.func111, Try.ntmps111
      go_wp2_with (first
       | ((with_reducible refine gate_d (N := 2) rfl ?_); obtain ⟨gb1, hgb1⟩ : ∃ g_, w.heap.size = g_ := ⟨_, rfl⟩; refine ag_box (bv a0) gb1 hgb1 rfl _ rfl rfl ?_; intro w18 hb_ hB_ hs_; have GEb1 : Hid (w.heap.size ≤ gb1) := hid (by have := HL.out.size; omega); replace HL := hid (HL.out.trans (hb_.mono GEb1.out)); have BKb1 := hid hB_; clear hb_ hB_ hs_ hgb1)
       | ((with_reducible refine gate_d (N := 41) rfl ?_); refine ag_fix (.pointer (some ⟨gb1, 57, none⟩)) (ex_at 44 (.pointer (some ⟨gb1, 0, none⟩)) (.int .i64 57) (.pointer (some ⟨gb1, 57, none⟩)) (fun w_ => (run_atv 42 uT44 sT42.size gb1 0 57 (by omega) (by omega) w_).trans rfl) _ _ rfl rfl rfl) rfl ?_)
       | ((with_reducible refine gate_d (N := 42) rfl ?_); refine ag_fix (.int .i8 (nt a0 57 0)) (ex_get sT42 gb1 (57) (.int .i8 (nt a0 57 0)) ((bv a0)) BKb1.out (av_get 0 (by have h_ : a0.length = 64 := LN_a0.out; omega)) _ rfl rfl) rfl ?_)
       | ((with_reducible refine gate_d (N := 45) rfl ?_); refine ag_fix (.pointer (some ⟨gb1, 58, none⟩)) (ex_at 44 (.pointer (some ⟨gb1, 0, none⟩)) (.int .i64 58) (.pointer (some ⟨gb1, 58, none⟩)) (fun w_ => (run_atv 42 uT44 sT42.size gb1 0 58 (by omega) (by omega) w_).trans rfl) _ _ rfl rfl rfl) rfl ?_)
       | ((with_reducible refine gate_d (N := 46) rfl ?_); refine ag_fix (.int .i8 (nt a0 58 0)) (ex_get sT42 gb1 (58) (.int .i8 (nt a0 58 0)) ((bv a0)) BKb1.out (av_get 0 (by have h_ : a0.length = 64 := LN_a0.out; omega)) _ rfl rfl) rfl ?_)
       | ((with_reducible refine gate_d (N := 50) rfl ?_); refine ag_fix (.pointer (some ⟨gb1, 59, none⟩)) (ex_at 44 (.pointer (some ⟨gb1, 0, none⟩)) (.int .i64 59) (.pointer (some ⟨gb1, 59, none⟩)) (fun w_ => (run_atv 42 uT44 sT42.size gb1 0 59 (by omega) (by omega) w_).trans rfl) _ _ rfl rfl rfl) rfl ?_)
       | ((with_reducible refine gate_d (N := 51) rfl ?_); refine ag_fix (.int .i8 (nt a0 59 0)) (ex_get sT42 gb1 (59) (.int .i8 (nt a0 59 0)) ((bv a0)) BKb1.out (av_get 0 (by have h_ : a0.length = 64 := LN_a0.out; omega)) _ rfl rfl) rfl ?_))
      (try simp only [Act.put, sI, sZ, sS])
      go_ret
      exact ⟨by first | rfl | (simp; done) | (simp [*]; done), HL.out⟩
     ·
      rw [if_neg c17] at H
      have c17b0 : ((nt a0 58 0) == 0) = false := beq_eq_false_iff_ne.mpr c17
      have c17b1 : ((nt a0 58 0) != 0) = true := bne_iff_ne.mpr c17
      have hc17 := hid c17
      clear c17
      obtain rfl := Option.some.inj H
      clear H
      go_enter Try.func111, Try.ntmps111
      go_wp2_with (first
       | ((with_reducible refine gate_d (N := 2) rfl ?_); obtain ⟨gb1, hgb1⟩ : ∃ g_, w.heap.size = g_ := ⟨_, rfl⟩; refine ag_box (bv a0) gb1 hgb1 rfl _ rfl rfl ?_; intro w19 hb_ hB_ hs_; have GEb1 : Hid (w.heap.size ≤ gb1) := hid (by have := HL.out.size; omega); replace HL := hid (HL.out.trans (hb_.mono GEb1.out)); have BKb1 := hid hB_; clear hb_ hB_ hs_ hgb1)
       | ((with_reducible refine gate_d (N := 41) rfl ?_); refine ag_fix (.pointer (some ⟨gb1, 57, none⟩)) (ex_at 44 (.pointer (some ⟨gb1, 0, none⟩)) (.int .i64 57) (.pointer (some ⟨gb1, 57, none⟩)) (fun w_ => (run_atv 42 uT44 sT42.size gb1 0 57 (by omega) (by omega) w_).trans rfl) _ _ rfl rfl rfl) rfl ?_)
       | ((with_reducible refine gate_d (N := 42) rfl ?_); refine ag_fix (.int .i8 (nt a0 57 0)) (ex_get sT42 gb1 (57) (.int .i8 (nt a0 57 0)) ((bv a0)) BKb1.out (av_get 0 (by have h_ : a0.length = 64 := LN_a0.out; omega)) _ rfl rfl) rfl ?_)
       | ((with_reducible refine gate_d (N := 45) rfl ?_); refine ag_fix (.pointer (some ⟨gb1, 58, none⟩)) (ex_at 44 (.pointer (some ⟨gb1, 0, none⟩)) (.int .i64 58) (.pointer (some ⟨gb1, 58, none⟩)) (fun w_ => (run_atv 42 uT44 sT42.size gb1 0 58 (by omega) (by omega) w_).trans rfl) _ _ rfl rfl rfl) rfl ?_)
       | ((with_reducible refine gate_d (N := 46) rfl ?_); refine ag_fix (.int .i8 (nt a0 58 0)) (ex_get sT42 gb1 (58) (.int .i8 (nt a0 58 0)) ((bv a0)) BKb1.out (av_get 0 (by have h_ : a0.length = 64 := LN_a0.out; omega)) _ rfl rfl) rfl ?_))
      (try simp only [Act.put, sI, sZ, sS])
      go_ret
      exact ⟨by first | rfl | (simp; done) | (simp [*]; done), HL.out⟩
    ·
     rw [if_neg c16] at H
     have c16b0 : ((nt a0 57 0) == 0) = false := beq_eq_false_iff_ne.mpr c16
     have c16b1 : ((nt a0 57 0) != 0) = true := bne_iff_ne.mpr c16
     have hc16 := hid c16
     clear c16
     obtain rfl := Option.some.inj H
     clear H
     go_enter Try.func111, Try.ntmps111
     go_wp2_with (first
      | ((with_reducible refine gate_d (N := 2) rfl ?_); obtain ⟨gb1, hgb1⟩ : ∃ g_, w.heap.size = g_ := ⟨_, rfl⟩; refine ag_box (bv a0) gb1 hgb1 rfl _ rfl rfl ?_; intro w20 hb_ hB_ hs_; have GEb1 : Hid (w.heap.size ≤ gb1) := hid (by have := HL.out.size; omega); replace HL := hid (HL.out.trans (hb_.mono GEb1.out)); have BKb1 := hid hB_; clear hb_ hB_ hs_ hgb1)
      | ((with_reducible refine gate_d (N := 41) rfl ?_); refine ag_fix (.pointer (some ⟨gb1, 57, none⟩)) (ex_at 44 (.pointer (some ⟨gb1, 0, none⟩)) (.int .i64 57) (.pointer (some ⟨gb1, 57, none⟩)) (fun w_ => (run_atv 42 uT44 sT42.size gb1 0 57 (by omega) (by omega) w_).trans rfl) _ _ rfl rfl rfl) rfl ?_)
      | ((with_reducible refine gate_d (N := 42) rfl ?_); refine ag_fix (.int .i8 (nt a0 57 0)) (ex_get sT42 gb1 (57) (.int .i8 (nt a0 57 0)) ((bv a0)) BKb1.out (av_get 0 (by have h_ : a0.length = 64 := LN_a0.out; omega)) _ rfl rfl) rfl ?_))
     (try simp only [Act.put, sI, sZ, sS])
     go_ret
     exact ⟨by first | rfl | (simp; done) | (simp [*]; done), HL.out⟩
def i_alfilref02_Side.f (k : Nat) (a0 : Int) : Option (Int) := (i_alfilref02_Kind.f k a0).bind fun t1 => (if t1 = 0 then (some (-1)) else (if a0 < 0 then (some 1) else (some 0)))
set_option maxHeartbeats 40000000 in
set_option maxRecDepth 100000 in
theorem i_alfilref02_Side.calls (k : Nat) (a0 : Int) (r1 : Int) (w : World) (h : i_alfilref02_Side.f k a0 = some r1) :
    Calls Try.prog 115 #[.int .i64 a0] w fun e w' => e = .returned (.int .i64 r1) ∧ w = w' := by
 have H : ((i_alfilref02_Kind.f k a0).bind fun t1 => (if t1 = 0 then (some (-1)) else (if a0 < 0 then (some 1) else (some 0)))) = some r1 := h
 clear h
 replace H := Option.bind_eq_some_iff.mp H
 obtain ⟨t1, A2_, H⟩ := H
 have A2 := hid A2_
 clear A2_
 by_cases c3 : t1 = 0
 ·
  rw [if_pos c3] at H
  have c3b0 : (t1 == 0) = true := beq_iff_eq.mpr c3
  have c3b1 : (t1 != 0) = false := bne_eq_false_iff_eq.mpr c3
  have hc3 := hid c3
  clear c3
  obtain rfl := Option.some.inj H
  clear H
  go_enter Try.func115, Try.ntmps115
  have k4 := True.intro
  go_wp2_with (first
   | (go_at_call 64; clear k4; refine (i_alfilref02_Kind.calls k a0 t1 _ A2.out).mono ?_; rintro e_ w' ⟨rfl, rfl⟩))
  (try simp only [Act.put, sI, sZ, sS])
  go_ret
  exact ⟨by first | rfl | (simp; done) | (simp [*]; done), rfl⟩
 ·
  rw [if_neg c3] at H
  have c3b0 : (t1 == 0) = false := beq_eq_false_iff_ne.mpr c3
  have c3b1 : (t1 != 0) = true := bne_iff_ne.mpr c3
  have hc3 := hid c3
  clear c3
  by_cases c5 : a0 < 0
  ·
   rw [if_pos c5] at H
   have c5b0 : decide (a0 < 0) = true := decide_eq_true c5
   have hc5 := hid c5
   clear c5
   obtain rfl := Option.some.inj H
   clear H
   go_enter Try.func115, Try.ntmps115
   have k6 := True.intro
   go_wp2_with (first
    | (go_at_call 64; clear k6; refine (i_alfilref02_Kind.calls k a0 t1 _ A2.out).mono ?_; rintro e_ w' ⟨rfl, rfl⟩))
   (try simp only [Act.put, sI, sZ, sS])
   go_ret
   exact ⟨by first | rfl | (simp; done) | (simp [*]; done), rfl⟩
  ·
   rw [if_neg c5] at H
   have c5b0 : decide (a0 < 0) = false := decide_eq_false c5
   have hc5 := hid c5
   clear c5
   obtain rfl := Option.some.inj H
   clear H
   go_enter Try.func115, Try.ntmps115
   have k7 := True.intro
   go_wp2_with (first
    | (go_at_call 64; clear k7; refine (i_alfilref02_Kind.calls k a0 t1 _ A2.out).mono ?_; rintro e_ w' ⟨rfl, rfl⟩))
   (try simp only [Act.put, sI, sZ, sS])
   go_ret
   exact ⟨by first | rfl | (simp; done) | (simp [*]; done), rfl⟩
def i_alfilref09_Formed.f (k : Nat) (a0_0 : List Int) (a0_1 : Int) (a0_2 : Int) (a0_3 : Int) (a1_0 : Int) (a1_1 : Int) (a1_2 : Int) : Option (Bool) := (i_alfilref01_Right.f a1_0).bind fun t3 => (if t3 = true then ((i_alfilref01_Right.f a1_1).bind fun t4 => (if t4 = true then (if 0 ≤ a1_0 then (if a1_0 < 64 then ((i_alfilref02_Side.f k (wrap64 (nt a0_0 a1_0.toNat 0))).bind fun t5 => (if t5 = a0_1 then (if 0 ≤ a1_1 then (if a1_1 < 64 then ((i_alfilref02_Side.f k (wrap64 (nt a0_0 a1_1.toNat 0))).bind fun t6 => (if t6 = a0_1 then (some false) else (if a0_1 = 1 then ((i_alfilref09_Pawn.f a0_0 a1_0).bind fun t7 => (if t7 = true then ((i_alfilref01_Rank.f k a1_1).bind fun t8 => (if t8 = 0 then (if a1_2 ≥ 2 then (some (decide (a1_2 ≤ 5))) else (some false)) else (some (a1_2 == 0)))) else (some (a1_2 == 0)))) else ((i_alfilref09_Pawn.f a0_0 a1_0).bind fun t9 => (if t9 = true then ((i_alfilref01_Rank.f k a1_1).bind fun t10 => (if t10 = 7 then (if a1_2 ≥ 2 then (some (decide (a1_2 ≤ 5))) else (some false)) else (some (a1_2 == 0)))) else (some (a1_2 == 0))))))) else (none)) else (none)) else (some false))) else (none)) else (none)) else (some false))) else (some false))
set_option maxHeartbeats 40000000 in
set_option maxRecDepth 100000 in
theorem i_alfilref09_Formed.calls (k : Nat) (a0_0 : List Int) (a0_1 : Int) (a0_2 : Int) (a0_3 : Int) (a1_0 : Int) (a1_1 : Int) (a1_2 : Int) (hla0_0 : a0_0.length = 64) (r1 : Bool) (w : World) (h : i_alfilref09_Formed.f k a0_0 a0_1 a0_2 a0_3 a1_0 a1_1 a1_2 = some r1) :
    Calls Try.prog 107 #[.agg (pv a0_0 a0_1 a0_2 a0_3), .agg #[.int .i64 a1_0, .int .i64 a1_1, .int .i64 a1_2]] w fun e w' => e = .returned (.bool r1) ∧ Below w.heap.size w w' := by
 have LN_a0_0 := hid hla0_0
 clear hla0_0
 have HL := hid (Below.refl w.heap.size w)
 have H : ((i_alfilref01_Right.f a1_0).bind fun t3 => (if t3 = true then ((i_alfilref01_Right.f a1_1).bind fun t4 => (if t4 = true then (if 0 ≤ a1_0 then (if a1_0 < 64 then ((i_alfilref02_Side.f k (wrap64 (nt a0_0 a1_0.toNat 0))).bind fun t5 => (if t5 = a0_1 then (if 0 ≤ a1_1 then (if a1_1 < 64 then ((i_alfilref02_Side.f k (wrap64 (nt a0_0 a1_1.toNat 0))).bind fun t6 => (if t6 = a0_1 then (some false) else (if a0_1 = 1 then ((i_alfilref09_Pawn.f a0_0 a1_0).bind fun t7 => (if t7 = true then ((i_alfilref01_Rank.f k a1_1).bind fun t8 => (if t8 = 0 then (if a1_2 ≥ 2 then (some (decide (a1_2 ≤ 5))) else (some false)) else (some (a1_2 == 0)))) else (some (a1_2 == 0)))) else ((i_alfilref09_Pawn.f a0_0 a1_0).bind fun t9 => (if t9 = true then ((i_alfilref01_Rank.f k a1_1).bind fun t10 => (if t10 = 7 then (if a1_2 ≥ 2 then (some (decide (a1_2 ≤ 5))) else (some false)) else (some (a1_2 == 0)))) else (some (a1_2 == 0))))))) else (none)) else (none)) else (some false))) else (none)) else (none)) else (some false))) else (some false))) = some r1 := h
 clear h
 replace H := Option.bind_eq_some_iff.mp H
 obtain ⟨t3, A11_, H⟩ := H
 have A11 := hid A11_
 clear A11_
 cases t3 with
 | true =>
  rw [if_pos rfl] at H
  have H' := hid H
  clear H
  go_enter Try.func107, Try.ntmps107
  have k16 := True.intro
  go_wp2_with (first
   | ((with_reducible refine gate_d (N := 2) rfl ?_); obtain ⟨gb1, hgb1⟩ : ∃ g_, w.heap.size = g_ := ⟨_, rfl⟩; refine ag_box (pv a0_0 a0_1 a0_2 a0_3) gb1 hgb1 rfl _ rfl rfl ?_; intro w14 hb_ hB_ hs_; have GEb1 : Hid (w.heap.size ≤ gb1) := hid (by have := HL.out.size; omega); replace HL := hid (HL.out.trans (hb_.mono GEb1.out)); have BKb1 := hid hB_; clear hb_ hB_ hs_ hgb1)
   | ((with_reducible refine gate_d (N := 3) rfl ?_); obtain ⟨gb2, hgb2⟩ : ∃ g_, w14.heap.size = g_ := ⟨_, rfl⟩; refine ag_box #[.int .i64 a1_0, .int .i64 a1_1, .int .i64 a1_2] gb2 hgb2 rfl _ rfl rfl ?_; intro w15 hb_ hB_ hs_; have GEb2 : Hid (w.heap.size ≤ gb2) := hid (by have := HL.out.size; omega); have NBb1_b2 : Hid (gb1 ≠ gb2) := hid (by have := BKb1.out.lt; omega); have NBb2_b1 : Hid (gb2 ≠ gb1) := hid (by have := NBb1_b2.out; omega); replace BKb1 := hid (BKb1.out.below hb_ (by rw [← hgb2]; exact BKb1.out.lt)); replace HL := hid (HL.out.trans (hb_.mono GEb2.out)); have BKb2 := hid hB_; clear hb_ hB_ hs_ hgb2)
   | ((with_reducible refine gate_d (N := 7) rfl ?_); refine ag_fix (.pointer (some ⟨gb2, 0, none⟩)) (ex_field 75 0 (.pointer (some ⟨gb2, 0, none⟩)) (.pointer (some ⟨gb2, 0, none⟩)) (fa75_0_0 gb2) _ rfl rfl) rfl ?_)
   | ((with_reducible refine gate_d (N := 8) rfl ?_); refine ag_fix (.int .i64 a1_0) (ex_get sT3 gb2 (0) (.int .i64 a1_0) (#[.int .i64 a1_0, .int .i64 a1_1, .int .i64 a1_2]) BKb2.out rfl _ rfl rfl) rfl ?_)
   | (go_at_call 94; clear k16; refine (i_alfilref01_Right.calls a1_0 true _ A11.out).mono ?_; rintro e_ w' ⟨rfl, rfl⟩)
   | ((with_reducible refine gate_d (N := 12) rfl ?_); refine ag_fix (.pointer (some ⟨gb2, 1, none⟩)) (ex_field 75 1 (.pointer (some ⟨gb2, 0, none⟩)) (.pointer (some ⟨gb2, 1, none⟩)) (fa75_1_0 gb2) _ rfl rfl) rfl ?_)
   | ((with_reducible refine gate_d (N := 13) rfl ?_); refine ag_fix (.int .i64 a1_1) (ex_get sT3 gb2 (1) (.int .i64 a1_1) (#[.int .i64 a1_0, .int .i64 a1_1, .int .i64 a1_2]) BKb2.out rfl _ rfl rfl) rfl ?_))
  (try simp only [Act.put, sI, sZ, sS])
  have H := H'.out
  clear H'
  replace H := Option.bind_eq_some_iff.mp H
  obtain ⟨t4, A13_, H⟩ := H
  have A13 := hid A13_
  clear A13_
  cases t4 with
  | true =>
   rw [if_pos rfl] at H
   by_cases c18 : 0 ≤ a1_0
   ·
    rw [if_pos c18] at H
    have c18b0 : decide (0 ≤ a1_0) = true := decide_eq_true c18
    have hc18 := hid c18
    clear c18
    by_cases c19 : a1_0 < 64
    ·
     rw [if_pos c19] at H
     have c19b0 : decide (a1_0 < 64) = true := decide_eq_true c19
     have hc19 := hid c19
     clear c19
     replace H := Option.bind_eq_some_iff.mp H
     obtain ⟨t5, A20_, H⟩ := H
     have A20 := hid A20_
     clear A20_
     by_cases c21 : t5 = a0_1
     ·
      rw [if_pos c21] at H
      have c21b0 : (t5 == a0_1) = true := beq_iff_eq.mpr c21
      have c21b1 : (t5 != a0_1) = false := bne_eq_false_iff_eq.mpr c21
      have hc21 := hid c21
      clear c21
      by_cases c22 : 0 ≤ a1_1
      ·
       rw [if_pos c22] at H
       have c22b0 : decide (0 ≤ a1_1) = true := decide_eq_true c22
       have hc22 := hid c22
       clear c22
       by_cases c23 : a1_1 < 64
       ·
        rw [if_pos c23] at H
        have c23b0 : decide (a1_1 < 64) = true := decide_eq_true c23
        have hc23 := hid c23
        clear c23
        replace H := Option.bind_eq_some_iff.mp H
        obtain ⟨t6, A24_, H⟩ := H
        have A24 := hid A24_
        clear A24_
        by_cases c25 : t6 = a0_1
        ·
         rw [if_pos c25] at H
         have c25b0 : (t6 == a0_1) = true := beq_iff_eq.mpr c25
         have c25b1 : (t6 != a0_1) = false := bne_eq_false_iff_eq.mpr c25
         have hc25 := hid c25
         clear c25
         obtain rfl := Option.some.inj H
         clear H
         have k26 := True.intro
         go_wp2_with (first
          | (go_at_call 94; clear k26; refine (i_alfilref01_Right.calls a1_1 true _ A13.out).mono ?_; rintro e_ w' ⟨rfl, rfl⟩))
         (try simp only [Act.put, sI, sZ, sS])
         have WR64 := i64_w
         have WR32 := i32_w
         refine up_regionW (by kernel_rfl) (by kernel_rfl) ?_
         refine q_do (.pointer (some ⟨gb2, 0, none⟩)) (fun w'_ hc_ => by obtain ⟨n_, hn_⟩ := hc_; exact ex_field 75 0 (.pointer (some ⟨gb2, 0, none⟩)) (.pointer (some ⟨gb2, 0, none⟩)) (fa75_0_0 gb2) _ rfl rfl) rfl rfl ?_
         intro ts_ ht_; simp only [sI, sZ, sS] at ht_; subst ht_
         refine q_do (.int .i64 a1_0) (fun w'_ hc_ => by obtain ⟨n_, hn_⟩ := hc_; exact ex_get sT3 gb2 (0) (.int .i64 a1_0) (#[.int .i64 a1_0, .int .i64 a1_1, .int .i64 a1_2]) (by rw [hn_]; exact BKb2.out.below n_.below BKb2.out.lt) rfl _ rfl rfl) rfl rfl ?_
         intro ts_ ht_; simp only [sI, sZ, sS] at ht_; subst ht_
         refine q_do (.pointer (some ⟨gb1, 0, none⟩)) (fun w'_ hc_ => by obtain ⟨n_, hn_⟩ := hc_; exact ex_field 46 0 (.pointer (some ⟨gb1, 0, none⟩)) (.pointer (some ⟨gb1, 0, none⟩)) (fa46_0_0 gb1) _ rfl rfl) rfl rfl ?_
         intro ts_ ht_; simp only [sI, sZ, sS] at ht_; subst ht_
         refine q_do (.pointer (some ⟨gb1, a1_0.toNat, none⟩)) (fun w'_ hc_ => by obtain ⟨n_, hn_⟩ := hc_; exact ex_at 44 (.pointer (some ⟨gb1, 0, none⟩)) (.int .i64 a1_0) (.pointer (some ⟨gb1, a1_0.toNat, none⟩)) (fun w_ => (run_atv 42 uT44 sT42.size gb1 0 a1_0 hc18.out hc19.out w_).trans (by simp)) _ _ rfl rfl rfl) rfl rfl ?_
         intro ts_ ht_; simp only [sI, sZ, sS] at ht_; subst ht_
         refine q_do (.int .i8 (nt a0_0 a1_0.toNat 0)) (fun w'_ hc_ => by obtain ⟨n_, hn_⟩ := hc_; exact ex_get sT42 gb1 (a1_0.toNat) (.int .i8 (nt a0_0 a1_0.toNat 0)) ((pv a0_0 a0_1 a0_2 a0_3)) (by rw [hn_]; exact BKb1.out.below n_.below BKb1.out.lt) (xv_elem 0 (by have h_ : a0_0.length = 64 := LN_a0_0.out; have h1_ := hc18.out; have h2_ := hc19.out; omega)) _ rfl rfl) rfl rfl ?_
         intro ts_ ht_; simp only [sI, sZ, sS] at ht_; subst ht_
         refine q_do (.int .i64 (wrap64 (nt a0_0 a1_0.toNat 0))) (fun w'_ hc_ => by go_simp <;> (unfold wrap64; omega)) rfl rfl ?_
         intro ts_ ht_; simp only [sI, sZ, sS] at ht_; subst ht_
         refine q_call (.int .i64 t5) 115 #[.int .i64 (wrap64 (nt a0_0 a1_0.toNat 0))] (fun w'_ => by go_simp) (fun w'_ hc_ => (i_alfilref02_Side.calls k (wrap64 (nt a0_0 a1_0.toNat 0)) t5 _ A20.out).mono fun e_ w2_ h_ => ⟨h_.1, up_same hc_ h_.2⟩) rfl rfl ?_
         intro ts_ ht_; simp only [sI, sZ, sS] at ht_; subst ht_
         refine q_do (.pointer (some ⟨gb1, 64, none⟩)) (fun w'_ hc_ => by obtain ⟨n_, hn_⟩ := hc_; exact ex_field 46 1 (.pointer (some ⟨gb1, 0, none⟩)) (.pointer (some ⟨gb1, 64, none⟩)) (fa46_1_0 gb1) _ rfl rfl) rfl rfl ?_
         intro ts_ ht_; simp only [sI, sZ, sS] at ht_; subst ht_
         refine q_do (.int .i64 a0_1) (fun w'_ hc_ => by obtain ⟨n_, hn_⟩ := hc_; exact ex_get sT3 gb1 (64) (.int .i64 a0_1) ((pv a0_0 a0_1 a0_2 a0_3)) (by rw [hn_]; exact BKb1.out.below n_.below BKb1.out.lt) ((xv_cell (n := 64) LN_a0_0.out 0 64 (by omega)).trans rfl) _ rfl rfl) rfl rfl ?_
         intro ts_ ht_; simp only [sI, sZ, sS] at ht_; subst ht_
         refine q_do (.bool false) (fun w'_ hc_ => by go_simp <;> (unfold wrap64; omega)) rfl rfl ?_
         intro ts_ ht_; simp only [sI, sZ, sS] at ht_; subst ht_
         refine q_do (.bool false) (fun w'_ hc_ => ex_mv (.tmp 26) (.inl rfl) _ rfl) rfl rfl ?_
         intro ts_ ht_; simp only [sI, sZ, sS] at ht_; subst ht_
         refine q_do (.pointer (some ⟨gb2, 1, none⟩)) (fun w'_ hc_ => by obtain ⟨n_, hn_⟩ := hc_; exact ex_field 75 1 (.pointer (some ⟨gb2, 0, none⟩)) (.pointer (some ⟨gb2, 1, none⟩)) (fa75_1_0 gb2) _ rfl rfl) rfl rfl ?_
         intro ts_ ht_; simp only [sI, sZ, sS] at ht_; subst ht_
         refine q_do (.int .i64 a1_1) (fun w'_ hc_ => by obtain ⟨n_, hn_⟩ := hc_; exact ex_get sT3 gb2 (1) (.int .i64 a1_1) (#[.int .i64 a1_0, .int .i64 a1_1, .int .i64 a1_2]) (by rw [hn_]; exact BKb2.out.below n_.below BKb2.out.lt) rfl _ rfl rfl) rfl rfl ?_
         intro ts_ ht_; simp only [sI, sZ, sS] at ht_; subst ht_
         refine q_do (.pointer (some ⟨gb1, 0, none⟩)) (fun w'_ hc_ => by obtain ⟨n_, hn_⟩ := hc_; exact ex_field 46 0 (.pointer (some ⟨gb1, 0, none⟩)) (.pointer (some ⟨gb1, 0, none⟩)) (fa46_0_0 gb1) _ rfl rfl) rfl rfl ?_
         intro ts_ ht_; simp only [sI, sZ, sS] at ht_; subst ht_
         refine q_do (.pointer (some ⟨gb1, a1_1.toNat, none⟩)) (fun w'_ hc_ => by obtain ⟨n_, hn_⟩ := hc_; exact ex_at 44 (.pointer (some ⟨gb1, 0, none⟩)) (.int .i64 a1_1) (.pointer (some ⟨gb1, a1_1.toNat, none⟩)) (fun w_ => (run_atv 42 uT44 sT42.size gb1 0 a1_1 hc22.out hc23.out w_).trans (by simp)) _ _ rfl rfl rfl) rfl rfl ?_
         intro ts_ ht_; simp only [sI, sZ, sS] at ht_; subst ht_
         refine q_do (.int .i8 (nt a0_0 a1_1.toNat 0)) (fun w'_ hc_ => by obtain ⟨n_, hn_⟩ := hc_; exact ex_get sT42 gb1 (a1_1.toNat) (.int .i8 (nt a0_0 a1_1.toNat 0)) ((pv a0_0 a0_1 a0_2 a0_3)) (by rw [hn_]; exact BKb1.out.below n_.below BKb1.out.lt) (xv_elem 0 (by have h_ : a0_0.length = 64 := LN_a0_0.out; have h1_ := hc22.out; have h2_ := hc23.out; omega)) _ rfl rfl) rfl rfl ?_
         intro ts_ ht_; simp only [sI, sZ, sS] at ht_; subst ht_
         refine q_do (.int .i64 (wrap64 (nt a0_0 a1_1.toNat 0))) (fun w'_ hc_ => by go_simp <;> (unfold wrap64; omega)) rfl rfl ?_
         intro ts_ ht_; simp only [sI, sZ, sS] at ht_; subst ht_
         refine q_call (.int .i64 t6) 115 #[.int .i64 (wrap64 (nt a0_0 a1_1.toNat 0))] (fun w'_ => by go_simp) (fun w'_ hc_ => (i_alfilref02_Side.calls k (wrap64 (nt a0_0 a1_1.toNat 0)) t6 _ A24.out).mono fun e_ w2_ h_ => ⟨h_.1, up_same hc_ h_.2⟩) rfl rfl ?_
         intro ts_ ht_; simp only [sI, sZ, sS] at ht_; subst ht_
         refine q_do (.pointer (some ⟨gb1, 64, none⟩)) (fun w'_ hc_ => by obtain ⟨n_, hn_⟩ := hc_; exact ex_field 46 1 (.pointer (some ⟨gb1, 0, none⟩)) (.pointer (some ⟨gb1, 64, none⟩)) (fa46_1_0 gb1) _ rfl rfl) rfl rfl ?_
         intro ts_ ht_; simp only [sI, sZ, sS] at ht_; subst ht_
         refine q_do (.int .i64 a0_1) (fun w'_ hc_ => by obtain ⟨n_, hn_⟩ := hc_; exact ex_get sT3 gb1 (64) (.int .i64 a0_1) ((pv a0_0 a0_1 a0_2 a0_3)) (by rw [hn_]; exact BKb1.out.below n_.below BKb1.out.lt) ((xv_cell (n := 64) LN_a0_0.out 0 64 (by omega)).trans rfl) _ rfl rfl) rfl rfl ?_
         intro ts_ ht_; simp only [sI, sZ, sS] at ht_; subst ht_
         refine q_do (.bool true) (fun w'_ hc_ => by go_simp <;> (unfold wrap64; omega)) rfl rfl ?_
         intro ts_ ht_; simp only [sI, sZ, sS] at ht_; subst ht_
         refine q_do (.bool true) (fun w'_ hc_ => by go_simp <;> (unfold wrap64; omega)) rfl rfl ?_
         intro ts_ ht_; simp only [sI, sZ, sS] at ht_; subst ht_
         refine q_end ?_
         rintro w8_ ⟨n_, rfl⟩
         replace BKb1 := hid (BKb1.out.below n_.below BKb1.out.lt)
         replace BKb2 := hid (BKb2.out.below n_.below BKb2.out.lt)
         replace HL := hid (HL.out.trans (n_.below.mono HL.out.size))
         generalize n_.world = w27 at *
         clear n_ WR64 WR32
         go_wp2_with fail
         (try simp only [Act.put, sI, sZ, sS])
         go_ret
         exact ⟨by first | rfl | (simp; done) | (simp [*]; done), HL.out⟩
        ·
         rw [if_neg c25] at H
         have c25b0 : (t6 == a0_1) = false := beq_eq_false_iff_ne.mpr c25
         have c25b1 : (t6 != a0_1) = true := bne_iff_ne.mpr c25
         have hc25 := hid c25
         clear c25
         by_cases c28 : a0_1 = 1
         ·
          rw [if_pos c28] at H
          have c28b0 : (a0_1 == 1) = true := beq_iff_eq.mpr c28
          have c28b1 : (a0_1 != 1) = false := bne_eq_false_iff_eq.mpr c28
          have hc28 := hid c28
          clear c28
          have H' := hid H
          clear H
          have k30 := True.intro
          go_wp2_with (first
           | (go_at_call 94; clear k30; refine (i_alfilref01_Right.calls a1_1 true _ A13.out).mono ?_; rintro e_ w' ⟨rfl, rfl⟩))
          (try simp only [Act.put, sI, sZ, sS])
          have WR64 := i64_w
          have WR32 := i32_w
          refine up_regionW (by kernel_rfl) (by kernel_rfl) ?_
          refine q_do (.pointer (some ⟨gb2, 0, none⟩)) (fun w'_ hc_ => by obtain ⟨n_, hn_⟩ := hc_; exact ex_field 75 0 (.pointer (some ⟨gb2, 0, none⟩)) (.pointer (some ⟨gb2, 0, none⟩)) (fa75_0_0 gb2) _ rfl rfl) rfl rfl ?_
          intro ts_ ht_; simp only [sI, sZ, sS] at ht_; subst ht_
          refine q_do (.int .i64 a1_0) (fun w'_ hc_ => by obtain ⟨n_, hn_⟩ := hc_; exact ex_get sT3 gb2 (0) (.int .i64 a1_0) (#[.int .i64 a1_0, .int .i64 a1_1, .int .i64 a1_2]) (by rw [hn_]; exact BKb2.out.below n_.below BKb2.out.lt) rfl _ rfl rfl) rfl rfl ?_
          intro ts_ ht_; simp only [sI, sZ, sS] at ht_; subst ht_
          refine q_do (.pointer (some ⟨gb1, 0, none⟩)) (fun w'_ hc_ => by obtain ⟨n_, hn_⟩ := hc_; exact ex_field 46 0 (.pointer (some ⟨gb1, 0, none⟩)) (.pointer (some ⟨gb1, 0, none⟩)) (fa46_0_0 gb1) _ rfl rfl) rfl rfl ?_
          intro ts_ ht_; simp only [sI, sZ, sS] at ht_; subst ht_
          refine q_do (.pointer (some ⟨gb1, a1_0.toNat, none⟩)) (fun w'_ hc_ => by obtain ⟨n_, hn_⟩ := hc_; exact ex_at 44 (.pointer (some ⟨gb1, 0, none⟩)) (.int .i64 a1_0) (.pointer (some ⟨gb1, a1_0.toNat, none⟩)) (fun w_ => (run_atv 42 uT44 sT42.size gb1 0 a1_0 hc18.out hc19.out w_).trans (by simp)) _ _ rfl rfl rfl) rfl rfl ?_
          intro ts_ ht_; simp only [sI, sZ, sS] at ht_; subst ht_
          refine q_do (.int .i8 (nt a0_0 a1_0.toNat 0)) (fun w'_ hc_ => by obtain ⟨n_, hn_⟩ := hc_; exact ex_get sT42 gb1 (a1_0.toNat) (.int .i8 (nt a0_0 a1_0.toNat 0)) ((pv a0_0 a0_1 a0_2 a0_3)) (by rw [hn_]; exact BKb1.out.below n_.below BKb1.out.lt) (xv_elem 0 (by have h_ : a0_0.length = 64 := LN_a0_0.out; have h1_ := hc18.out; have h2_ := hc19.out; omega)) _ rfl rfl) rfl rfl ?_
          intro ts_ ht_; simp only [sI, sZ, sS] at ht_; subst ht_
          refine q_do (.int .i64 (wrap64 (nt a0_0 a1_0.toNat 0))) (fun w'_ hc_ => by go_simp <;> (unfold wrap64; omega)) rfl rfl ?_
          intro ts_ ht_; simp only [sI, sZ, sS] at ht_; subst ht_
          refine q_call (.int .i64 t5) 115 #[.int .i64 (wrap64 (nt a0_0 a1_0.toNat 0))] (fun w'_ => by go_simp) (fun w'_ hc_ => (i_alfilref02_Side.calls k (wrap64 (nt a0_0 a1_0.toNat 0)) t5 _ A20.out).mono fun e_ w2_ h_ => ⟨h_.1, up_same hc_ h_.2⟩) rfl rfl ?_
          intro ts_ ht_; simp only [sI, sZ, sS] at ht_; subst ht_
          refine q_do (.pointer (some ⟨gb1, 64, none⟩)) (fun w'_ hc_ => by obtain ⟨n_, hn_⟩ := hc_; exact ex_field 46 1 (.pointer (some ⟨gb1, 0, none⟩)) (.pointer (some ⟨gb1, 64, none⟩)) (fa46_1_0 gb1) _ rfl rfl) rfl rfl ?_
          intro ts_ ht_; simp only [sI, sZ, sS] at ht_; subst ht_
          refine q_do (.int .i64 a0_1) (fun w'_ hc_ => by obtain ⟨n_, hn_⟩ := hc_; exact ex_get sT3 gb1 (64) (.int .i64 a0_1) ((pv a0_0 a0_1 a0_2 a0_3)) (by rw [hn_]; exact BKb1.out.below n_.below BKb1.out.lt) ((xv_cell (n := 64) LN_a0_0.out 0 64 (by omega)).trans rfl) _ rfl rfl) rfl rfl ?_
          intro ts_ ht_; simp only [sI, sZ, sS] at ht_; subst ht_
          refine q_do (.bool false) (fun w'_ hc_ => by go_simp <;> (unfold wrap64; omega)) rfl rfl ?_
          intro ts_ ht_; simp only [sI, sZ, sS] at ht_; subst ht_
          refine q_do (.bool false) (fun w'_ hc_ => ex_mv (.tmp 26) (.inl rfl) _ rfl) rfl rfl ?_
          intro ts_ ht_; simp only [sI, sZ, sS] at ht_; subst ht_
          refine q_do (.pointer (some ⟨gb2, 1, none⟩)) (fun w'_ hc_ => by obtain ⟨n_, hn_⟩ := hc_; exact ex_field 75 1 (.pointer (some ⟨gb2, 0, none⟩)) (.pointer (some ⟨gb2, 1, none⟩)) (fa75_1_0 gb2) _ rfl rfl) rfl rfl ?_
          intro ts_ ht_; simp only [sI, sZ, sS] at ht_; subst ht_
          refine q_do (.int .i64 a1_1) (fun w'_ hc_ => by obtain ⟨n_, hn_⟩ := hc_; exact ex_get sT3 gb2 (1) (.int .i64 a1_1) (#[.int .i64 a1_0, .int .i64 a1_1, .int .i64 a1_2]) (by rw [hn_]; exact BKb2.out.below n_.below BKb2.out.lt) rfl _ rfl rfl) rfl rfl ?_
          intro ts_ ht_; simp only [sI, sZ, sS] at ht_; subst ht_
          refine q_do (.pointer (some ⟨gb1, 0, none⟩)) (fun w'_ hc_ => by obtain ⟨n_, hn_⟩ := hc_; exact ex_field 46 0 (.pointer (some ⟨gb1, 0, none⟩)) (.pointer (some ⟨gb1, 0, none⟩)) (fa46_0_0 gb1) _ rfl rfl) rfl rfl ?_
          intro ts_ ht_; simp only [sI, sZ, sS] at ht_; subst ht_
          refine q_do (.pointer (some ⟨gb1, a1_1.toNat, none⟩)) (fun w'_ hc_ => by obtain ⟨n_, hn_⟩ := hc_; exact ex_at 44 (.pointer (some ⟨gb1, 0, none⟩)) (.int .i64 a1_1) (.pointer (some ⟨gb1, a1_1.toNat, none⟩)) (fun w_ => (run_atv 42 uT44 sT42.size gb1 0 a1_1 hc22.out hc23.out w_).trans (by simp)) _ _ rfl rfl rfl) rfl rfl ?_
          intro ts_ ht_; simp only [sI, sZ, sS] at ht_; subst ht_
          refine q_do (.int .i8 (nt a0_0 a1_1.toNat 0)) (fun w'_ hc_ => by obtain ⟨n_, hn_⟩ := hc_; exact ex_get sT42 gb1 (a1_1.toNat) (.int .i8 (nt a0_0 a1_1.toNat 0)) ((pv a0_0 a0_1 a0_2 a0_3)) (by rw [hn_]; exact BKb1.out.below n_.below BKb1.out.lt) (xv_elem 0 (by have h_ : a0_0.length = 64 := LN_a0_0.out; have h1_ := hc22.out; have h2_ := hc23.out; omega)) _ rfl rfl) rfl rfl ?_
          intro ts_ ht_; simp only [sI, sZ, sS] at ht_; subst ht_
          refine q_do (.int .i64 (wrap64 (nt a0_0 a1_1.toNat 0))) (fun w'_ hc_ => by go_simp <;> (unfold wrap64; omega)) rfl rfl ?_
          intro ts_ ht_; simp only [sI, sZ, sS] at ht_; subst ht_
          refine q_call (.int .i64 t6) 115 #[.int .i64 (wrap64 (nt a0_0 a1_1.toNat 0))] (fun w'_ => by go_simp) (fun w'_ hc_ => (i_alfilref02_Side.calls k (wrap64 (nt a0_0 a1_1.toNat 0)) t6 _ A24.out).mono fun e_ w2_ h_ => ⟨h_.1, up_same hc_ h_.2⟩) rfl rfl ?_
          intro ts_ ht_; simp only [sI, sZ, sS] at ht_; subst ht_
          refine q_do (.pointer (some ⟨gb1, 64, none⟩)) (fun w'_ hc_ => by obtain ⟨n_, hn_⟩ := hc_; exact ex_field 46 1 (.pointer (some ⟨gb1, 0, none⟩)) (.pointer (some ⟨gb1, 64, none⟩)) (fa46_1_0 gb1) _ rfl rfl) rfl rfl ?_
          intro ts_ ht_; simp only [sI, sZ, sS] at ht_; subst ht_
          refine q_do (.int .i64 a0_1) (fun w'_ hc_ => by obtain ⟨n_, hn_⟩ := hc_; exact ex_get sT3 gb1 (64) (.int .i64 a0_1) ((pv a0_0 a0_1 a0_2 a0_3)) (by rw [hn_]; exact BKb1.out.below n_.below BKb1.out.lt) ((xv_cell (n := 64) LN_a0_0.out 0 64 (by omega)).trans rfl) _ rfl rfl) rfl rfl ?_
          intro ts_ ht_; simp only [sI, sZ, sS] at ht_; subst ht_
          refine q_do (.bool false) (fun w'_ hc_ => by go_simp <;> (unfold wrap64; omega)) rfl rfl ?_
          intro ts_ ht_; simp only [sI, sZ, sS] at ht_; subst ht_
          refine q_do (.bool false) (fun w'_ hc_ => by go_simp <;> (unfold wrap64; omega)) rfl rfl ?_
          intro ts_ ht_; simp only [sI, sZ, sS] at ht_; subst ht_
          refine q_end ?_
          rintro w8_ ⟨n_, rfl⟩
          replace BKb1 := hid (BKb1.out.below n_.below BKb1.out.lt)
          replace BKb2 := hid (BKb2.out.below n_.below BKb2.out.lt)
          replace HL := hid (HL.out.trans (n_.below.mono HL.out.size))
          generalize n_.world = w31 at *
          clear n_ WR64 WR32
          go_wp2_with (first
           | ((with_reducible refine gate_d (N := 39) rfl ?_); refine ag_fix (.pointer (some ⟨gb1, 64, none⟩)) (ex_field 46 1 (.pointer (some ⟨gb1, 0, none⟩)) (.pointer (some ⟨gb1, 64, none⟩)) (fa46_1_0 gb1) _ rfl rfl) rfl ?_)
           | ((with_reducible refine gate_d (N := 40) rfl ?_); refine ag_fix (.int .i64 a0_1) (ex_get sT3 gb1 (64) (.int .i64 a0_1) ((pv a0_0 a0_1 a0_2 a0_3)) BKb1.out ((xv_cell (n := 64) LN_a0_0.out 0 64 (by omega)).trans rfl) _ rfl rfl) rfl ?_)
           | ((with_reducible refine gate_d (N := 42) rfl ?_); refine ag_fix (.pointer (some ⟨gb1, 0, none⟩)) (ex_field 46 0 (.pointer (some ⟨gb1, 0, none⟩)) (.pointer (some ⟨gb1, 0, none⟩)) (fa46_0_0 gb1) _ rfl rfl) rfl ?_)
           | ((with_reducible refine gate_d (N := 43) rfl ?_); refine ag_fix (.agg (bv a0_0)) (ex_load boardT gb1 0 (pv a0_0 a0_1 a0_2 a0_3) (bv a0_0) BKb1.out (xv_lea LN_a0_0.out) (xv_exa LN_a0_0.out) _ rfl rfl) rfl ?_)
           | ((with_reducible refine gate_d (N := 44) rfl ?_); refine ag_fix (.pointer (some ⟨gb2, 0, none⟩)) (ex_field 75 0 (.pointer (some ⟨gb2, 0, none⟩)) (.pointer (some ⟨gb2, 0, none⟩)) (fa75_0_0 gb2) _ rfl rfl) rfl ?_)
           | ((with_reducible refine gate_d (N := 45) rfl ?_); refine ag_fix (.int .i64 a1_0) (ex_get sT3 gb2 (0) (.int .i64 a1_0) (#[.int .i64 a1_0, .int .i64 a1_1, .int .i64 a1_2]) BKb2.out rfl _ rfl rfl) rfl ?_))
          (try simp only [Act.put, sI, sZ, sS])
          have H := H'.out
          clear H'
          replace H := Option.bind_eq_some_iff.mp H
          obtain ⟨t7, A29_, H⟩ := H
          have A29 := hid A29_
          clear A29_
          cases t7 with
          | true =>
           rw [if_pos rfl] at H
           have H' := hid H
           clear H
           have k34 := True.intro
           go_wp2_with (first
            | (go_at_call 83; clear k34; refine (i_alfilref09_Pawn.calls a0_0 a1_0 LN_a0_0.out true _ A29.out).mono ?_; rintro e_ w35 ⟨rfl, hb_⟩; replace BKb1 := hid (BKb1.out.below hb_ BKb1.out.lt); replace BKb2 := hid (BKb2.out.below hb_ BKb2.out.lt); replace HL := hid (HL.out.trans (hb_.mono HL.out.size)); clear hb_)
            | ((with_reducible refine gate_d (N := 48) rfl ?_); refine ag_fix (.pointer (some ⟨gb2, 1, none⟩)) (ex_field 75 1 (.pointer (some ⟨gb2, 0, none⟩)) (.pointer (some ⟨gb2, 1, none⟩)) (fa75_1_0 gb2) _ rfl rfl) rfl ?_)
            | ((with_reducible refine gate_d (N := 49) rfl ?_); refine ag_fix (.int .i64 a1_1) (ex_get sT3 gb2 (1) (.int .i64 a1_1) (#[.int .i64 a1_0, .int .i64 a1_1, .int .i64 a1_2]) BKb2.out rfl _ rfl rfl) rfl ?_))
           (try simp only [Act.put, sI, sZ, sS])
           have H := H'.out
           clear H'
           replace H := Option.bind_eq_some_iff.mp H
           obtain ⟨t8, A33_, H⟩ := H
           have A33 := hid A33_
           clear A33_
           by_cases c36 : t8 = 0
           ·
            rw [if_pos c36] at H
            have c36b0 : (t8 == 0) = true := beq_iff_eq.mpr c36
            have c36b1 : (t8 != 0) = false := bne_eq_false_iff_eq.mpr c36
            have hc36 := hid c36
            clear c36
            by_cases c37 : a1_2 ≥ 2
            ·
             rw [if_pos c37] at H
             have c37b0 : decide (2 ≤ a1_2) = true := decide_eq_true c37
             have hc37 := hid c37
             clear c37
             obtain rfl := Option.some.inj H
             clear H
             have k38 := True.intro
             go_wp2_with (first
              | (go_at_call 77; clear k38; refine (i_alfilref01_Rank.calls k a1_1 t8 _ A33.out).mono ?_; rintro e_ w' ⟨rfl, rfl⟩)
              | ((with_reducible refine gate_d (N := 55) rfl ?_); refine ag_fix (.pointer (some ⟨gb2, 2, none⟩)) (ex_field 75 2 (.pointer (some ⟨gb2, 0, none⟩)) (.pointer (some ⟨gb2, 2, none⟩)) (fa75_2_0 gb2) _ rfl rfl) rfl ?_)
              | ((with_reducible refine gate_d (N := 56) rfl ?_); refine ag_fix (.int .i64 a1_2) (ex_get sT3 gb2 (2) (.int .i64 a1_2) (#[.int .i64 a1_0, .int .i64 a1_1, .int .i64 a1_2]) BKb2.out rfl _ rfl rfl) rfl ?_)
              | ((with_reducible refine gate_d (N := 59) rfl ?_); refine ag_fix (.pointer (some ⟨gb2, 2, none⟩)) (ex_field 75 2 (.pointer (some ⟨gb2, 0, none⟩)) (.pointer (some ⟨gb2, 2, none⟩)) (fa75_2_0 gb2) _ rfl rfl) rfl ?_)
              | ((with_reducible refine gate_d (N := 60) rfl ?_); refine ag_fix (.int .i64 a1_2) (ex_get sT3 gb2 (2) (.int .i64 a1_2) (#[.int .i64 a1_0, .int .i64 a1_1, .int .i64 a1_2]) BKb2.out rfl _ rfl rfl) rfl ?_))
             (try simp only [Act.put, sI, sZ, sS])
             go_ret
             exact ⟨by first | rfl | (simp; done) | (simp [*]; done), HL.out⟩
            ·
             rw [if_neg c37] at H
             have c37b0 : decide (2 ≤ a1_2) = false := decide_eq_false c37
             have hc37 := hid c37
             clear c37
             obtain rfl := Option.some.inj H
             clear H
             have k39 := True.intro
             go_wp2_with (first
              | (go_at_call 77; clear k39; refine (i_alfilref01_Rank.calls k a1_1 t8 _ A33.out).mono ?_; rintro e_ w' ⟨rfl, rfl⟩)
              | ((with_reducible refine gate_d (N := 55) rfl ?_); refine ag_fix (.pointer (some ⟨gb2, 2, none⟩)) (ex_field 75 2 (.pointer (some ⟨gb2, 0, none⟩)) (.pointer (some ⟨gb2, 2, none⟩)) (fa75_2_0 gb2) _ rfl rfl) rfl ?_)
              | ((with_reducible refine gate_d (N := 56) rfl ?_); refine ag_fix (.int .i64 a1_2) (ex_get sT3 gb2 (2) (.int .i64 a1_2) (#[.int .i64 a1_0, .int .i64 a1_1, .int .i64 a1_2]) BKb2.out rfl _ rfl rfl) rfl ?_))
             (try simp only [Act.put, sI, sZ, sS])
             go_ret
             exact ⟨by first | rfl | (simp; done) | (simp [*]; done), HL.out⟩
           ·
            rw [if_neg c36] at H
            have c36b0 : (t8 == 0) = false := beq_eq_false_iff_ne.mpr c36
            have c36b1 : (t8 != 0) = true := bne_iff_ne.mpr c36
            have hc36 := hid c36
            clear c36
            obtain rfl := Option.some.inj H
            clear H
            have k40 := True.intro
            go_wp2_with (first
             | (go_at_call 77; clear k40; refine (i_alfilref01_Rank.calls k a1_1 t8 _ A33.out).mono ?_; rintro e_ w' ⟨rfl, rfl⟩)
             | ((with_reducible refine gate_d (N := 63) rfl ?_); refine ag_fix (.pointer (some ⟨gb2, 2, none⟩)) (ex_field 75 2 (.pointer (some ⟨gb2, 0, none⟩)) (.pointer (some ⟨gb2, 2, none⟩)) (fa75_2_0 gb2) _ rfl rfl) rfl ?_)
             | ((with_reducible refine gate_d (N := 64) rfl ?_); refine ag_fix (.int .i64 a1_2) (ex_get sT3 gb2 (2) (.int .i64 a1_2) (#[.int .i64 a1_0, .int .i64 a1_1, .int .i64 a1_2]) BKb2.out rfl _ rfl rfl) rfl ?_))
            (try simp only [Act.put, sI, sZ, sS])
            go_ret
            exact ⟨by first | rfl | (simp; done) | (simp [*]; done), HL.out⟩
          | false =>
           rw [if_neg (show ¬ (false = true) by decide)] at H
           obtain rfl := Option.some.inj H
           clear H
           have k41 := True.intro
           go_wp2_with (first
            | (go_at_call 83; clear k41; refine (i_alfilref09_Pawn.calls a0_0 a1_0 LN_a0_0.out false _ A29.out).mono ?_; rintro e_ w42 ⟨rfl, hb_⟩; replace BKb1 := hid (BKb1.out.below hb_ BKb1.out.lt); replace BKb2 := hid (BKb2.out.below hb_ BKb2.out.lt); replace HL := hid (HL.out.trans (hb_.mono HL.out.size)); clear hb_)
            | ((with_reducible refine gate_d (N := 63) rfl ?_); refine ag_fix (.pointer (some ⟨gb2, 2, none⟩)) (ex_field 75 2 (.pointer (some ⟨gb2, 0, none⟩)) (.pointer (some ⟨gb2, 2, none⟩)) (fa75_2_0 gb2) _ rfl rfl) rfl ?_)
            | ((with_reducible refine gate_d (N := 64) rfl ?_); refine ag_fix (.int .i64 a1_2) (ex_get sT3 gb2 (2) (.int .i64 a1_2) (#[.int .i64 a1_0, .int .i64 a1_1, .int .i64 a1_2]) BKb2.out rfl _ rfl rfl) rfl ?_))
           (try simp only [Act.put, sI, sZ, sS])
           go_ret
           exact ⟨by first | rfl | (simp; done) | (simp [*]; done), HL.out⟩
         ·
          rw [if_neg c28] at H
          have c28b0 : (a0_1 == 1) = false := beq_eq_false_iff_ne.mpr c28
          have c28b1 : (a0_1 != 1) = true := bne_iff_ne.mpr c28
          have hc28 := hid c28
          clear c28
          have H' := hid H
          clear H
          have k44 := True.intro
          go_wp2_with (first
           | (go_at_call 94; clear k44; refine (i_alfilref01_Right.calls a1_1 true _ A13.out).mono ?_; rintro e_ w' ⟨rfl, rfl⟩))
          (try simp only [Act.put, sI, sZ, sS])
          have WR64 := i64_w
          have WR32 := i32_w
          refine up_regionW (by kernel_rfl) (by kernel_rfl) ?_
          refine q_do (.pointer (some ⟨gb2, 0, none⟩)) (fun w'_ hc_ => by obtain ⟨n_, hn_⟩ := hc_; exact ex_field 75 0 (.pointer (some ⟨gb2, 0, none⟩)) (.pointer (some ⟨gb2, 0, none⟩)) (fa75_0_0 gb2) _ rfl rfl) rfl rfl ?_
          intro ts_ ht_; simp only [sI, sZ, sS] at ht_; subst ht_
          refine q_do (.int .i64 a1_0) (fun w'_ hc_ => by obtain ⟨n_, hn_⟩ := hc_; exact ex_get sT3 gb2 (0) (.int .i64 a1_0) (#[.int .i64 a1_0, .int .i64 a1_1, .int .i64 a1_2]) (by rw [hn_]; exact BKb2.out.below n_.below BKb2.out.lt) rfl _ rfl rfl) rfl rfl ?_
          intro ts_ ht_; simp only [sI, sZ, sS] at ht_; subst ht_
          refine q_do (.pointer (some ⟨gb1, 0, none⟩)) (fun w'_ hc_ => by obtain ⟨n_, hn_⟩ := hc_; exact ex_field 46 0 (.pointer (some ⟨gb1, 0, none⟩)) (.pointer (some ⟨gb1, 0, none⟩)) (fa46_0_0 gb1) _ rfl rfl) rfl rfl ?_
          intro ts_ ht_; simp only [sI, sZ, sS] at ht_; subst ht_
          refine q_do (.pointer (some ⟨gb1, a1_0.toNat, none⟩)) (fun w'_ hc_ => by obtain ⟨n_, hn_⟩ := hc_; exact ex_at 44 (.pointer (some ⟨gb1, 0, none⟩)) (.int .i64 a1_0) (.pointer (some ⟨gb1, a1_0.toNat, none⟩)) (fun w_ => (run_atv 42 uT44 sT42.size gb1 0 a1_0 hc18.out hc19.out w_).trans (by simp)) _ _ rfl rfl rfl) rfl rfl ?_
          intro ts_ ht_; simp only [sI, sZ, sS] at ht_; subst ht_
          refine q_do (.int .i8 (nt a0_0 a1_0.toNat 0)) (fun w'_ hc_ => by obtain ⟨n_, hn_⟩ := hc_; exact ex_get sT42 gb1 (a1_0.toNat) (.int .i8 (nt a0_0 a1_0.toNat 0)) ((pv a0_0 a0_1 a0_2 a0_3)) (by rw [hn_]; exact BKb1.out.below n_.below BKb1.out.lt) (xv_elem 0 (by have h_ : a0_0.length = 64 := LN_a0_0.out; have h1_ := hc18.out; have h2_ := hc19.out; omega)) _ rfl rfl) rfl rfl ?_
          intro ts_ ht_; simp only [sI, sZ, sS] at ht_; subst ht_
          refine q_do (.int .i64 (wrap64 (nt a0_0 a1_0.toNat 0))) (fun w'_ hc_ => by go_simp <;> (unfold wrap64; omega)) rfl rfl ?_
          intro ts_ ht_; simp only [sI, sZ, sS] at ht_; subst ht_
          refine q_call (.int .i64 t5) 115 #[.int .i64 (wrap64 (nt a0_0 a1_0.toNat 0))] (fun w'_ => by go_simp) (fun w'_ hc_ => (i_alfilref02_Side.calls k (wrap64 (nt a0_0 a1_0.toNat 0)) t5 _ A20.out).mono fun e_ w2_ h_ => ⟨h_.1, up_same hc_ h_.2⟩) rfl rfl ?_
          intro ts_ ht_; simp only [sI, sZ, sS] at ht_; subst ht_
          refine q_do (.pointer (some ⟨gb1, 64, none⟩)) (fun w'_ hc_ => by obtain ⟨n_, hn_⟩ := hc_; exact ex_field 46 1 (.pointer (some ⟨gb1, 0, none⟩)) (.pointer (some ⟨gb1, 64, none⟩)) (fa46_1_0 gb1) _ rfl rfl) rfl rfl ?_
          intro ts_ ht_; simp only [sI, sZ, sS] at ht_; subst ht_
          refine q_do (.int .i64 a0_1) (fun w'_ hc_ => by obtain ⟨n_, hn_⟩ := hc_; exact ex_get sT3 gb1 (64) (.int .i64 a0_1) ((pv a0_0 a0_1 a0_2 a0_3)) (by rw [hn_]; exact BKb1.out.below n_.below BKb1.out.lt) ((xv_cell (n := 64) LN_a0_0.out 0 64 (by omega)).trans rfl) _ rfl rfl) rfl rfl ?_
          intro ts_ ht_; simp only [sI, sZ, sS] at ht_; subst ht_
          refine q_do (.bool false) (fun w'_ hc_ => by go_simp <;> (unfold wrap64; omega)) rfl rfl ?_
          intro ts_ ht_; simp only [sI, sZ, sS] at ht_; subst ht_
          refine q_do (.bool false) (fun w'_ hc_ => ex_mv (.tmp 26) (.inl rfl) _ rfl) rfl rfl ?_
          intro ts_ ht_; simp only [sI, sZ, sS] at ht_; subst ht_
          refine q_do (.pointer (some ⟨gb2, 1, none⟩)) (fun w'_ hc_ => by obtain ⟨n_, hn_⟩ := hc_; exact ex_field 75 1 (.pointer (some ⟨gb2, 0, none⟩)) (.pointer (some ⟨gb2, 1, none⟩)) (fa75_1_0 gb2) _ rfl rfl) rfl rfl ?_
          intro ts_ ht_; simp only [sI, sZ, sS] at ht_; subst ht_
          refine q_do (.int .i64 a1_1) (fun w'_ hc_ => by obtain ⟨n_, hn_⟩ := hc_; exact ex_get sT3 gb2 (1) (.int .i64 a1_1) (#[.int .i64 a1_0, .int .i64 a1_1, .int .i64 a1_2]) (by rw [hn_]; exact BKb2.out.below n_.below BKb2.out.lt) rfl _ rfl rfl) rfl rfl ?_
          intro ts_ ht_; simp only [sI, sZ, sS] at ht_; subst ht_
          refine q_do (.pointer (some ⟨gb1, 0, none⟩)) (fun w'_ hc_ => by obtain ⟨n_, hn_⟩ := hc_; exact ex_field 46 0 (.pointer (some ⟨gb1, 0, none⟩)) (.pointer (some ⟨gb1, 0, none⟩)) (fa46_0_0 gb1) _ rfl rfl) rfl rfl ?_
          intro ts_ ht_; simp only [sI, sZ, sS] at ht_; subst ht_
          refine q_do (.pointer (some ⟨gb1, a1_1.toNat, none⟩)) (fun w'_ hc_ => by obtain ⟨n_, hn_⟩ := hc_; exact ex_at 44 (.pointer (some ⟨gb1, 0, none⟩)) (.int .i64 a1_1) (.pointer (some ⟨gb1, a1_1.toNat, none⟩)) (fun w_ => (run_atv 42 uT44 sT42.size gb1 0 a1_1 hc22.out hc23.out w_).trans (by simp)) _ _ rfl rfl rfl) rfl rfl ?_
          intro ts_ ht_; simp only [sI, sZ, sS] at ht_; subst ht_
          refine q_do (.int .i8 (nt a0_0 a1_1.toNat 0)) (fun w'_ hc_ => by obtain ⟨n_, hn_⟩ := hc_; exact ex_get sT42 gb1 (a1_1.toNat) (.int .i8 (nt a0_0 a1_1.toNat 0)) ((pv a0_0 a0_1 a0_2 a0_3)) (by rw [hn_]; exact BKb1.out.below n_.below BKb1.out.lt) (xv_elem 0 (by have h_ : a0_0.length = 64 := LN_a0_0.out; have h1_ := hc22.out; have h2_ := hc23.out; omega)) _ rfl rfl) rfl rfl ?_
          intro ts_ ht_; simp only [sI, sZ, sS] at ht_; subst ht_
          refine q_do (.int .i64 (wrap64 (nt a0_0 a1_1.toNat 0))) (fun w'_ hc_ => by go_simp <;> (unfold wrap64; omega)) rfl rfl ?_
          intro ts_ ht_; simp only [sI, sZ, sS] at ht_; subst ht_
          refine q_call (.int .i64 t6) 115 #[.int .i64 (wrap64 (nt a0_0 a1_1.toNat 0))] (fun w'_ => by go_simp) (fun w'_ hc_ => (i_alfilref02_Side.calls k (wrap64 (nt a0_0 a1_1.toNat 0)) t6 _ A24.out).mono fun e_ w2_ h_ => ⟨h_.1, up_same hc_ h_.2⟩) rfl rfl ?_
          intro ts_ ht_; simp only [sI, sZ, sS] at ht_; subst ht_
          refine q_do (.pointer (some ⟨gb1, 64, none⟩)) (fun w'_ hc_ => by obtain ⟨n_, hn_⟩ := hc_; exact ex_field 46 1 (.pointer (some ⟨gb1, 0, none⟩)) (.pointer (some ⟨gb1, 64, none⟩)) (fa46_1_0 gb1) _ rfl rfl) rfl rfl ?_
          intro ts_ ht_; simp only [sI, sZ, sS] at ht_; subst ht_
          refine q_do (.int .i64 a0_1) (fun w'_ hc_ => by obtain ⟨n_, hn_⟩ := hc_; exact ex_get sT3 gb1 (64) (.int .i64 a0_1) ((pv a0_0 a0_1 a0_2 a0_3)) (by rw [hn_]; exact BKb1.out.below n_.below BKb1.out.lt) ((xv_cell (n := 64) LN_a0_0.out 0 64 (by omega)).trans rfl) _ rfl rfl) rfl rfl ?_
          intro ts_ ht_; simp only [sI, sZ, sS] at ht_; subst ht_
          refine q_do (.bool false) (fun w'_ hc_ => by go_simp <;> (unfold wrap64; omega)) rfl rfl ?_
          intro ts_ ht_; simp only [sI, sZ, sS] at ht_; subst ht_
          refine q_do (.bool false) (fun w'_ hc_ => by go_simp <;> (unfold wrap64; omega)) rfl rfl ?_
          intro ts_ ht_; simp only [sI, sZ, sS] at ht_; subst ht_
          refine q_end ?_
          rintro w8_ ⟨n_, rfl⟩
          replace BKb1 := hid (BKb1.out.below n_.below BKb1.out.lt)
          replace BKb2 := hid (BKb2.out.below n_.below BKb2.out.lt)
          replace HL := hid (HL.out.trans (n_.below.mono HL.out.size))
          generalize n_.world = w45 at *
          clear n_ WR64 WR32
          go_wp2_with (first
           | ((with_reducible refine gate_d (N := 39) rfl ?_); refine ag_fix (.pointer (some ⟨gb1, 64, none⟩)) (ex_field 46 1 (.pointer (some ⟨gb1, 0, none⟩)) (.pointer (some ⟨gb1, 64, none⟩)) (fa46_1_0 gb1) _ rfl rfl) rfl ?_)
           | ((with_reducible refine gate_d (N := 40) rfl ?_); refine ag_fix (.int .i64 a0_1) (ex_get sT3 gb1 (64) (.int .i64 a0_1) ((pv a0_0 a0_1 a0_2 a0_3)) BKb1.out ((xv_cell (n := 64) LN_a0_0.out 0 64 (by omega)).trans rfl) _ rfl rfl) rfl ?_)
           | ((with_reducible refine gate_d (N := 42) rfl ?_); refine ag_fix (.pointer (some ⟨gb1, 0, none⟩)) (ex_field 46 0 (.pointer (some ⟨gb1, 0, none⟩)) (.pointer (some ⟨gb1, 0, none⟩)) (fa46_0_0 gb1) _ rfl rfl) rfl ?_)
           | ((with_reducible refine gate_d (N := 43) rfl ?_); refine ag_fix (.agg (bv a0_0)) (ex_load boardT gb1 0 (pv a0_0 a0_1 a0_2 a0_3) (bv a0_0) BKb1.out (xv_lea LN_a0_0.out) (xv_exa LN_a0_0.out) _ rfl rfl) rfl ?_)
           | ((with_reducible refine gate_d (N := 44) rfl ?_); refine ag_fix (.pointer (some ⟨gb2, 0, none⟩)) (ex_field 75 0 (.pointer (some ⟨gb2, 0, none⟩)) (.pointer (some ⟨gb2, 0, none⟩)) (fa75_0_0 gb2) _ rfl rfl) rfl ?_)
           | ((with_reducible refine gate_d (N := 45) rfl ?_); refine ag_fix (.int .i64 a1_0) (ex_get sT3 gb2 (0) (.int .i64 a1_0) (#[.int .i64 a1_0, .int .i64 a1_1, .int .i64 a1_2]) BKb2.out rfl _ rfl rfl) rfl ?_))
          (try simp only [Act.put, sI, sZ, sS])
          have H := H'.out
          clear H'
          replace H := Option.bind_eq_some_iff.mp H
          obtain ⟨t9, A43_, H⟩ := H
          have A43 := hid A43_
          clear A43_
          cases t9 with
          | true =>
           rw [if_pos rfl] at H
           have H' := hid H
           clear H
           have k48 := True.intro
           go_wp2_with (first
            | (go_at_call 83; clear k48; refine (i_alfilref09_Pawn.calls a0_0 a1_0 LN_a0_0.out true _ A43.out).mono ?_; rintro e_ w49 ⟨rfl, hb_⟩; replace BKb1 := hid (BKb1.out.below hb_ BKb1.out.lt); replace BKb2 := hid (BKb2.out.below hb_ BKb2.out.lt); replace HL := hid (HL.out.trans (hb_.mono HL.out.size)); clear hb_)
            | ((with_reducible refine gate_d (N := 48) rfl ?_); refine ag_fix (.pointer (some ⟨gb2, 1, none⟩)) (ex_field 75 1 (.pointer (some ⟨gb2, 0, none⟩)) (.pointer (some ⟨gb2, 1, none⟩)) (fa75_1_0 gb2) _ rfl rfl) rfl ?_)
            | ((with_reducible refine gate_d (N := 49) rfl ?_); refine ag_fix (.int .i64 a1_1) (ex_get sT3 gb2 (1) (.int .i64 a1_1) (#[.int .i64 a1_0, .int .i64 a1_1, .int .i64 a1_2]) BKb2.out rfl _ rfl rfl) rfl ?_))
           (try simp only [Act.put, sI, sZ, sS])
           have H := H'.out
           clear H'
           replace H := Option.bind_eq_some_iff.mp H
           obtain ⟨t10, A47_, H⟩ := H
           have A47 := hid A47_
           clear A47_
           by_cases c50 : t10 = 7
           ·
            rw [if_pos c50] at H
            have c50b0 : (t10 == 7) = true := beq_iff_eq.mpr c50
            have c50b1 : (t10 != 7) = false := bne_eq_false_iff_eq.mpr c50
            have hc50 := hid c50
            clear c50
            by_cases c51 : a1_2 ≥ 2
            ·
             rw [if_pos c51] at H
             have c51b0 : decide (2 ≤ a1_2) = true := decide_eq_true c51
             have hc51 := hid c51
             clear c51
             obtain rfl := Option.some.inj H
             clear H
             have k52 := True.intro
             go_wp2_with (first
              | (go_at_call 77; clear k52; refine (i_alfilref01_Rank.calls k a1_1 t10 _ A47.out).mono ?_; rintro e_ w' ⟨rfl, rfl⟩)
              | ((with_reducible refine gate_d (N := 55) rfl ?_); refine ag_fix (.pointer (some ⟨gb2, 2, none⟩)) (ex_field 75 2 (.pointer (some ⟨gb2, 0, none⟩)) (.pointer (some ⟨gb2, 2, none⟩)) (fa75_2_0 gb2) _ rfl rfl) rfl ?_)
              | ((with_reducible refine gate_d (N := 56) rfl ?_); refine ag_fix (.int .i64 a1_2) (ex_get sT3 gb2 (2) (.int .i64 a1_2) (#[.int .i64 a1_0, .int .i64 a1_1, .int .i64 a1_2]) BKb2.out rfl _ rfl rfl) rfl ?_)
              | ((with_reducible refine gate_d (N := 59) rfl ?_); refine ag_fix (.pointer (some ⟨gb2, 2, none⟩)) (ex_field 75 2 (.pointer (some ⟨gb2, 0, none⟩)) (.pointer (some ⟨gb2, 2, none⟩)) (fa75_2_0 gb2) _ rfl rfl) rfl ?_)
              | ((with_reducible refine gate_d (N := 60) rfl ?_); refine ag_fix (.int .i64 a1_2) (ex_get sT3 gb2 (2) (.int .i64 a1_2) (#[.int .i64 a1_0, .int .i64 a1_1, .int .i64 a1_2]) BKb2.out rfl _ rfl rfl) rfl ?_))
             (try simp only [Act.put, sI, sZ, sS])
             go_ret
             exact ⟨by first | rfl | (simp; done) | (simp [*]; done), HL.out⟩
            ·
             rw [if_neg c51] at H
             have c51b0 : decide (2 ≤ a1_2) = false := decide_eq_false c51
             have hc51 := hid c51
             clear c51
             obtain rfl := Option.some.inj H
             clear H
             have k53 := True.intro
             go_wp2_with (first
              | (go_at_call 77; clear k53; refine (i_alfilref01_Rank.calls k a1_1 t10 _ A47.out).mono ?_; rintro e_ w' ⟨rfl, rfl⟩)
              | ((with_reducible refine gate_d (N := 55) rfl ?_); refine ag_fix (.pointer (some ⟨gb2, 2, none⟩)) (ex_field 75 2 (.pointer (some ⟨gb2, 0, none⟩)) (.pointer (some ⟨gb2, 2, none⟩)) (fa75_2_0 gb2) _ rfl rfl) rfl ?_)
              | ((with_reducible refine gate_d (N := 56) rfl ?_); refine ag_fix (.int .i64 a1_2) (ex_get sT3 gb2 (2) (.int .i64 a1_2) (#[.int .i64 a1_0, .int .i64 a1_1, .int .i64 a1_2]) BKb2.out rfl _ rfl rfl) rfl ?_))
             (try simp only [Act.put, sI, sZ, sS])
             go_ret
             exact ⟨by first | rfl | (simp; done) | (simp [*]; done), HL.out⟩
           ·
            rw [if_neg c50] at H
            have c50b0 : (t10 == 7) = false := beq_eq_false_iff_ne.mpr c50
            have c50b1 : (t10 != 7) = true := bne_iff_ne.mpr c50
            have hc50 := hid c50
            clear c50
            obtain rfl := Option.some.inj H
            clear H
            have k54 := True.intro
            go_wp2_with (first
             | (go_at_call 77; clear k54; refine (i_alfilref01_Rank.calls k a1_1 t10 _ A47.out).mono ?_; rintro e_ w' ⟨rfl, rfl⟩)
             | ((with_reducible refine gate_d (N := 63) rfl ?_); refine ag_fix (.pointer (some ⟨gb2, 2, none⟩)) (ex_field 75 2 (.pointer (some ⟨gb2, 0, none⟩)) (.pointer (some ⟨gb2, 2, none⟩)) (fa75_2_0 gb2) _ rfl rfl) rfl ?_)
             | ((with_reducible refine gate_d (N := 64) rfl ?_); refine ag_fix (.int .i64 a1_2) (ex_get sT3 gb2 (2) (.int .i64 a1_2) (#[.int .i64 a1_0, .int .i64 a1_1, .int .i64 a1_2]) BKb2.out rfl _ rfl rfl) rfl ?_))
            (try simp only [Act.put, sI, sZ, sS])
            go_ret
            exact ⟨by first | rfl | (simp; done) | (simp [*]; done), HL.out⟩
          | false =>
           rw [if_neg (show ¬ (false = true) by decide)] at H
           obtain rfl := Option.some.inj H
           clear H
           have k55 := True.intro
           go_wp2_with (first
            | (go_at_call 83; clear k55; refine (i_alfilref09_Pawn.calls a0_0 a1_0 LN_a0_0.out false _ A43.out).mono ?_; rintro e_ w56 ⟨rfl, hb_⟩; replace BKb1 := hid (BKb1.out.below hb_ BKb1.out.lt); replace BKb2 := hid (BKb2.out.below hb_ BKb2.out.lt); replace HL := hid (HL.out.trans (hb_.mono HL.out.size)); clear hb_)
            | ((with_reducible refine gate_d (N := 63) rfl ?_); refine ag_fix (.pointer (some ⟨gb2, 2, none⟩)) (ex_field 75 2 (.pointer (some ⟨gb2, 0, none⟩)) (.pointer (some ⟨gb2, 2, none⟩)) (fa75_2_0 gb2) _ rfl rfl) rfl ?_)
            | ((with_reducible refine gate_d (N := 64) rfl ?_); refine ag_fix (.int .i64 a1_2) (ex_get sT3 gb2 (2) (.int .i64 a1_2) (#[.int .i64 a1_0, .int .i64 a1_1, .int .i64 a1_2]) BKb2.out rfl _ rfl rfl) rfl ?_))
           (try simp only [Act.put, sI, sZ, sS])
           go_ret
           exact ⟨by first | rfl | (simp; done) | (simp [*]; done), HL.out⟩
       ·
        rw [if_neg c23] at H
        exact absurd H (by simp)
      ·
       rw [if_neg c22] at H
       exact absurd H (by simp)
     ·
      rw [if_neg c21] at H
      have c21b0 : (t5 == a0_1) = false := beq_eq_false_iff_ne.mpr c21
      have c21b1 : (t5 != a0_1) = true := bne_iff_ne.mpr c21
      have hc21 := hid c21
      clear c21
      obtain rfl := Option.some.inj H
      clear H
      have k57 := True.intro
      go_wp2_with (first
       | (go_at_call 94; clear k57; refine (i_alfilref01_Right.calls a1_1 true _ A13.out).mono ?_; rintro e_ w' ⟨rfl, rfl⟩))
      (try simp only [Act.put, sI, sZ, sS])
      have WR64 := i64_w
      have WR32 := i32_w
      refine up_regionW (by kernel_rfl) (by kernel_rfl) ?_
      refine q_do (.pointer (some ⟨gb2, 0, none⟩)) (fun w'_ hc_ => by obtain ⟨n_, hn_⟩ := hc_; exact ex_field 75 0 (.pointer (some ⟨gb2, 0, none⟩)) (.pointer (some ⟨gb2, 0, none⟩)) (fa75_0_0 gb2) _ rfl rfl) rfl rfl ?_
      intro ts_ ht_; simp only [sI, sZ, sS] at ht_; subst ht_
      refine q_do (.int .i64 a1_0) (fun w'_ hc_ => by obtain ⟨n_, hn_⟩ := hc_; exact ex_get sT3 gb2 (0) (.int .i64 a1_0) (#[.int .i64 a1_0, .int .i64 a1_1, .int .i64 a1_2]) (by rw [hn_]; exact BKb2.out.below n_.below BKb2.out.lt) rfl _ rfl rfl) rfl rfl ?_
      intro ts_ ht_; simp only [sI, sZ, sS] at ht_; subst ht_
      refine q_do (.pointer (some ⟨gb1, 0, none⟩)) (fun w'_ hc_ => by obtain ⟨n_, hn_⟩ := hc_; exact ex_field 46 0 (.pointer (some ⟨gb1, 0, none⟩)) (.pointer (some ⟨gb1, 0, none⟩)) (fa46_0_0 gb1) _ rfl rfl) rfl rfl ?_
      intro ts_ ht_; simp only [sI, sZ, sS] at ht_; subst ht_
      refine q_do (.pointer (some ⟨gb1, a1_0.toNat, none⟩)) (fun w'_ hc_ => by obtain ⟨n_, hn_⟩ := hc_; exact ex_at 44 (.pointer (some ⟨gb1, 0, none⟩)) (.int .i64 a1_0) (.pointer (some ⟨gb1, a1_0.toNat, none⟩)) (fun w_ => (run_atv 42 uT44 sT42.size gb1 0 a1_0 hc18.out hc19.out w_).trans (by simp)) _ _ rfl rfl rfl) rfl rfl ?_
      intro ts_ ht_; simp only [sI, sZ, sS] at ht_; subst ht_
      refine q_do (.int .i8 (nt a0_0 a1_0.toNat 0)) (fun w'_ hc_ => by obtain ⟨n_, hn_⟩ := hc_; exact ex_get sT42 gb1 (a1_0.toNat) (.int .i8 (nt a0_0 a1_0.toNat 0)) ((pv a0_0 a0_1 a0_2 a0_3)) (by rw [hn_]; exact BKb1.out.below n_.below BKb1.out.lt) (xv_elem 0 (by have h_ : a0_0.length = 64 := LN_a0_0.out; have h1_ := hc18.out; have h2_ := hc19.out; omega)) _ rfl rfl) rfl rfl ?_
      intro ts_ ht_; simp only [sI, sZ, sS] at ht_; subst ht_
      refine q_do (.int .i64 (wrap64 (nt a0_0 a1_0.toNat 0))) (fun w'_ hc_ => by go_simp <;> (unfold wrap64; omega)) rfl rfl ?_
      intro ts_ ht_; simp only [sI, sZ, sS] at ht_; subst ht_
      refine q_call (.int .i64 t5) 115 #[.int .i64 (wrap64 (nt a0_0 a1_0.toNat 0))] (fun w'_ => by go_simp) (fun w'_ hc_ => (i_alfilref02_Side.calls k (wrap64 (nt a0_0 a1_0.toNat 0)) t5 _ A20.out).mono fun e_ w2_ h_ => ⟨h_.1, up_same hc_ h_.2⟩) rfl rfl ?_
      intro ts_ ht_; simp only [sI, sZ, sS] at ht_; subst ht_
      refine q_do (.pointer (some ⟨gb1, 64, none⟩)) (fun w'_ hc_ => by obtain ⟨n_, hn_⟩ := hc_; exact ex_field 46 1 (.pointer (some ⟨gb1, 0, none⟩)) (.pointer (some ⟨gb1, 64, none⟩)) (fa46_1_0 gb1) _ rfl rfl) rfl rfl ?_
      intro ts_ ht_; simp only [sI, sZ, sS] at ht_; subst ht_
      refine q_do (.int .i64 a0_1) (fun w'_ hc_ => by obtain ⟨n_, hn_⟩ := hc_; exact ex_get sT3 gb1 (64) (.int .i64 a0_1) ((pv a0_0 a0_1 a0_2 a0_3)) (by rw [hn_]; exact BKb1.out.below n_.below BKb1.out.lt) ((xv_cell (n := 64) LN_a0_0.out 0 64 (by omega)).trans rfl) _ rfl rfl) rfl rfl ?_
      intro ts_ ht_; simp only [sI, sZ, sS] at ht_; subst ht_
      refine q_do (.bool true) (fun w'_ hc_ => by go_simp <;> (unfold wrap64; omega)) rfl rfl ?_
      intro ts_ ht_; simp only [sI, sZ, sS] at ht_; subst ht_
      refine q_do (.bool true) (fun w'_ hc_ => ex_mv (.tmp 26) (.inl rfl) _ rfl) rfl rfl ?_
      intro ts_ ht_; simp only [sI, sZ, sS] at ht_; subst ht_
      refine q_not 10 true rfl rfl rfl ?_
      intro ts_ ht_; simp only [sI, sZ, sS] at ht_; subst ht_
      refine q_not 10 true rfl rfl rfl ?_
      intro ts_ ht_; simp only [sI, sZ, sS] at ht_; subst ht_
      refine q_not 10 true rfl rfl rfl ?_
      intro ts_ ht_; simp only [sI, sZ, sS] at ht_; subst ht_
      refine q_not 10 true rfl rfl rfl ?_
      intro ts_ ht_; simp only [sI, sZ, sS] at ht_; subst ht_
      refine q_not 10 true rfl rfl rfl ?_
      intro ts_ ht_; simp only [sI, sZ, sS] at ht_; subst ht_
      refine q_not 10 true rfl rfl rfl ?_
      intro ts_ ht_; simp only [sI, sZ, sS] at ht_; subst ht_
      refine q_not 10 true rfl rfl rfl ?_
      intro ts_ ht_; simp only [sI, sZ, sS] at ht_; subst ht_
      refine q_not 10 true rfl rfl rfl ?_
      intro ts_ ht_; simp only [sI, sZ, sS] at ht_; subst ht_
      refine q_not 10 true rfl rfl rfl ?_
      intro ts_ ht_; simp only [sI, sZ, sS] at ht_; subst ht_
      refine q_not 10 true rfl rfl rfl ?_
      intro ts_ ht_; simp only [sI, sZ, sS] at ht_; subst ht_
      refine q_do (.bool true) (fun w'_ hc_ => by go_simp <;> (unfold wrap64; omega)) rfl rfl ?_
      intro ts_ ht_; simp only [sI, sZ, sS] at ht_; subst ht_
      refine q_end ?_
      rintro w8_ ⟨n_, rfl⟩
      replace BKb1 := hid (BKb1.out.below n_.below BKb1.out.lt)
      replace BKb2 := hid (BKb2.out.below n_.below BKb2.out.lt)
      replace HL := hid (HL.out.trans (n_.below.mono HL.out.size))
      generalize n_.world = w58 at *
      clear n_ WR64 WR32
      go_wp2_with fail
      (try simp only [Act.put, sI, sZ, sS])
      go_ret
      exact ⟨by first | rfl | (simp; done) | (simp [*]; done), HL.out⟩
    ·
     rw [if_neg c19] at H
     exact absurd H (by simp)
   ·
    rw [if_neg c18] at H
    exact absurd H (by simp)
  | false =>
   rw [if_neg (show ¬ (false = true) by decide)] at H
   obtain rfl := Option.some.inj H
   clear H
   have k59 := True.intro
   go_wp2_with (first
    | (go_at_call 94; clear k59; refine (i_alfilref01_Right.calls a1_1 false _ A13.out).mono ?_; rintro e_ w' ⟨rfl, rfl⟩))
   (try simp only [Act.put, sI, sZ, sS])
   go_ret
   exact ⟨by first | rfl | (simp; done) | (simp [*]; done), HL.out⟩
 | false =>
  rw [if_neg (show ¬ (false = true) by decide)] at H
  obtain rfl := Option.some.inj H
  clear H
  go_enter Try.func107, Try.ntmps107
  have k62 := True.intro
  go_wp2_with (first
   | ((with_reducible refine gate_d (N := 2) rfl ?_); obtain ⟨gb1, hgb1⟩ : ∃ g_, w.heap.size = g_ := ⟨_, rfl⟩; refine ag_box (pv a0_0 a0_1 a0_2 a0_3) gb1 hgb1 rfl _ rfl rfl ?_; intro w60 hb_ hB_ hs_; have GEb1 : Hid (w.heap.size ≤ gb1) := hid (by have := HL.out.size; omega); replace HL := hid (HL.out.trans (hb_.mono GEb1.out)); have BKb1 := hid hB_; clear hb_ hB_ hs_ hgb1)
   | ((with_reducible refine gate_d (N := 3) rfl ?_); obtain ⟨gb2, hgb2⟩ : ∃ g_, w60.heap.size = g_ := ⟨_, rfl⟩; refine ag_box #[.int .i64 a1_0, .int .i64 a1_1, .int .i64 a1_2] gb2 hgb2 rfl _ rfl rfl ?_; intro w61 hb_ hB_ hs_; have GEb2 : Hid (w.heap.size ≤ gb2) := hid (by have := HL.out.size; omega); have NBb1_b2 : Hid (gb1 ≠ gb2) := hid (by have := BKb1.out.lt; omega); have NBb2_b1 : Hid (gb2 ≠ gb1) := hid (by have := NBb1_b2.out; omega); replace BKb1 := hid (BKb1.out.below hb_ (by rw [← hgb2]; exact BKb1.out.lt)); replace HL := hid (HL.out.trans (hb_.mono GEb2.out)); have BKb2 := hid hB_; clear hb_ hB_ hs_ hgb2)
   | ((with_reducible refine gate_d (N := 7) rfl ?_); refine ag_fix (.pointer (some ⟨gb2, 0, none⟩)) (ex_field 75 0 (.pointer (some ⟨gb2, 0, none⟩)) (.pointer (some ⟨gb2, 0, none⟩)) (fa75_0_0 gb2) _ rfl rfl) rfl ?_)
   | ((with_reducible refine gate_d (N := 8) rfl ?_); refine ag_fix (.int .i64 a1_0) (ex_get sT3 gb2 (0) (.int .i64 a1_0) (#[.int .i64 a1_0, .int .i64 a1_1, .int .i64 a1_2]) BKb2.out rfl _ rfl rfl) rfl ?_)
   | (go_at_call 94; clear k62; refine (i_alfilref01_Right.calls a1_0 false _ A11.out).mono ?_; rintro e_ w' ⟨rfl, rfl⟩))
  (try simp only [Act.put, sI, sZ, sS])
  go_ret
  exact ⟨by first | rfl | (simp; done) | (simp [*]; done), HL.out⟩
def i_alfilref09_lost.f (a0 : Int) : Option (Int) := if a0 = 0 then (some 2) else (if a0 = 4 then (some 3) else (if a0 = 7 then (some 1) else (if a0 = 56 then (some 8) else (if a0 = 60 then (some 12) else (if a0 = 63 then (some 4) else (some 0))))))
set_option maxHeartbeats 40000000 in
set_option maxRecDepth 100000 in
theorem i_alfilref09_lost.calls (a0 : Int) (r1 : Int) (w : World) (h : i_alfilref09_lost.f a0 = some r1) :
    Calls Try.prog 87 #[.int .i64 a0] w fun e w' => e = .returned (.int .i64 r1) ∧ w = w' := by
 have H : (if a0 = 0 then (some 2) else (if a0 = 4 then (some 3) else (if a0 = 7 then (some 1) else (if a0 = 56 then (some 8) else (if a0 = 60 then (some 12) else (if a0 = 63 then (some 4) else (some 0))))))) = some r1 := h
 clear h
 by_cases c1 : a0 = 0
 ·
  rw [if_pos c1] at H
  have c1b0 : (a0 == 0) = true := beq_iff_eq.mpr c1
  have c1b1 : (a0 != 0) = false := bne_eq_false_iff_eq.mpr c1
  have hc1 := hid c1
  clear c1
  obtain rfl := Option.some.inj H
  clear H
  go_enter Try.func87, Try.ntmps87
  go_wp2_with fail
  (try simp only [Act.put, sI, sZ, sS])
  go_ret
  exact ⟨by first | rfl | (simp; done) | (simp [*]; done), rfl⟩
 ·
  rw [if_neg c1] at H
  have c1b0 : (a0 == 0) = false := beq_eq_false_iff_ne.mpr c1
  have c1b1 : (a0 != 0) = true := bne_iff_ne.mpr c1
  have hc1 := hid c1
  clear c1
  by_cases c2 : a0 = 4
  ·
   rw [if_pos c2] at H
   have c2b0 : (a0 == 4) = true := beq_iff_eq.mpr c2
   have c2b1 : (a0 != 4) = false := bne_eq_false_iff_eq.mpr c2
   have hc2 := hid c2
   clear c2
   obtain rfl := Option.some.inj H
   clear H
   go_enter Try.func87, Try.ntmps87
   go_wp2_with fail
   (try simp only [Act.put, sI, sZ, sS])
   go_ret
   exact ⟨by first | rfl | (simp; done) | (simp [*]; done), rfl⟩
  ·
   rw [if_neg c2] at H
   have c2b0 : (a0 == 4) = false := beq_eq_false_iff_ne.mpr c2
   have c2b1 : (a0 != 4) = true := bne_iff_ne.mpr c2
   have hc2 := hid c2
   clear c2
   by_cases c3 : a0 = 7
   ·
    rw [if_pos c3] at H
    have c3b0 : (a0 == 7) = true := beq_iff_eq.mpr c3
    have c3b1 : (a0 != 7) = false := bne_eq_false_iff_eq.mpr c3
    have hc3 := hid c3
    clear c3
    obtain rfl := Option.some.inj H
    clear H
    go_enter Try.func87, Try.ntmps87
    go_wp2_with fail
    (try simp only [Act.put, sI, sZ, sS])
    go_ret
    exact ⟨by first | rfl | (simp; done) | (simp [*]; done), rfl⟩
   ·
    rw [if_neg c3] at H
    have c3b0 : (a0 == 7) = false := beq_eq_false_iff_ne.mpr c3
    have c3b1 : (a0 != 7) = true := bne_iff_ne.mpr c3
    have hc3 := hid c3
    clear c3
    by_cases c4 : a0 = 56
    ·
     rw [if_pos c4] at H
     have c4b0 : (a0 == 56) = true := beq_iff_eq.mpr c4
     have c4b1 : (a0 != 56) = false := bne_eq_false_iff_eq.mpr c4
     have hc4 := hid c4
     clear c4
     obtain rfl := Option.some.inj H
     clear H
     go_enter Try.func87, Try.ntmps87
     go_wp2_with fail
     (try simp only [Act.put, sI, sZ, sS])
     go_ret
     exact ⟨by first | rfl | (simp; done) | (simp [*]; done), rfl⟩
    ·
     rw [if_neg c4] at H
     have c4b0 : (a0 == 56) = false := beq_eq_false_iff_ne.mpr c4
     have c4b1 : (a0 != 56) = true := bne_iff_ne.mpr c4
     have hc4 := hid c4
     clear c4
     by_cases c5 : a0 = 60
     ·
      rw [if_pos c5] at H
      have c5b0 : (a0 == 60) = true := beq_iff_eq.mpr c5
      have c5b1 : (a0 != 60) = false := bne_eq_false_iff_eq.mpr c5
      have hc5 := hid c5
      clear c5
      obtain rfl := Option.some.inj H
      clear H
      go_enter Try.func87, Try.ntmps87
      go_wp2_with fail
      (try simp only [Act.put, sI, sZ, sS])
      go_ret
      exact ⟨by first | rfl | (simp; done) | (simp [*]; done), rfl⟩
     ·
      rw [if_neg c5] at H
      have c5b0 : (a0 == 60) = false := beq_eq_false_iff_ne.mpr c5
      have c5b1 : (a0 != 60) = true := bne_iff_ne.mpr c5
      have hc5 := hid c5
      clear c5
      by_cases c6 : a0 = 63
      ·
       rw [if_pos c6] at H
       have c6b0 : (a0 == 63) = true := beq_iff_eq.mpr c6
       have c6b1 : (a0 != 63) = false := bne_eq_false_iff_eq.mpr c6
       have hc6 := hid c6
       clear c6
       obtain rfl := Option.some.inj H
       clear H
       go_enter Try.func87, Try.ntmps87
       go_wp2_with fail
       (try simp only [Act.put, sI, sZ, sS])
       go_ret
       exact ⟨by first | rfl | (simp; done) | (simp [*]; done), rfl⟩
      ·
       rw [if_neg c6] at H
       have c6b0 : (a0 == 63) = false := beq_eq_false_iff_ne.mpr c6
       have c6b1 : (a0 != 63) = true := bne_iff_ne.mpr c6
       have hc6 := hid c6
       clear c6
       obtain rfl := Option.some.inj H
       clear H
       go_enter Try.func87, Try.ntmps87
       go_wp2_with fail
       (try simp only [Act.put, sI, sZ, sS])
       go_ret
       exact ⟨by first | rfl | (simp; done) | (simp [*]; done), rfl⟩
end Go.Proofs.Ytpjocgebnodnoaa
