import Derived.Test.YtpjocgebnodnoaaProg
import Derived.Test.YtpjocgebnodnoaaC2wz
import Derived.Test.YtpjocgebnodnoaaC3wz
namespace Go.Proofs.Ytpjocgebnodnoaa
open Go.RowKit
set_option linter.unusedVariables false
set_option linter.unusedSimpArgs false
set_option maxRecDepth 100000
theorem uT129 : Try.prog.underlying 129 = some (.array 8 42) := by kernel_rfl
def i_square_Flip.f (a0 : Int) : Option (Int) := (i_square_Right.f a0).bind fun t1 => (if t1 = true then (some (Go.bits .xor .i64 a0 56)) else (some (-1)))
set_option maxHeartbeats 40000000 in
set_option maxRecDepth 100000 in
theorem i_square_Flip.calls (a0 : Int) (r1 : Int) (w : World) (h : i_square_Flip.f a0 = some r1) :
    Calls Try.prog 79 #[.int .i64 a0] w fun e w' => e = .returned (.int .i64 r1) ∧ w = w' := by
 have H : ((i_square_Right.f a0).bind fun t1 => (if t1 = true then (some (Go.bits .xor .i64 a0 56)) else (some (-1)))) = some r1 := h
 clear h
 replace H := Option.bind_eq_some_iff.mp H
 obtain ⟨t1, A2_, H⟩ := H
 have A2 := hid A2_
 clear A2_
 cases t1 with
 | true =>
  rw [if_pos rfl] at H
  obtain rfl := Option.some.inj H
  clear H
  go_enter Try.func79, Try.ntmps79
  have k4 := True.intro
  go_wp2_with (first
   | (go_at_call 53; clear k4; refine (i_square_Right.calls a0 true _ A2.out).mono ?_; rintro e_ w' ⟨rfl, rfl⟩))
  (try simp only [Act.put, sI, sZ, sS])
  go_ret
  exact ⟨by first | rfl | (simp; done) | (simp [*]; done), rfl⟩
 | false =>
  rw [if_neg (show ¬ (false = true) by decide)] at H
  obtain rfl := Option.some.inj H
  clear H
  go_enter Try.func79, Try.ntmps79
  have k5 := True.intro
  go_wp2_with (first
   | (go_at_call 53; clear k5; refine (i_square_Right.calls a0 false _ A2.out).mono ?_; rintro e_ w' ⟨rfl, rfl⟩))
  (try simp only [Act.put, sI, sZ, sS])
  go_ret
  exact ⟨by first | rfl | (simp; done) | (simp [*]; done), rfl⟩
def i_board_Turned.l0 : Nat → List Int → Int → List Int → Option ((List Int))
  | 0, _, _, _ => none
  | k + 1, a0, x7_0, yb3_0_0 => if x7_0 < 64 then (if 0 ≤ x7_0 then ((i_square_Flip.f x7_0).bind fun t5 => (if 0 ≤ t5 then (if t5 < 64 then (i_board_Turned.l0 k a0 (wrap64 (x7_0 + 1)) (yb3_0_0.set t5.toNat (IntKind.i8.wrap (-(nt a0 x7_0.toNat 0))))) else (none)) else (none))) else (none)) else (some yb3_0_0)
def i_board_Turned.f (k : Nat) (a0 : List Int) : Option ((List Int)) := i_board_Turned.l0 k a0 0 zL
set_option maxHeartbeats 40000000 in
set_option maxRecDepth 100000 in
theorem i_board_Turned.calls (k : Nat) (a0 : List Int) (hla0 : a0.length = 64) (r1 : List Int) (w : World) (h : i_board_Turned.f k a0 = some r1) :
    Calls Try.prog 44 #[.agg (bv a0)] w fun e w' => e = .returned (.agg (bv r1)) ∧ r1.length = 64 ∧ Below w.heap.size w w' := by
 have LN_a0 := hid hla0
 clear hla0
 have HL := hid (Below.refl w.heap.size w)
 have H : (i_board_Turned.l0 k a0 0 zL) = some r1 := h
 clear h
 have H' := hid H
 clear H
 go_enter Try.func44, Try.ntmps44
 go_wp2_with (first
  | ((with_reducible refine gate_d (N := 1) rfl ?_); obtain ⟨gb1, hgb1⟩ : ∃ g_, w.heap.size = g_ := ⟨_, rfl⟩; refine ag_box (bv a0) gb1 hgb1 rfl _ rfl rfl ?_; intro w6 hb_ hB_ hs_; have GEb1 : Hid (w.heap.size ≤ gb1) := hid (by have := HL.out.size; omega); replace HL := hid (HL.out.trans (hb_.mono GEb1.out)); have BKb1 := hid hB_; clear hb_ hB_ hs_ hgb1)
  | ((with_reducible refine gate_d (N := 2) rfl ?_); obtain ⟨gb2, hgb2⟩ : ∃ g_, w6.heap.size = g_ := ⟨_, rfl⟩; refine ag_alloc boardT gb2 hgb2 rfl rfl ?_; intro w7 hb_ hB_ hs_; have GEb2 : Hid (w.heap.size ≤ gb2) := hid (by have := HL.out.size; omega); have NBb1_b2 : Hid (gb1 ≠ gb2) := hid (by have := BKb1.out.lt; omega); have NBb2_b1 : Hid (gb2 ≠ gb1) := hid (by have := NBb1_b2.out; omega); replace BKb1 := hid (BKb1.out.below hb_ (by rw [← hgb2]; exact BKb1.out.lt)); replace HL := hid (HL.out.trans (hb_.mono GEb2.out)); have BKb2 := hid hB_; clear hb_ hB_ hs_ hgb2)
  | ((with_reducible refine gate_d (N := 3) rfl ?_); obtain ⟨gb3, hgb3⟩ : ∃ g_, w7.heap.size = g_ := ⟨_, rfl⟩; refine ag_alloc boardT gb3 hgb3 rfl rfl ?_; intro w8 hb_ hB_ hs_; have GEb3 : Hid (w.heap.size ≤ gb3) := hid (by have := HL.out.size; omega); have NBb1_b3 : Hid (gb1 ≠ gb3) := hid (by have := BKb1.out.lt; omega); have NBb3_b1 : Hid (gb3 ≠ gb1) := hid (by have := NBb1_b3.out; omega); replace BKb1 := hid (BKb1.out.below hb_ (by rw [← hgb3]; exact BKb1.out.lt)); have NBb2_b3 : Hid (gb2 ≠ gb3) := hid (by have := BKb2.out.lt; omega); have NBb3_b2 : Hid (gb3 ≠ gb2) := hid (by have := NBb2_b3.out; omega); replace BKb2 := hid (BKb2.out.below hb_ (by rw [← hgb3]; exact BKb2.out.lt)); replace HL := hid (HL.out.trans (hb_.mono GEb3.out)); have BKb3 := hid hB_; clear hb_ hB_ hs_ hgb3)
  | ((with_reducible refine gate_d (N := 6) rfl ?_); refine ag_fix (.agg (bv a0)) (ex_load boardT gb1 0 (bv a0) (bv a0) BKb1.out (av_le LN_a0.out) (av_ex LN_a0.out) _ rfl rfl) rfl ?_))
 (try simp only [Act.put, sI, sZ, sS])
 go_loopg [7] k (fun kq v7 w' => ∃ (x7_0 : Int) (yb3_0_0 : List Int), v7 = .int .i64 x7_0 ∧ Hid (i_board_Turned.l0 kq a0 x7_0 yb3_0_0 = some r1) ∧ Hid (kq ≤ k) ∧ Hid (yb3_0_0.length = 64) ∧ Hid (Blk w' gb1 44 (bv a0)) ∧ Hid (Blk w' gb2 44 (bv zL)) ∧ Hid (Blk w' gb3 44 (bv yb3_0_0)) ∧ Hid (Below w.heap.size w w'))
 case atStart => exact ⟨(0 : Int), zL, (by first | rfl | (simp; done) | (simp [*]; done)), H', (hid (by first | omega | (omega))), (hid (by first | rfl | (simp only [List.length_set, List.length_replicate, zL_len, List.length_cons, List.length_nil, LN_a0.out]; done) | (simp [zL_len, LN_a0.out]; done))), (hid (by exact BKb1.out)), (hid (by exact BKb2.out)), (hid (by exact BKb3.out)), HL⟩
 case round =>
  clear H'
  clear HL BKb1 BKb2 BKb3
  obtain ⟨x7_0, yb3_0_0, rfl, HA, HK9, LN_yb3_0_0, BKb1, BKb2, BKb3, HL⟩ := hrel
  cases gk with
  | zero => exact absurd HA.out (by simp [i_board_Turned.l0])
  | succ k10 =>
   have H := HA.out
   clear HA
   simp only [i_board_Turned.l0] at H
   by_cases c11 : x7_0 < 64
   ·
    rw [if_pos c11] at H
    have c11b0 : decide (x7_0 < 64) = true := decide_eq_true c11
    have hc11 := hid c11
    clear c11
    by_cases c12 : 0 ≤ x7_0
    ·
     rw [if_pos c12] at H
     have c12b0 : decide (0 ≤ x7_0) = true := decide_eq_true c12
     have hc12 := hid c12
     clear c12
     replace H := Option.bind_eq_some_iff.mp H
     obtain ⟨t5, A13_, H⟩ := H
     have A13 := hid A13_
     clear A13_
     by_cases c14 : 0 ≤ t5
     ·
      rw [if_pos c14] at H
      have c14b0 : decide (0 ≤ t5) = true := decide_eq_true c14
      have hc14 := hid c14
      clear c14
      by_cases c15 : t5 < 64
      ·
       rw [if_pos c15] at H
       have c15b0 : decide (t5 < 64) = true := decide_eq_true c15
       have hc15 := hid c15
       clear c15
       have H' := hid H
       clear H
       have k16 := True.intro
       go_wp2_with (first
        | ((with_reducible refine gate_d (N := 10) rfl ?_); refine ag_fix (.int .i8 (nt a0 x7_0.toNat 0)) (ex_ix 44 (.agg (bv a0)) (.int .i64 x7_0) (.int .i8 (nt a0 x7_0.toNat 0)) (fun w_ => run_ixv 42 uT44 sT42 a0 LN_a0.out 0 x7_0 hc12.out hc11.out w_) _ _ rfl rfl rfl) rfl ?_)
        | (go_at_call 79; clear k16; refine (i_square_Flip.calls x7_0 t5 _ A13.out).mono ?_; rintro e_ w' ⟨rfl, rfl⟩)
        | ((with_reducible refine gate_d (N := 15) rfl ?_); refine ag_fix (.pointer (some ⟨gb3, t5.toNat, none⟩)) (ex_at 44 (.pointer (some ⟨gb3, 0, none⟩)) (.int .i64 t5) (.pointer (some ⟨gb3, t5.toNat, none⟩)) (fun w_ => (run_atv 42 uT44 sT42.size gb3 0 t5 hc14.out hc15.out w_).trans (by simp)) _ _ rfl rfl rfl) rfl ?_)
        | ((with_reducible refine gate_s (t := 42) (p := 15) rfl ?_); refine ag_set sT42 gb3 (t5.toNat) (.int .i8 (IntKind.i8.wrap (-(nt a0 x7_0.toNat 0)))) (bv yb3_0_0) (bv (yb3_0_0.set t5.toNat (IntKind.i8.wrap (-(nt a0 x7_0.toNat 0))))) BKb3.out (by rw [show (bv yb3_0_0) = av (Value.int .i8) yb3_0_0 from rfl, av_size]; exact (by have h_ : yb3_0_0.length = 64 := LN_yb3_0_0.out; have h1_ := hc14.out; have h2_ := hc15.out; omega)) rfl rfl (av_set _ _) rfl _ _ rfl rfl rfl ?_; intro w17 ho_ hB_; replace BKb1 := hid (BKb1.out.off ho_ NBb1_b3.out); replace BKb2 := hid (BKb2.out.off ho_ NBb2_b3.out); replace HL := hid (ho_.below HL.out GEb3.out); replace BKb3 := hid hB_; clear ho_ hB_))
       (try simp only [Act.put, sI, sZ, sS])
       go_roundg k10
       case measure => have := HK9.out; omega
       case rel => exact ⟨wrap64 (x7_0 + 1), yb3_0_0.set t5.toNat (IntKind.i8.wrap (-(nt a0 x7_0.toNat 0))), (by first | rfl | (simp; done) | (simp [*]; done)), H', (hid (by first | omega | (have := HK9.out; omega))), (hid (by first | rfl | (simp only [List.length_set, List.length_replicate, zL_len, List.length_cons, List.length_nil, LN_a0.out, LN_yb3_0_0.out]; done) | (simp [zL_len, LN_a0.out, LN_yb3_0_0.out]; done))), (hid (by exact BKb1.out)), (hid (by exact BKb2.out)), (hid (by exact BKb3.out)), HL⟩
      ·
       rw [if_neg c15] at H
       exact absurd H (by simp)
     ·
      rw [if_neg c14] at H
      exact absurd H (by simp)
    ·
     rw [if_neg c12] at H
     exact absurd H (by simp)
   ·
    rw [if_neg c11] at H
    have c11b0 : decide (x7_0 < 64) = false := decide_eq_false c11
    have hc11 := hid c11
    clear c11
    obtain rfl := Option.some.inj H
    clear H
    go_wp2_with (first
     | ((with_reducible refine gate_d (N := 17) rfl ?_); refine ag_fix (.agg (bv yb3_0_0)) (ex_load boardT gb3 0 (bv yb3_0_0) (bv yb3_0_0) BKb3.out (av_le LN_yb3_0_0.out) (av_ex LN_yb3_0_0.out) _ rfl rfl) rfl ?_)
     | ((with_reducible refine gate_s (t := 44) (p := 2) rfl ?_); refine ag_store boardT gb2 0 (bv zL) (bv yb3_0_0) (bv yb3_0_0) BKb2.out (by rw [show (bv yb3_0_0) = av (Value.int .i8) yb3_0_0 from rfl, av_size]; exact LN_yb3_0_0.out) (av_le zL_len) (av_one (fun _ => rfl)) (av_put zL_len LN_yb3_0_0.out) rfl _ _ rfl rfl rfl ?_; intro w18 ho_ hB_; replace BKb1 := hid (BKb1.out.off ho_ NBb1_b2.out); replace BKb3 := hid (BKb3.out.off ho_ NBb3_b2.out); replace HL := hid (ho_.below HL.out GEb2.out); replace BKb2 := hid hB_; clear ho_ hB_))
    (try simp only [Act.put, sI, sZ, sS])
    refine bodyPost_ret (v := .agg (bv yb3_0_0)) (res_c boardT rfl _ gb2 (bv yb3_0_0) BKb2.out (by rw [show (bv yb3_0_0) = av (Value.int .i8) yb3_0_0 from rfl, av_size]; exact LN_yb3_0_0.out) rfl) rfl ?_
    exact ⟨by first | rfl | (simp; done) | (simp [*]; done), LN_yb3_0_0.out, HL.out⟩
mutual
def i_board_First.l0 : Nat → Int → List Int → Option ((List Int))
  | 0, _, _ => none
  | k + 1, x8_0, yb2_0_0 => if x8_0 < 8 then (if 0 ≤ x8_0 then (if x8_0 < 64 then (if 0 ≤ (wrap64 (8 + x8_0)) then (if (wrap64 (8 + x8_0)) < 64 then (i_board_First.l0 k (wrap64 (x8_0 + 1)) ((yb2_0_0.set x8_0.toNat (nt [4, 2, 3, 5, 6, 3, 2, 4] x8_0.toNat 0)).set (wrap64 (8 + x8_0)).toNat 1)) else (none)) else (none)) else (none)) else (none)) else ((i_board_Turned.f k yb2_0_0).bind fun t5 => (i_board_First.l1 k t5 0 yb2_0_0))
def i_board_First.l1 : Nat → List Int → Int → List Int → Option ((List Int))
  | 0, _, _, _ => none
  | k + 1, t5, x22_1, yb2_0_1 => if x22_1 < 64 then (if 0 ≤ x22_1 then (if (nt t5 x22_1.toNat 0) = 0 then (i_board_First.l1 k t5 (wrap64 (x22_1 + 1)) yb2_0_1) else (i_board_First.l1 k t5 (wrap64 (x22_1 + 1)) (yb2_0_1.set x22_1.toNat (nt t5 x22_1.toNat 0)))) else (none)) else (some yb2_0_1)
end
def i_board_First.f (k : Nat)  : Option ((List Int)) := i_board_First.l0 k 0 zL
set_option maxHeartbeats 40000000 in
set_option maxRecDepth 100000 in
theorem i_board_First.calls (k : Nat) (r1 : List Int) (w : World) (h : i_board_First.f k = some r1) :
    Calls Try.prog 59 #[] w fun e w' => e = .returned (.agg (bv r1)) ∧ r1.length = 64 ∧ Below w.heap.size w w' := by
 have HL := hid (Below.refl w.heap.size w)
 have H : (i_board_First.l0 k 0 zL) = some r1 := h
 clear h
 have H' := hid H
 clear H
 go_enter Try.func59, Try.ntmps59
 go_wp2_with (first
  | ((with_reducible refine gate_d (N := 0) rfl ?_); obtain ⟨gb1, hgb1⟩ : ∃ g_, w.heap.size = g_ := ⟨_, rfl⟩; refine ag_alloc boardT gb1 hgb1 rfl rfl ?_; intro w7 hb_ hB_ hs_; have GEb1 : Hid (w.heap.size ≤ gb1) := hid (by have := HL.out.size; omega); replace HL := hid (HL.out.trans (hb_.mono GEb1.out)); have BKb1 := hid hB_; clear hb_ hB_ hs_ hgb1)
  | ((with_reducible refine gate_d (N := 1) rfl ?_); obtain ⟨gb2, hgb2⟩ : ∃ g_, w7.heap.size = g_ := ⟨_, rfl⟩; refine ag_alloc boardT gb2 hgb2 rfl rfl ?_; intro w8 hb_ hB_ hs_; have GEb2 : Hid (w.heap.size ≤ gb2) := hid (by have := HL.out.size; omega); have NBb1_b2 : Hid (gb1 ≠ gb2) := hid (by have := BKb1.out.lt; omega); have NBb2_b1 : Hid (gb2 ≠ gb1) := hid (by have := NBb1_b2.out; omega); replace BKb1 := hid (BKb1.out.below hb_ (by rw [← hgb2]; exact BKb1.out.lt)); replace HL := hid (HL.out.trans (hb_.mono GEb2.out)); have BKb2 := hid hB_; clear hb_ hB_ hs_ hgb2)
  | ((with_reducible refine gate_d (N := 7) rfl ?_); refine ag_build (.agg (bv [4, 2, 3, 5, 6, 3, 2, 4])) _ rfl rfl ?_ ?_; (intro ww_; simp only [List.map_toArray, List.map_cons, List.map_nil]; kernel_rfl)))
 (try simp only [Act.put, sI, sZ, sS])
 go_loopg [8] k (fun kq v8 w' => ∃ (x8_0 : Int) (yb2_0_0 : List Int), v8 = .int .i64 x8_0 ∧ Hid (i_board_First.l0 kq x8_0 yb2_0_0 = some r1) ∧ Hid (kq ≤ k) ∧ Hid (yb2_0_0.length = 64) ∧ Hid (Blk w' gb1 44 (bv zL)) ∧ Hid (Blk w' gb2 44 (bv yb2_0_0)) ∧ Hid (Below w.heap.size w w'))
 case atStart => exact ⟨(0 : Int), zL, (by first | rfl | (simp; done) | (simp [*]; done)), H', (hid (by first | omega | (omega))), (hid (by first | rfl | (simp only [List.length_set, List.length_replicate, zL_len, List.length_cons, List.length_nil]; done) | (simp [zL_len]; done))), (hid (by exact BKb1.out)), (hid (by exact BKb2.out)), HL⟩
 case round =>
  clear H'
  clear HL BKb1 BKb2
  obtain ⟨x8_0, yb2_0_0, rfl, HA, HK9, LN_yb2_0_0, BKb1, BKb2, HL⟩ := hrel
  cases gk with
  | zero => exact absurd HA.out (by simp [i_board_First.l0])
  | succ k10 =>
   have H := HA.out
   clear HA
   simp only [i_board_First.l0] at H
   by_cases c11 : x8_0 < 8
   ·
    rw [if_pos c11] at H
    have c11b0 : decide (x8_0 < 8) = true := decide_eq_true c11
    have hc11 := hid c11
    clear c11
    by_cases c12 : 0 ≤ x8_0
    ·
     rw [if_pos c12] at H
     have c12b0 : decide (0 ≤ x8_0) = true := decide_eq_true c12
     have hc12 := hid c12
     clear c12
     by_cases c13 : x8_0 < 64
     ·
      rw [if_pos c13] at H
      have c13b0 : decide (x8_0 < 64) = true := decide_eq_true c13
      have hc13 := hid c13
      clear c13
      by_cases c14 : 0 ≤ (wrap64 (8 + x8_0))
      ·
       rw [if_pos c14] at H
       have c14b0 : decide (0 ≤ (wrap64 (8 + x8_0))) = true := decide_eq_true c14
       have hc14 := hid c14
       clear c14
       by_cases c15 : (wrap64 (8 + x8_0)) < 64
       ·
        rw [if_pos c15] at H
        have c15b0 : decide ((wrap64 (8 + x8_0)) < 64) = true := decide_eq_true c15
        have hc15 := hid c15
        clear c15
        have H' := hid H
        clear H
        go_wp2_with (first
         | ((with_reducible refine gate_d (N := 11) rfl ?_); refine ag_fix (.int .i8 (nt [4, 2, 3, 5, 6, 3, 2, 4] x8_0.toNat 0)) (ex_ix 129 (.agg (bv [4, 2, 3, 5, 6, 3, 2, 4])) (.int .i64 x8_0) (.int .i8 (nt [4, 2, 3, 5, 6, 3, 2, 4] x8_0.toNat 0)) (fun w_ => run_ixv 42 uT129 sT42 [4, 2, 3, 5, 6, 3, 2, 4] (by first | rfl | (simp only [List.length_set, List.length_replicate, zL_len, List.length_cons, List.length_nil, LN_yb2_0_0.out]; done) | (simp [zL_len, LN_yb2_0_0.out]; done)) 0 x8_0 hc12.out hc11.out w_) _ _ rfl rfl rfl) rfl ?_)
         | ((with_reducible refine gate_d (N := 16) rfl ?_); refine ag_fix (.pointer (some ⟨gb2, x8_0.toNat, none⟩)) (ex_at 44 (.pointer (some ⟨gb2, 0, none⟩)) (.int .i64 x8_0) (.pointer (some ⟨gb2, x8_0.toNat, none⟩)) (fun w_ => (run_atv 42 uT44 sT42.size gb2 0 x8_0 hc12.out hc13.out w_).trans (by simp)) _ _ rfl rfl rfl) rfl ?_)
         | ((with_reducible refine gate_s (t := 42) (p := 16) rfl ?_); refine ag_set sT42 gb2 (x8_0.toNat) (.int .i8 (nt [4, 2, 3, 5, 6, 3, 2, 4] x8_0.toNat 0)) (bv yb2_0_0) (bv (yb2_0_0.set x8_0.toNat (nt [4, 2, 3, 5, 6, 3, 2, 4] x8_0.toNat 0))) BKb2.out (by rw [show (bv yb2_0_0) = av (Value.int .i8) yb2_0_0 from rfl, av_size]; exact (by have h_ : yb2_0_0.length = 64 := LN_yb2_0_0.out; have h1_ := hc12.out; have h2_ := hc13.out; omega)) rfl rfl (av_set _ _) rfl _ _ rfl rfl rfl ?_; intro w16 ho_ hB_; replace BKb1 := hid (BKb1.out.off ho_ NBb1_b2.out); replace HL := hid (ho_.below HL.out GEb2.out); replace BKb2 := hid hB_; clear ho_ hB_)
         | ((with_reducible refine gate_d (N := 17) rfl ?_); refine ag_fix (.pointer (some ⟨gb2, (wrap64 (8 + x8_0)).toNat, none⟩)) (ex_at 44 (.pointer (some ⟨gb2, 0, none⟩)) (.int .i64 (wrap64 (8 + x8_0))) (.pointer (some ⟨gb2, (wrap64 (8 + x8_0)).toNat, none⟩)) (fun w_ => (run_atv 42 uT44 sT42.size gb2 0 (wrap64 (8 + x8_0)) hc14.out hc15.out w_).trans (by simp)) _ _ rfl rfl rfl) rfl ?_)
         | ((with_reducible refine gate_s (t := 42) (p := 17) rfl ?_); refine ag_set sT42 gb2 ((wrap64 (8 + x8_0)).toNat) (.int .i8 1) (bv (yb2_0_0.set x8_0.toNat (nt [4, 2, 3, 5, 6, 3, 2, 4] x8_0.toNat 0))) (bv ((yb2_0_0.set x8_0.toNat (nt [4, 2, 3, 5, 6, 3, 2, 4] x8_0.toNat 0)).set (wrap64 (8 + x8_0)).toNat 1)) BKb2.out (by rw [show (bv (yb2_0_0.set x8_0.toNat (nt [4, 2, 3, 5, 6, 3, 2, 4] x8_0.toNat 0))) = av (Value.int .i8) (yb2_0_0.set x8_0.toNat (nt [4, 2, 3, 5, 6, 3, 2, 4] x8_0.toNat 0)) from rfl, av_size]; exact (by have h_ : (yb2_0_0.set x8_0.toNat (nt [4, 2, 3, 5, 6, 3, 2, 4] x8_0.toNat 0)).length = 64 := (by first | rfl | (simp only [List.length_set, List.length_replicate, zL_len, List.length_cons, List.length_nil, LN_yb2_0_0.out]; done) | (simp [zL_len, LN_yb2_0_0.out]; done)); have h1_ := hc14.out; have h2_ := hc15.out; omega)) rfl rfl (av_set _ _) rfl _ _ rfl rfl rfl ?_; intro w17 ho_ hB_; replace BKb1 := hid (BKb1.out.off ho_ NBb1_b2.out); replace HL := hid (ho_.below HL.out GEb2.out); replace BKb2 := hid hB_; clear ho_ hB_))
        (try simp only [Act.put, sI, sZ, sS])
        go_roundg k10
        case measure => have := HK9.out; omega
        case rel => exact ⟨wrap64 (x8_0 + 1), (yb2_0_0.set x8_0.toNat (nt [4, 2, 3, 5, 6, 3, 2, 4] x8_0.toNat 0)).set (wrap64 (8 + x8_0)).toNat 1, (by first | rfl | (simp; done) | (simp [*]; done)), H', (hid (by first | omega | (have := HK9.out; omega))), (hid (by first | rfl | (simp only [List.length_set, List.length_replicate, zL_len, List.length_cons, List.length_nil, LN_yb2_0_0.out]; done) | (simp [zL_len, LN_yb2_0_0.out]; done))), (hid (by exact BKb1.out)), (hid (by exact BKb2.out)), HL⟩
       ·
        rw [if_neg c15] at H
        exact absurd H (by simp)
      ·
       rw [if_neg c14] at H
       exact absurd H (by simp)
     ·
      rw [if_neg c13] at H
      exact absurd H (by simp)
    ·
     rw [if_neg c12] at H
     exact absurd H (by simp)
   ·
    rw [if_neg c11] at H
    have c11b0 : decide (x8_0 < 8) = false := decide_eq_false c11
    have hc11 := hid c11
    clear c11
    replace H := Option.bind_eq_some_iff.mp H
    obtain ⟨t5, A18_, H⟩ := H
    have A18 := hid A18_
    clear A18_
    have H' := hid H
    clear H
    have k19 := True.intro
    go_wp2_with (first
     | ((with_reducible refine gate_d (N := 19) rfl ?_); refine ag_fix (.agg (bv yb2_0_0)) (ex_load boardT gb2 0 (bv yb2_0_0) (bv yb2_0_0) BKb2.out (av_le LN_yb2_0_0.out) (av_ex LN_yb2_0_0.out) _ rfl rfl) rfl ?_)
     | (go_at_call 44; clear k19; refine (i_board_Turned.calls k10 yb2_0_0 LN_yb2_0_0.out t5 _ A18.out).mono ?_; rintro e_ w20 ⟨rfl, ln_t5, hb_⟩; have LN_t5 := hid ln_t5; clear ln_t5; replace BKb1 := hid (BKb1.out.below hb_ BKb1.out.lt); replace BKb2 := hid (BKb2.out.below hb_ BKb2.out.lt); replace HL := hid (HL.out.trans (hb_.mono HL.out.size)); clear hb_)
     | ((with_reducible refine gate_d (N := 4) rfl ?_); obtain ⟨gb6, hgb6⟩ : ∃ g_, w20.heap.size = g_ := ⟨_, rfl⟩; refine ag_alloc boardT gb6 hgb6 rfl rfl ?_; intro w21 hb_ hB_ hs_; have GEb6 : Hid (w.heap.size ≤ gb6) := hid (by have := HL.out.size; omega); have NBb1_b6 : Hid (gb1 ≠ gb6) := hid (by have := BKb1.out.lt; omega); have NBb6_b1 : Hid (gb6 ≠ gb1) := hid (by have := NBb1_b6.out; omega); replace BKb1 := hid (BKb1.out.below hb_ (by rw [← hgb6]; exact BKb1.out.lt)); have NBb2_b6 : Hid (gb2 ≠ gb6) := hid (by have := BKb2.out.lt; omega); have NBb6_b2 : Hid (gb6 ≠ gb2) := hid (by have := NBb2_b6.out; omega); replace BKb2 := hid (BKb2.out.below hb_ (by rw [← hgb6]; exact BKb2.out.lt)); replace HL := hid (HL.out.trans (hb_.mono GEb6.out)); have BKb6 := hid hB_; clear hb_ hB_ hs_ hgb6)
     | ((with_reducible refine gate_s (t := 44) (p := 4) rfl ?_); refine ag_store boardT gb6 0 (bv zL) (bv t5) (bv t5) BKb6.out (by rw [show (bv t5) = av (Value.int .i8) t5 from rfl, av_size]; exact LN_t5.out) (av_le zL_len) (av_one (fun _ => rfl)) (av_put zL_len LN_t5.out) rfl _ _ rfl rfl rfl ?_; intro w22 ho_ hB_; replace BKb1 := hid (BKb1.out.off ho_ NBb1_b6.out); replace BKb2 := hid (BKb2.out.off ho_ NBb2_b6.out); replace HL := hid (ho_.below HL.out GEb6.out); replace BKb6 := hid hB_; clear ho_ hB_)
     | ((with_reducible refine gate_d (N := 21) rfl ?_); refine ag_fix (.agg (bv t5)) (ex_load boardT gb6 0 (bv t5) (bv t5) BKb6.out (av_le LN_t5.out) (av_ex LN_t5.out) _ rfl rfl) rfl ?_))
    (try simp only [Act.put, sI, sZ, sS])
    go_loopg [22] k10 (fun kq v22 w' => ∃ (x22_1 : Int) (yb2_0_1 : List Int), v22 = .int .i64 x22_1 ∧ Hid (i_board_First.l1 kq t5 x22_1 yb2_0_1 = some r1) ∧ Hid (kq ≤ k10) ∧ Hid (yb2_0_1.length = 64) ∧ Hid (Blk w' gb1 44 (bv zL)) ∧ Hid (Blk w' gb2 44 (bv yb2_0_1)) ∧ Hid (Blk w' gb6 44 (bv t5)) ∧ Hid (Below w.heap.size w w'))
    case atStart => exact ⟨(0 : Int), yb2_0_0, (by first | rfl | (simp; done) | (simp [*]; done)), H', (hid (by first | omega | (have := HK9.out; omega))), (hid (by first | rfl | (simp only [List.length_set, List.length_replicate, zL_len, List.length_cons, List.length_nil, LN_yb2_0_0.out, LN_t5.out]; done) | (simp [zL_len, LN_yb2_0_0.out, LN_t5.out]; done))), (hid (by exact BKb1.out)), (hid (by exact BKb2.out)), (hid (by exact BKb6.out)), HL⟩
    case round =>
     clear H'
     clear HL BKb1 BKb2 BKb6
     obtain ⟨x22_1, yb2_0_1, rfl, HA, HK23, LN_yb2_0_1, BKb1, BKb2, BKb6, HL⟩ := hrel
     cases gk with
     | zero => exact absurd HA.out (by simp [i_board_First.l1])
     | succ k24 =>
      have H := HA.out
      clear HA
      simp only [i_board_First.l1] at H
      by_cases c25 : x22_1 < 64
      ·
       rw [if_pos c25] at H
       have c25b0 : decide (x22_1 < 64) = true := decide_eq_true c25
       have hc25 := hid c25
       clear c25
       by_cases c26 : 0 ≤ x22_1
       ·
        rw [if_pos c26] at H
        have c26b0 : decide (0 ≤ x22_1) = true := decide_eq_true c26
        have hc26 := hid c26
        clear c26
        by_cases c27 : (nt t5 x22_1.toNat 0) = 0
        ·
         rw [if_pos c27] at H
         have c27b0 : ((nt t5 x22_1.toNat 0) == 0) = true := beq_iff_eq.mpr c27
         have c27b1 : ((nt t5 x22_1.toNat 0) != 0) = false := bne_eq_false_iff_eq.mpr c27
         have hc27 := hid c27
         clear c27
         have H' := hid H
         clear H
         go_wp2_with (first
          | ((with_reducible refine gate_d (N := 25) rfl ?_); refine ag_fix (.int .i8 (nt t5 x22_1.toNat 0)) (ex_ix 44 (.agg (bv t5)) (.int .i64 x22_1) (.int .i8 (nt t5 x22_1.toNat 0)) (fun w_ => run_ixv 42 uT44 sT42 t5 LN_t5.out 0 x22_1 hc26.out hc25.out w_) _ _ rfl rfl rfl) rfl ?_))
         (try simp only [Act.put, sI, sZ, sS])
         go_roundg k24
         case measure => have := HK9.out; have := HK23.out; omega
         case rel => exact ⟨wrap64 (x22_1 + 1), yb2_0_1, (by first | rfl | (simp; done) | (simp [*]; done)), H', (hid (by first | omega | (have := HK9.out; have := HK23.out; omega))), (hid (by first | rfl | (simp only [List.length_set, List.length_replicate, zL_len, List.length_cons, List.length_nil, LN_yb2_0_0.out, LN_t5.out, LN_yb2_0_1.out]; done) | (simp [zL_len, LN_yb2_0_0.out, LN_t5.out, LN_yb2_0_1.out]; done))), (hid (by exact BKb1.out)), (hid (by exact BKb2.out)), (hid (by exact BKb6.out)), HL⟩
        ·
         rw [if_neg c27] at H
         have c27b0 : ((nt t5 x22_1.toNat 0) == 0) = false := beq_eq_false_iff_ne.mpr c27
         have c27b1 : ((nt t5 x22_1.toNat 0) != 0) = true := bne_iff_ne.mpr c27
         have hc27 := hid c27
         clear c27
         have H' := hid H
         clear H
         go_wp2_with (first
          | ((with_reducible refine gate_d (N := 25) rfl ?_); refine ag_fix (.int .i8 (nt t5 x22_1.toNat 0)) (ex_ix 44 (.agg (bv t5)) (.int .i64 x22_1) (.int .i8 (nt t5 x22_1.toNat 0)) (fun w_ => run_ixv 42 uT44 sT42 t5 LN_t5.out 0 x22_1 hc26.out hc25.out w_) _ _ rfl rfl rfl) rfl ?_)
          | ((with_reducible refine gate_d (N := 30) rfl ?_); refine ag_fix (.pointer (some ⟨gb2, x22_1.toNat, none⟩)) (ex_at 44 (.pointer (some ⟨gb2, 0, none⟩)) (.int .i64 x22_1) (.pointer (some ⟨gb2, x22_1.toNat, none⟩)) (fun w_ => (run_atv 42 uT44 sT42.size gb2 0 x22_1 hc26.out hc25.out w_).trans (by simp)) _ _ rfl rfl rfl) rfl ?_)
          | ((with_reducible refine gate_s (t := 42) (p := 30) rfl ?_); refine ag_set sT42 gb2 (x22_1.toNat) (.int .i8 (nt t5 x22_1.toNat 0)) (bv yb2_0_1) (bv (yb2_0_1.set x22_1.toNat (nt t5 x22_1.toNat 0))) BKb2.out (by rw [show (bv yb2_0_1) = av (Value.int .i8) yb2_0_1 from rfl, av_size]; exact (by have h_ : yb2_0_1.length = 64 := LN_yb2_0_1.out; have h1_ := hc26.out; have h2_ := hc25.out; omega)) rfl rfl (av_set _ _) rfl _ _ rfl rfl rfl ?_; intro w28 ho_ hB_; replace BKb1 := hid (BKb1.out.off ho_ NBb1_b2.out); replace BKb6 := hid (BKb6.out.off ho_ NBb6_b2.out); replace HL := hid (ho_.below HL.out GEb2.out); replace BKb2 := hid hB_; clear ho_ hB_))
         (try simp only [Act.put, sI, sZ, sS])
         go_roundg k24
         case measure => have := HK9.out; have := HK23.out; omega
         case rel => exact ⟨wrap64 (x22_1 + 1), yb2_0_1.set x22_1.toNat (nt t5 x22_1.toNat 0), (by first | rfl | (simp; done) | (simp [*]; done)), H', (hid (by first | omega | (have := HK9.out; have := HK23.out; omega))), (hid (by first | rfl | (simp only [List.length_set, List.length_replicate, zL_len, List.length_cons, List.length_nil, LN_yb2_0_0.out, LN_t5.out, LN_yb2_0_1.out]; done) | (simp [zL_len, LN_yb2_0_0.out, LN_t5.out, LN_yb2_0_1.out]; done))), (hid (by exact BKb1.out)), (hid (by exact BKb2.out)), (hid (by exact BKb6.out)), HL⟩
       ·
        rw [if_neg c26] at H
        exact absurd H (by simp)
      ·
       rw [if_neg c25] at H
       have c25b0 : decide (x22_1 < 64) = false := decide_eq_false c25
       have hc25 := hid c25
       clear c25
       obtain rfl := Option.some.inj H
       clear H
       go_wp2_with (first
        | ((with_reducible refine gate_d (N := 32) rfl ?_); refine ag_fix (.agg (bv yb2_0_1)) (ex_load boardT gb2 0 (bv yb2_0_1) (bv yb2_0_1) BKb2.out (av_le LN_yb2_0_1.out) (av_ex LN_yb2_0_1.out) _ rfl rfl) rfl ?_)
        | ((with_reducible refine gate_s (t := 44) (p := 0) rfl ?_); refine ag_store boardT gb1 0 (bv zL) (bv yb2_0_1) (bv yb2_0_1) BKb1.out (by rw [show (bv yb2_0_1) = av (Value.int .i8) yb2_0_1 from rfl, av_size]; exact LN_yb2_0_1.out) (av_le zL_len) (av_one (fun _ => rfl)) (av_put zL_len LN_yb2_0_1.out) rfl _ _ rfl rfl rfl ?_; intro w29 ho_ hB_; replace BKb2 := hid (BKb2.out.off ho_ NBb2_b1.out); replace BKb6 := hid (BKb6.out.off ho_ NBb6_b1.out); replace HL := hid (ho_.below HL.out GEb1.out); replace BKb1 := hid hB_; clear ho_ hB_))
       (try simp only [Act.put, sI, sZ, sS])
       refine bodyPost_ret (v := .agg (bv yb2_0_1)) (res_c boardT rfl _ gb1 (bv yb2_0_1) BKb1.out (by rw [show (bv yb2_0_1) = av (Value.int .i8) yb2_0_1 from rfl, av_size]; exact LN_yb2_0_1.out) rfl) rfl ?_
       exact ⟨by first | rfl | (simp; done) | (simp [*]; done), LN_yb2_0_1.out, HL.out⟩
def i_alfillaw24_wakes.f (k : Nat)  : Option (Bool) := (i_board_First.f k).bind fun t1 => ((i_count_Why.f k ((t1.set 24 1).set 1 0)).bind fun bt4 => ((i_count_Illegal.f k t1).bind fun t6 => (if t6 = true then (some false) else (if bt4.1 = 2 then (some bt4.2) else (some false)))))
set_option maxHeartbeats 40000000 in
set_option maxRecDepth 100000 in
theorem i_alfillaw24_wakes.calls (k : Nat) (r1 : Bool) (w : World) (h : i_alfillaw24_wakes.f k = some r1) :
    Calls Try.prog 34 #[] w fun e w' => e = .returned (.bool r1) ∧ Below w.heap.size w w' := by
 have HL := hid (Below.refl w.heap.size w)
 have H : ((i_board_First.f k).bind fun t1 => ((i_count_Why.f k ((t1.set 24 1).set 1 0)).bind fun bt4 => ((i_count_Illegal.f k t1).bind fun t6 => (if t6 = true then (some false) else (if bt4.1 = 2 then (some bt4.2) else (some false)))))) = some r1 := h
 clear h
 replace H := Option.bind_eq_some_iff.mp H
 obtain ⟨t1, A7_, H⟩ := H
 have A7 := hid A7_
 clear A7_
 have H' := hid H
 clear H
 go_enter Try.func34, Try.ntmps34
 have k9 := True.intro
 go_wp2_with (first
  | (go_at_call 59; clear k9; refine (i_board_First.calls k t1 _ A7.out).mono ?_; rintro e_ w10 ⟨rfl, ln_t1, hb_⟩; have LN_t1 := hid ln_t1; clear ln_t1; replace HL := hid (HL.out.trans (hb_.mono HL.out.size)); clear hb_)
  | ((with_reducible refine gate_d (N := 1) rfl ?_); obtain ⟨gb2, hgb2⟩ : ∃ g_, w10.heap.size = g_ := ⟨_, rfl⟩; refine ag_alloc boardT gb2 hgb2 rfl rfl ?_; intro w11 hb_ hB_ hs_; have GEb2 : Hid (w.heap.size ≤ gb2) := hid (by have := HL.out.size; omega); replace HL := hid (HL.out.trans (hb_.mono GEb2.out)); have BKb2 := hid hB_; clear hb_ hB_ hs_ hgb2)
  | ((with_reducible refine gate_s (t := 44) (p := 1) rfl ?_); refine ag_store boardT gb2 0 (bv zL) (bv t1) (bv t1) BKb2.out (by rw [show (bv t1) = av (Value.int .i8) t1 from rfl, av_size]; exact LN_t1.out) (av_le zL_len) (av_one (fun _ => rfl)) (av_put zL_len LN_t1.out) rfl _ _ rfl rfl rfl ?_; intro w12 ho_ hB_; replace HL := hid (ho_.below HL.out GEb2.out); replace BKb2 := hid hB_; clear ho_ hB_)
  | ((with_reducible refine gate_d (N := 6) rfl ?_); refine ag_fix (.agg (bv t1)) (ex_load boardT gb2 0 (bv t1) (bv t1) BKb2.out (av_le LN_t1.out) (av_ex LN_t1.out) _ rfl rfl) rfl ?_)
  | ((with_reducible refine gate_d (N := 2) rfl ?_); obtain ⟨gb3, hgb3⟩ : ∃ g_, w12.heap.size = g_ := ⟨_, rfl⟩; refine ag_alloc boardT gb3 hgb3 rfl rfl ?_; intro w13 hb_ hB_ hs_; have GEb3 : Hid (w.heap.size ≤ gb3) := hid (by have := HL.out.size; omega); have NBb2_b3 : Hid (gb2 ≠ gb3) := hid (by have := BKb2.out.lt; omega); have NBb3_b2 : Hid (gb3 ≠ gb2) := hid (by have := NBb2_b3.out; omega); replace BKb2 := hid (BKb2.out.below hb_ (by rw [← hgb3]; exact BKb2.out.lt)); replace HL := hid (HL.out.trans (hb_.mono GEb3.out)); have BKb3 := hid hB_; clear hb_ hB_ hs_ hgb3)
  | ((with_reducible refine gate_s (t := 44) (p := 2) rfl ?_); refine ag_store boardT gb3 0 (bv zL) (bv t1) (bv t1) BKb3.out (by rw [show (bv t1) = av (Value.int .i8) t1 from rfl, av_size]; exact LN_t1.out) (av_le zL_len) (av_one (fun _ => rfl)) (av_put zL_len LN_t1.out) rfl _ _ rfl rfl rfl ?_; intro w14 ho_ hB_; replace BKb2 := hid (BKb2.out.off ho_ NBb2_b3.out); replace HL := hid (ho_.below HL.out GEb3.out); replace BKb3 := hid hB_; clear ho_ hB_)
  | ((with_reducible refine gate_d (N := 7) rfl ?_); refine ag_fix (.pointer (some ⟨gb3, 24, none⟩)) (ex_at 44 (.pointer (some ⟨gb3, 0, none⟩)) (.int .i64 24) (.pointer (some ⟨gb3, 24, none⟩)) (fun w_ => (run_atv 42 uT44 sT42.size gb3 0 24 (by omega) (by omega) w_).trans rfl) _ _ rfl rfl rfl) rfl ?_)
  | ((with_reducible refine gate_s (t := 42) (p := 7) rfl ?_); refine ag_set sT42 gb3 (24) (.int .i8 1) (bv t1) (bv (t1.set 24 1)) BKb3.out (by rw [show (bv t1) = av (Value.int .i8) t1 from rfl, av_size]; exact (by have h_ : t1.length = 64 := LN_t1.out; omega)) rfl rfl (av_set _ _) rfl _ _ rfl rfl rfl ?_; intro w15 ho_ hB_; replace BKb2 := hid (BKb2.out.off ho_ NBb2_b3.out); replace HL := hid (ho_.below HL.out GEb3.out); replace BKb3 := hid hB_; clear ho_ hB_)
  | ((with_reducible refine gate_d (N := 8) rfl ?_); refine ag_fix (.pointer (some ⟨gb3, 1, none⟩)) (ex_at 44 (.pointer (some ⟨gb3, 0, none⟩)) (.int .i64 1) (.pointer (some ⟨gb3, 1, none⟩)) (fun w_ => (run_atv 42 uT44 sT42.size gb3 0 1 (by omega) (by omega) w_).trans rfl) _ _ rfl rfl rfl) rfl ?_)
  | ((with_reducible refine gate_s (t := 42) (p := 8) rfl ?_); refine ag_set sT42 gb3 (1) (.int .i8 0) (bv (t1.set 24 1)) (bv ((t1.set 24 1).set 1 0)) BKb3.out (by rw [show (bv (t1.set 24 1)) = av (Value.int .i8) (t1.set 24 1) from rfl, av_size]; exact (by have h_ : (t1.set 24 1).length = 64 := (by first | rfl | (simp only [List.length_set, List.length_replicate, zL_len, List.length_cons, List.length_nil, LN_t1.out]; done) | (simp [zL_len, LN_t1.out]; done)); omega)) rfl rfl (av_set _ _) rfl _ _ rfl rfl rfl ?_; intro w16 ho_ hB_; replace BKb2 := hid (BKb2.out.off ho_ NBb2_b3.out); replace HL := hid (ho_.below HL.out GEb3.out); replace BKb3 := hid hB_; clear ho_ hB_)
  | ((with_reducible refine gate_d (N := 10) rfl ?_); refine ag_fix (.agg (bv ((t1.set 24 1).set 1 0))) (ex_load boardT gb3 0 (bv ((t1.set 24 1).set 1 0)) (bv ((t1.set 24 1).set 1 0)) BKb3.out (av_le (by first | rfl | (simp only [List.length_set, List.length_replicate, zL_len, List.length_cons, List.length_nil, LN_t1.out]; done) | (simp [zL_len, LN_t1.out]; done))) (av_ex (by first | rfl | (simp only [List.length_set, List.length_replicate, zL_len, List.length_cons, List.length_nil, LN_t1.out]; done) | (simp [zL_len, LN_t1.out]; done))) _ rfl rfl) rfl ?_))
 (try simp only [Act.put, sI, sZ, sS])
 have H := H'.out
 clear H'
 replace H := Option.bind_eq_some_iff.mp H
 obtain ⟨⟨t4, t5⟩, A8_, H⟩ := H
 dsimp only at H
 have A8 := hid A8_
 clear A8_
 have H' := hid H
 clear H
 have k18 := True.intro
 go_wp2_with (first
  | (go_at_call 35; clear k18; refine (i_count_Why.calls k ((t1.set 24 1).set 1 0) (by first | rfl | (simp only [List.length_set, List.length_replicate, zL_len, List.length_cons, List.length_nil, LN_t1.out]; done) | (simp [zL_len, LN_t1.out]; done)) t4 t5 _ A8.out).mono ?_; rintro e_ w19 ⟨rfl, hb_⟩; replace BKb2 := hid (BKb2.out.below hb_ BKb2.out.lt); replace BKb3 := hid (BKb3.out.below hb_ BKb3.out.lt); replace HL := hid (HL.out.trans (hb_.mono HL.out.size)); clear hb_)
  | ((with_reducible refine gate_d (N := 14) rfl ?_); refine ag_fix (.agg (bv t1)) (ex_load boardT gb2 0 (bv t1) (bv t1) BKb2.out (av_le LN_t1.out) (av_ex LN_t1.out) _ rfl rfl) rfl ?_))
 (try simp only [Act.put, sI, sZ, sS])
 have H := H'.out
 clear H'
 replace H := Option.bind_eq_some_iff.mp H
 obtain ⟨t6, A17_, H⟩ := H
 have A17 := hid A17_
 clear A17_
 cases t6 with
 | true =>
  rw [if_pos rfl] at H
  obtain rfl := Option.some.inj H
  clear H
  have k21 := True.intro
  go_wp2_with (first
   | (go_at_call 39; clear k21; refine (i_count_Illegal.calls k t1 LN_t1.out true _ A17.out).mono ?_; rintro e_ w22 ⟨rfl, hb_⟩; replace BKb2 := hid (BKb2.out.below hb_ BKb2.out.lt); replace BKb3 := hid (BKb3.out.below hb_ BKb3.out.lt); replace HL := hid (HL.out.trans (hb_.mono HL.out.size)); clear hb_))
  (try simp only [Act.put, sI, sZ, sS])
  go_ret
  exact ⟨by first | rfl | (simp; done) | (simp [*]; done), HL.out⟩
 | false =>
  rw [if_neg (show ¬ (false = true) by decide)] at H
  by_cases c23 : t4 = 2
  ·
   rw [if_pos c23] at H
   have c23b0 : (t4 == 2) = true := beq_iff_eq.mpr c23
   have c23b1 : (t4 != 2) = false := bne_eq_false_iff_eq.mpr c23
   have hc23 := hid c23
   clear c23
   obtain rfl := Option.some.inj H
   clear H
   have k24 := True.intro
   go_wp2_with (first
    | (go_at_call 39; clear k24; refine (i_count_Illegal.calls k t1 LN_t1.out false _ A17.out).mono ?_; rintro e_ w25 ⟨rfl, hb_⟩; replace BKb2 := hid (BKb2.out.below hb_ BKb2.out.lt); replace BKb3 := hid (BKb3.out.below hb_ BKb3.out.lt); replace HL := hid (HL.out.trans (hb_.mono HL.out.size)); clear hb_))
   (try simp only [Act.put, sI, sZ, sS])
   go_ret
   exact ⟨by first | rfl | (simp; done) | (simp [*]; done), HL.out⟩
  ·
   rw [if_neg c23] at H
   have c23b0 : (t4 == 2) = false := beq_eq_false_iff_ne.mpr c23
   have c23b1 : (t4 != 2) = true := bne_iff_ne.mpr c23
   have hc23 := hid c23
   clear c23
   obtain rfl := Option.some.inj H
   clear H
   have k26 := True.intro
   go_wp2_with (first
    | (go_at_call 39; clear k26; refine (i_count_Illegal.calls k t1 LN_t1.out false _ A17.out).mono ?_; rintro e_ w27 ⟨rfl, hb_⟩; replace BKb2 := hid (BKb2.out.below hb_ BKb2.out.lt); replace BKb3 := hid (BKb3.out.below hb_ BKb3.out.lt); replace HL := hid (HL.out.trans (hb_.mono HL.out.size)); clear hb_))
   (try simp only [Act.put, sI, sZ, sS])
   go_ret
   exact ⟨by first | rfl | (simp; done) | (simp [*]; done), HL.out⟩
end Go.Proofs.Ytpjocgebnodnoaa
