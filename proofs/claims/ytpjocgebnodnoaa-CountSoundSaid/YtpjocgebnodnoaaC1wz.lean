import Derived.Test.YtpjocgebnodnoaaProg
import Derived.Test.YtpjocgebnodnoaaRgz
namespace Go.Proofs.Ytpjocgebnodnoaa
open Go.RowKit
set_option linter.unusedVariables false
set_option linter.unusedSimpArgs false
set_option maxRecDepth 100000
theorem uT44 : Try.prog.underlying 44 = some (.array 64 42) := by kernel_rfl
theorem sT42 : ScT Try.prog 42 := ⟨fun w => by kernel_rfl, fun w => by kernel_rfl⟩
theorem sT3 : ScT Try.prog 3 := ⟨fun w => by kernel_rfl, fun w => by kernel_rfl⟩
theorem eT27_info : (Try.prog.info? 3).map (fun i => (i.zero, i.size, i.bytes)) = some (some (.int .i64 0), 1, 8) := by kernel_rfl
theorem eT27 : ElemT Try.prog 27 3 8 := ⟨by kernel_rfl, by
  obtain ⟨i, h1, h2, h3, h4⟩ := info_parts eT27_info
  exact ⟨i, _, h1, h2, h3, h4, rfl⟩⟩
theorem us27 : Try.prog.underlying 27 = some (.slice 3) := by kernel_rfl
theorem aT117_agg (w : World) : (isAgg 117).run Try.prog w = .ok true w := by kernel_rfl
theorem aT117_size (w : World) : (sizeOf 117).run Try.prog w = .ok 2 w := by kernel_rfl
theorem aT117_zero (w : World) : (zeroValue 117).run Try.prog w = .ok (.agg #[.int .i64 0, .int .i64 0]) w := by kernel_rfl
theorem aT117 : AggT Try.prog 117 2 #[.int .i64 0, .int .i64 0] := ⟨aT117_agg, aT117_size, aT117_zero, by first | rfl | decide⟩
theorem fa117_0_0 (g : Nat) (w : World) : (Instr.fieldAt 117 (.pointer (some ⟨g, 0, none⟩)) 0).run Try.prog w = .ok (.pointer (some ⟨g, 0, none⟩)) w := by kernel_rfl
theorem fa117_1_0 (g : Nat) (w : World) : (Instr.fieldAt 117 (.pointer (some ⟨g, 0, none⟩)) 1).run Try.prog w = .ok (.pointer (some ⟨g, 1, none⟩)) w := by kernel_rfl
def i_men_Other.f (a0 : Int) : Option (Int) := if a0 = 0 then (some (wrap64 (1 - a0))) else (if a0 = 1 then (some (wrap64 (1 - a0))) else (some (-1)))
set_option maxHeartbeats 40000000 in
set_option maxRecDepth 100000 in
theorem i_men_Other.calls (a0 : Int) (r1 : Int) (w : World) (h : i_men_Other.f a0 = some r1) :
    Calls Try.prog 62 #[.int .i64 a0] w fun e w' => e = .returned (.int .i64 r1) ∧ w = w' := by
 have H : (if a0 = 0 then (some (wrap64 (1 - a0))) else (if a0 = 1 then (some (wrap64 (1 - a0))) else (some (-1)))) = some r1 := h
 clear h
 by_cases c1 : a0 = 0
 ·
  rw [if_pos c1] at H
  have c1b0 : (a0 == 0) = true := beq_iff_eq.mpr c1
  have c1b1 : (a0 != 0) = false := bne_eq_false_iff_eq.mpr c1
  have hc1 := hid c1
  clear c1
  obtain rfl := Option.some.inj H
  clear H
  go_enter Try.func62, Try.ntmps62
  go_wp2_with fail
  (try simp only [Act.put, sI, sZ, sS])
  go_ret
  exact ⟨by first | rfl | (simp; done) | (simp [*]; done), rfl⟩
 ·
  rw [if_neg c1] at H
  have c1b0 : (a0 == 0) = false := beq_eq_false_iff_ne.mpr c1
  have c1b1 : (a0 != 0) = true := bne_iff_ne.mpr c1
  have hc1 := hid c1
  clear c1
  by_cases c2 : a0 = 1
  ·
   rw [if_pos c2] at H
   have c2b0 : (a0 == 1) = true := beq_iff_eq.mpr c2
   have c2b1 : (a0 != 1) = false := bne_eq_false_iff_eq.mpr c2
   have hc2 := hid c2
   clear c2
   obtain rfl := Option.some.inj H
   clear H
   go_enter Try.func62, Try.ntmps62
   go_wp2_with fail
   (try simp only [Act.put, sI, sZ, sS])
   go_ret
   exact ⟨by first | rfl | (simp; done) | (simp [*]; done), rfl⟩
  ·
   rw [if_neg c2] at H
   have c2b0 : (a0 == 1) = false := beq_eq_false_iff_ne.mpr c2
   have c2b1 : (a0 != 1) = true := bne_iff_ne.mpr c2
   have hc2 := hid c2
   clear c2
   obtain rfl := Option.some.inj H
   clear H
   go_enter Try.func62, Try.ntmps62
   go_wp2_with fail
   (try simp only [Act.put, sI, sZ, sS])
   go_ret
   exact ⟨by first | rfl | (simp; done) | (simp [*]; done), rfl⟩
def i_men_Right.f (a0 : Int) : Option (Bool) := if a0 = 0 then (some false) else (if a0 ≥ (-6) then (some (decide (a0 ≤ 6))) else (some false))
set_option maxHeartbeats 40000000 in
set_option maxRecDepth 100000 in
theorem i_men_Right.calls (a0 : Int) (r1 : Bool) (w : World) (h : i_men_Right.f a0 = some r1) :
    Calls Try.prog 52 #[.int .i64 a0] w fun e w' => e = .returned (.bool r1) ∧ w = w' := by
 have H : (if a0 = 0 then (some false) else (if a0 ≥ (-6) then (some (decide (a0 ≤ 6))) else (some false))) = some r1 := h
 clear h
 by_cases c1 : a0 = 0
 ·
  rw [if_pos c1] at H
  have c1b0 : (a0 == 0) = true := beq_iff_eq.mpr c1
  have c1b1 : (a0 != 0) = false := bne_eq_false_iff_eq.mpr c1
  have hc1 := hid c1
  clear c1
  obtain rfl := Option.some.inj H
  clear H
  go_enter Try.func52, Try.ntmps52
  go_wp2_with fail
  (try simp only [Act.put, sI, sZ, sS])
  go_ret
  exact ⟨by first | rfl | (simp; done) | (simp [*]; done), rfl⟩
 ·
  rw [if_neg c1] at H
  have c1b0 : (a0 == 0) = false := beq_eq_false_iff_ne.mpr c1
  have c1b1 : (a0 != 0) = true := bne_iff_ne.mpr c1
  have hc1 := hid c1
  clear c1
  by_cases c2 : a0 ≥ (-6)
  ·
   rw [if_pos c2] at H
   have c2b0 : decide ((-6) ≤ a0) = true := decide_eq_true c2
   have hc2 := hid c2
   clear c2
   obtain rfl := Option.some.inj H
   clear H
   go_enter Try.func52, Try.ntmps52
   go_wp2_with fail
   (try simp only [Act.put, sI, sZ, sS])
   go_ret
   exact ⟨by first | rfl | (simp; done) | (simp [*]; done), rfl⟩
  ·
   rw [if_neg c2] at H
   have c2b0 : decide ((-6) ≤ a0) = false := decide_eq_false c2
   have hc2 := hid c2
   clear c2
   obtain rfl := Option.some.inj H
   clear H
   go_enter Try.func52, Try.ntmps52
   go_wp2_with fail
   (try simp only [Act.put, sI, sZ, sS])
   go_ret
   exact ⟨by first | rfl | (simp; done) | (simp [*]; done), rfl⟩
def i_board_Right.l0 : Nat → List Int → Int → Option (Bool)
  | 0, _, _ => none
  | k + 1, a0, x6_0 => if x6_0 < 64 then (if 0 ≤ x6_0 then (if (nt a0 x6_0.toNat 0) = 0 then (i_board_Right.l0 k a0 (wrap64 (x6_0 + 1))) else ((i_men_Right.f (wrap64 (nt a0 x6_0.toNat 0))).bind fun t3 => (if t3 = true then (i_board_Right.l0 k a0 (wrap64 (x6_0 + 1))) else (some false)))) else (none)) else (some true)
def i_board_Right.f (k : Nat) (a0 : List Int) : Option (Bool) := i_board_Right.l0 k a0 0
set_option maxHeartbeats 40000000 in
set_option maxRecDepth 100000 in
theorem i_board_Right.calls (k : Nat) (a0 : List Int) (hla0 : a0.length = 64) (r1 : Bool) (w : World) (h : i_board_Right.f k a0 = some r1) :
    Calls Try.prog 99 #[.agg (bv a0)] w fun e w' => e = .returned (.bool r1) ∧ Below w.heap.size w w' := by
 have LN_a0 := hid hla0
 clear hla0
 have HL := hid (Below.refl w.heap.size w)
 have H : (i_board_Right.l0 k a0 0) = some r1 := h
 clear h
 have H' := hid H
 clear H
 go_enter Try.func99, Try.ntmps99
 go_wp2_with (first
  | ((with_reducible refine gate_d (N := 1) rfl ?_); obtain ⟨gb1, hgb1⟩ : ∃ g_, w.heap.size = g_ := ⟨_, rfl⟩; refine ag_box (bv a0) gb1 hgb1 rfl _ rfl rfl ?_; intro w4 hb_ hB_ hs_; have GEb1 : Hid (w.heap.size ≤ gb1) := hid (by have := HL.out.size; omega); replace HL := hid (HL.out.trans (hb_.mono GEb1.out)); have BKb1 := hid hB_; clear hb_ hB_ hs_ hgb1)
  | ((with_reducible refine gate_d (N := 5) rfl ?_); refine ag_fix (.agg (bv a0)) (ex_load boardT gb1 0 (bv a0) (bv a0) BKb1.out (av_le LN_a0.out) (av_ex LN_a0.out) _ rfl rfl) rfl ?_))
 (try simp only [Act.put, sI, sZ, sS])
 go_loopg [6] k (fun kq v6 w' => ∃ (x6_0 : Int), v6 = .int .i64 x6_0 ∧ Hid (i_board_Right.l0 kq a0 x6_0 = some r1) ∧ Hid (kq ≤ k) ∧ Hid (Blk w' gb1 44 (bv a0)) ∧ Hid (Below w.heap.size w w'))
 case atStart => exact ⟨(0 : Int), (by first | rfl | (simp; done) | (simp [*]; done)), H', (hid (by first | omega | (omega))), (hid (by exact BKb1.out)), HL⟩
 case round =>
  clear H'
  clear HL BKb1
  obtain ⟨x6_0, rfl, HA, HK5, BKb1, HL⟩ := hrel
  cases gk with
  | zero => exact absurd HA.out (by simp [i_board_Right.l0])
  | succ k6 =>
   have H := HA.out
   clear HA
   simp only [i_board_Right.l0] at H
   by_cases c7 : x6_0 < 64
   ·
    rw [if_pos c7] at H
    have c7b0 : decide (x6_0 < 64) = true := decide_eq_true c7
    have hc7 := hid c7
    clear c7
    by_cases c8 : 0 ≤ x6_0
    ·
     rw [if_pos c8] at H
     have c8b0 : decide (0 ≤ x6_0) = true := decide_eq_true c8
     have hc8 := hid c8
     clear c8
     by_cases c9 : (nt a0 x6_0.toNat 0) = 0
     ·
      rw [if_pos c9] at H
      have c9b0 : ((nt a0 x6_0.toNat 0) == 0) = true := beq_iff_eq.mpr c9
      have c9b1 : ((nt a0 x6_0.toNat 0) != 0) = false := bne_eq_false_iff_eq.mpr c9
      have hc9 := hid c9
      clear c9
      have H' := hid H
      clear H
      go_wp2_with (first
       | ((with_reducible refine gate_d (N := 8) rfl ?_); refine ag_fix (.int .i8 (nt a0 x6_0.toNat 0)) (ex_ix 44 (.agg (bv a0)) (.int .i64 x6_0) (.int .i8 (nt a0 x6_0.toNat 0)) (fun w_ => run_ixv 42 uT44 sT42 a0 LN_a0.out 0 x6_0 hc8.out hc7.out w_) _ _ rfl rfl rfl) rfl ?_))
      (try simp only [Act.put, sI, sZ, sS])
      go_roundg k6
      case measure => have := HK5.out; omega
      case rel => exact ⟨wrap64 (x6_0 + 1), (by first | rfl | (simp; done) | (simp [*]; done)), H', (hid (by first | omega | (have := HK5.out; omega))), (hid (by exact BKb1.out)), HL⟩
     ·
      rw [if_neg c9] at H
      have c9b0 : ((nt a0 x6_0.toNat 0) == 0) = false := beq_eq_false_iff_ne.mpr c9
      have c9b1 : ((nt a0 x6_0.toNat 0) != 0) = true := bne_iff_ne.mpr c9
      have hc9 := hid c9
      clear c9
      replace H := Option.bind_eq_some_iff.mp H
      obtain ⟨t3, A10_, H⟩ := H
      have A10 := hid A10_
      clear A10_
      cases t3 with
      | true =>
       rw [if_pos rfl] at H
       have H' := hid H
       clear H
       have k12 := True.intro
       go_wp2_with (first
        | ((with_reducible refine gate_d (N := 8) rfl ?_); refine ag_fix (.int .i8 (nt a0 x6_0.toNat 0)) (ex_ix 44 (.agg (bv a0)) (.int .i64 x6_0) (.int .i8 (nt a0 x6_0.toNat 0)) (fun w_ => run_ixv 42 uT44 sT42 a0 LN_a0.out 0 x6_0 hc8.out hc7.out w_) _ _ rfl rfl rfl) rfl ?_)
        | (go_at_call 52; clear k12; refine (i_men_Right.calls (wrap64 (nt a0 x6_0.toNat 0)) true _ A10.out).mono ?_; rintro e_ w' ⟨rfl, rfl⟩))
       (try simp only [Act.put, sI, sZ, sS])
       go_roundg k6
       case measure => have := HK5.out; omega
       case rel => exact ⟨wrap64 (x6_0 + 1), (by first | rfl | (simp; done) | (simp [*]; done)), H', (hid (by first | omega | (have := HK5.out; omega))), (hid (by exact BKb1.out)), HL⟩
      | false =>
       rw [if_neg (show ¬ (false = true) by decide)] at H
       obtain rfl := Option.some.inj H
       clear H
       have k13 := True.intro
       go_wp2_with (first
        | ((with_reducible refine gate_d (N := 8) rfl ?_); refine ag_fix (.int .i8 (nt a0 x6_0.toNat 0)) (ex_ix 44 (.agg (bv a0)) (.int .i64 x6_0) (.int .i8 (nt a0 x6_0.toNat 0)) (fun w_ => run_ixv 42 uT44 sT42 a0 LN_a0.out 0 x6_0 hc8.out hc7.out w_) _ _ rfl rfl rfl) rfl ?_)
        | (go_at_call 52; clear k13; refine (i_men_Right.calls (wrap64 (nt a0 x6_0.toNat 0)) false _ A10.out).mono ?_; rintro e_ w' ⟨rfl, rfl⟩))
       (try simp only [Act.put, sI, sZ, sS])
       go_ret
       exact ⟨by first | rfl | (simp; done) | (simp [*]; done), HL.out⟩
    ·
     rw [if_neg c8] at H
     exact absurd H (by simp)
   ·
    rw [if_neg c7] at H
    have c7b0 : decide (x6_0 < 64) = false := decide_eq_false c7
    have hc7 := hid c7
    clear c7
    obtain rfl := Option.some.inj H
    clear H
    go_wp2_with fail
    (try simp only [Act.put, sI, sZ, sS])
    go_ret
    exact ⟨by first | rfl | (simp; done) | (simp [*]; done), HL.out⟩
def i_count_known.f (k : Nat) (a0 : List Int) (a1 : Int) : Option (Bool) := (i_board_Right.f k a0).bind fun t2 => (if t2 = true then ((i_men_Other.f a1).bind fun t3 => (some (decide (t3 ≥ 0)))) else (some false))
set_option maxHeartbeats 40000000 in
set_option maxRecDepth 100000 in
theorem i_count_known.calls (k : Nat) (a0 : List Int) (a1 : Int) (hla0 : a0.length = 64) (r1 : Bool) (w : World) (h : i_count_known.f k a0 a1 = some r1) :
    Calls Try.prog 66 #[.agg (bv a0), .int .i64 a1] w fun e w' => e = .returned (.bool r1) ∧ Below w.heap.size w w' := by
 have LN_a0 := hid hla0
 clear hla0
 have HL := hid (Below.refl w.heap.size w)
 have H : ((i_board_Right.f k a0).bind fun t2 => (if t2 = true then ((i_men_Other.f a1).bind fun t3 => (some (decide (t3 ≥ 0)))) else (some false))) = some r1 := h
 clear h
 replace H := Option.bind_eq_some_iff.mp H
 obtain ⟨t2, A4_, H⟩ := H
 have A4 := hid A4_
 clear A4_
 cases t2 with
 | true =>
  rw [if_pos rfl] at H
  replace H := Option.bind_eq_some_iff.mp H
  obtain ⟨t3, A6_, H⟩ := H
  have A6 := hid A6_
  clear A6_
  obtain rfl := Option.some.inj H
  clear H
  go_enter Try.func66, Try.ntmps66
  have k8 := True.intro
  have k10 := True.intro
  go_wp2_with (first
   | ((with_reducible refine gate_d (N := 2) rfl ?_); obtain ⟨gb1, hgb1⟩ : ∃ g_, w.heap.size = g_ := ⟨_, rfl⟩; refine ag_box (bv a0) gb1 hgb1 rfl _ rfl rfl ?_; intro w7 hb_ hB_ hs_; have GEb1 : Hid (w.heap.size ≤ gb1) := hid (by have := HL.out.size; omega); replace HL := hid (HL.out.trans (hb_.mono GEb1.out)); have BKb1 := hid hB_; clear hb_ hB_ hs_ hgb1)
   | ((with_reducible refine gate_d (N := 5) rfl ?_); refine ag_fix (.agg (bv a0)) (ex_load boardT gb1 0 (bv a0) (bv a0) BKb1.out (av_le LN_a0.out) (av_ex LN_a0.out) _ rfl rfl) rfl ?_)
   | (go_at_call 99; clear k8; refine (i_board_Right.calls k a0 LN_a0.out true _ A4.out).mono ?_; rintro e_ w9 ⟨rfl, hb_⟩; replace BKb1 := hid (BKb1.out.below hb_ BKb1.out.lt); replace HL := hid (HL.out.trans (hb_.mono HL.out.size)); clear hb_)
   | (go_at_call 62; clear k10; refine (i_men_Other.calls a1 t3 _ A6.out).mono ?_; rintro e_ w' ⟨rfl, rfl⟩))
  (try simp only [Act.put, sI, sZ, sS])
  go_ret
  exact ⟨by first | rfl | (simp; done) | (simp [*]; done), HL.out⟩
 | false =>
  rw [if_neg (show ¬ (false = true) by decide)] at H
  obtain rfl := Option.some.inj H
  clear H
  go_enter Try.func66, Try.ntmps66
  have k12 := True.intro
  go_wp2_with (first
   | ((with_reducible refine gate_d (N := 2) rfl ?_); obtain ⟨gb1, hgb1⟩ : ∃ g_, w.heap.size = g_ := ⟨_, rfl⟩; refine ag_box (bv a0) gb1 hgb1 rfl _ rfl rfl ?_; intro w11 hb_ hB_ hs_; have GEb1 : Hid (w.heap.size ≤ gb1) := hid (by have := HL.out.size; omega); replace HL := hid (HL.out.trans (hb_.mono GEb1.out)); have BKb1 := hid hB_; clear hb_ hB_ hs_ hgb1)
   | ((with_reducible refine gate_d (N := 5) rfl ?_); refine ag_fix (.agg (bv a0)) (ex_load boardT gb1 0 (bv a0) (bv a0) BKb1.out (av_le LN_a0.out) (av_ex LN_a0.out) _ rfl rfl) rfl ?_)
   | (go_at_call 99; clear k12; refine (i_board_Right.calls k a0 LN_a0.out false _ A4.out).mono ?_; rintro e_ w13 ⟨rfl, hb_⟩; replace BKb1 := hid (BKb1.out.below hb_ BKb1.out.lt); replace HL := hid (HL.out.trans (hb_.mono HL.out.size)); clear hb_))
  (try simp only [Act.put, sI, sZ, sS])
  go_ret
  exact ⟨by first | rfl | (simp; done) | (simp [*]; done), HL.out⟩
def i_board_Where.l0 : Nat → List Int → Int → List Int → Int → Option ((List Int))
  | 0, _, _, _, _ => none
  | k + 1, a0, a1, x5_0, x9_0 => if x9_0 < 64 then (if 0 ≤ x9_0 then (if (wrap64 (nt a0 x9_0.toNat 0)) = a1 then (if x5_0.length < 17592186044416 then (i_board_Where.l0 k a0 a1 (x5_0 ++ [x9_0]) (wrap64 (x9_0 + 1))) else (none)) else (i_board_Where.l0 k a0 a1 x5_0 (wrap64 (x9_0 + 1)))) else (none)) else (some x5_0)
def i_board_Where.f (k : Nat) (a0 : List Int) (a1 : Int) : Option ((List Int)) := i_board_Where.l0 k a0 a1 ([] : List Int) 0
def i_board_Where.post (r1 : List Int) (w : World) (e : Ending) (w' : World) : Prop := ∃ (u_r1 : Value), e = .returned (u_r1) ∧ Own w' w.heap.size 3 (u_r1) (r1.map (Value.int .i64)) ∧ Below w.heap.size w w'
set_option maxHeartbeats 40000000 in
set_option maxRecDepth 100000 in
theorem i_board_Where.calls (k : Nat) (a0 : List Int) (a1 : Int) (hla0 : a0.length = 64) (r1 : List Int) (w : World) (h : i_board_Where.f k a0 a1 = some r1) :
    Calls Try.prog 67 #[.agg (bv a0), .int .i64 a1] w (i_board_Where.post r1 w) := by
 have LN_a0 := hid hla0
 clear hla0
 have HL := hid (Below.refl w.heap.size w)
 have H : (i_board_Where.l0 k a0 a1 ([] : List Int) 0) = some r1 := h
 clear h
 have H' := hid H
 clear H
 go_enter Try.func67, Try.ntmps67
 go_wp2_with (first
  | ((with_reducible refine gate_d (N := 2) rfl ?_); obtain ⟨gb1, hgb1⟩ : ∃ g_, w.heap.size = g_ := ⟨_, rfl⟩; refine ag_box (bv a0) gb1 hgb1 rfl _ rfl rfl ?_; intro w6 hb_ hB_ hs_; have GEb1 : Hid (w.heap.size ≤ gb1) := hid (by have := HL.out.size; omega); replace HL := hid (HL.out.trans (hb_.mono GEb1.out)); have BKb1 := hid hB_; clear hb_ hB_ hs_ hgb1)
  | ((with_reducible refine gate_d (N := 8) rfl ?_); refine ag_fix (.agg (bv a0)) (ex_load boardT gb1 0 (bv a0) (bv a0) BKb1.out (av_le LN_a0.out) (av_ex LN_a0.out) _ rfl rfl) rfl ?_))
 (try simp only [Act.put, sI, sZ, sS])
 go_loopg [5, 9] k (fun kq v5 v9 w' => ∃ (x5_0 : List Int) (ux5_0 : Value) (x9_0 : Int), ux5_0 = v5 ∧ v9 = .int .i64 x9_0 ∧ Hid (i_board_Where.l0 kq a0 a1 x5_0 x9_0 = some r1) ∧ Hid (kq ≤ k) ∧ Hid (Blk w' gb1 44 (bv a0)) ∧ Hid (Own w' w.heap.size 3 (ux5_0) (x5_0.map (Value.int .i64))) ∧ Hid (Below w.heap.size w w'))
 case atStart => exact ⟨([] : List Int), (.slice none 0 0), (0 : Int), (by first | rfl | (simp; done) | (simp [*]; done)), (by first | rfl | (simp; done) | (simp [*]; done)), H', (hid (by first | omega | (omega))), (hid (by exact BKb1.out)), (hid (Own.nil _ _ _)), HL⟩
 case round =>
  clear H'
  clear HL BKb1
  obtain ⟨x5_0, ux5_0, x9_0, rfl, rfl, HA, HK7, BKb1, SWx5_0, HL⟩ := hrel
  cases gk with
  | zero => exact absurd HA.out (by simp [i_board_Where.l0])
  | succ k8 =>
   have H := HA.out
   clear HA
   simp only [i_board_Where.l0] at H
   by_cases c9 : x9_0 < 64
   ·
    rw [if_pos c9] at H
    have c9b0 : decide (x9_0 < 64) = true := decide_eq_true c9
    have hc9 := hid c9
    clear c9
    by_cases c10 : 0 ≤ x9_0
    ·
     rw [if_pos c10] at H
     have c10b0 : decide (0 ≤ x9_0) = true := decide_eq_true c10
     have hc10 := hid c10
     clear c10
     by_cases c11 : (wrap64 (nt a0 x9_0.toNat 0)) = a1
     ·
      rw [if_pos c11] at H
      have c11b0 : ((wrap64 (nt a0 x9_0.toNat 0)) == a1) = true := beq_iff_eq.mpr c11
      have c11b1 : ((wrap64 (nt a0 x9_0.toNat 0)) != a1) = false := bne_eq_false_iff_eq.mpr c11
      have hc11 := hid c11
      clear c11
      by_cases c12 : x5_0.length < 17592186044416
      ·
       rw [if_pos c12] at H
       have c12b0 : decide (x5_0.length < 17592186044416) = true := decide_eq_true c12
       have hc12 := hid c12
       clear c12
       have H' := hid H
       clear H
       have k15 := True.intro
       go_wp2_with (first
        | ((with_reducible refine gate_d (N := 12) rfl ?_); refine ag_fix (.int .i8 (nt a0 x9_0.toNat 0)) (ex_ix 44 (.agg (bv a0)) (.int .i64 x9_0) (.int .i8 (nt a0 x9_0.toNat 0)) (fun w_ => run_ixv 42 uT44 sT42 a0 LN_a0.out 0 x9_0 hc10.out hc9.out w_) _ _ rfl rfl rfl) rfl ?_)
        | ((with_reducible refine gate_d (N := 19) rfl ?_); obtain ⟨gb4, hgb4⟩ : ∃ g_, wr.heap.size = g_ := ⟨_, rfl⟩; refine ag_lit sT3 (.int .i64 x9_0) gb4 hgb4 rfl _ rfl rfl (fun w_ => by kernel_rfl) ?_; intro w13 hb_ hB_ hs_; have GEb4 : Hid (w.heap.size ≤ gb4) := hid (by have := HL.out.size; omega); have NBb1_b4 : Hid (gb1 ≠ gb4) := hid (by have := BKb1.out.lt; omega); have NBb4_b1 : Hid (gb4 ≠ gb1) := hid (by have := NBb1_b4.out; omega); replace BKb1 := hid (BKb1.out.below hb_ (by rw [← hgb4]; exact BKb1.out.lt)); replace SWx5_0 := hid (SWx5_0.out.below (by rw [hgb4]; exact hb_)); replace HL := hid (HL.out.trans (hb_.mono GEb4.out)); have BKb4 := hid hB_; clear hb_ hB_ hs_ hgb4)
        | (at_builtin; clear k15; refine app_one eT27 w.heap.size (ux5_0) (x5_0.map (Value.int .i64)) (.int .i64 x9_0) gb4 1 SWx5_0.out BKb4.out rfl (by have h_ := hc12.out; rw [List.length_map]; omega) (by have h_ := hc12.out; rw [List.length_map]; unfold maxLen; omega) HL.out.size rfl _ _ rfl rfl rfl ?_; intro uo5 w14 ho_ hb_ hk_ hi_; clear SWx5_0; have SWo5 : Hid (Own w14 w.heap.size 3 (uo5) ((x5_0 ++ [x9_0]).map (Value.int .i64))) := hid (by rw [List.map_append]; exact ho_); replace BKb1 := hid (hk_ _ _ _ (by decide) BKb1.out); replace HL := hid (HL.out.trans hb_); clear ho_ hb_ hk_ hi_ BKb4))
       (try simp only [Act.put, sI, sZ, sS])
       go_roundg k8
       case measure => have := HK7.out; omega
       case rel => exact ⟨x5_0 ++ [x9_0], (uo5), wrap64 (x9_0 + 1), (by first | rfl | (simp; done) | (simp [*]; done)), (by first | rfl | (simp; done) | (simp [*]; done)), H', (hid (by first | omega | (have := HK7.out; omega))), (hid (by exact BKb1.out)), SWo5, HL⟩
      ·
       rw [if_neg c12] at H
       exact absurd H (by simp)
     ·
      rw [if_neg c11] at H
      have c11b0 : ((wrap64 (nt a0 x9_0.toNat 0)) == a1) = false := beq_eq_false_iff_ne.mpr c11
      have c11b1 : ((wrap64 (nt a0 x9_0.toNat 0)) != a1) = true := bne_iff_ne.mpr c11
      have hc11 := hid c11
      clear c11
      have H' := hid H
      clear H
      go_wp2_with (first
       | ((with_reducible refine gate_d (N := 12) rfl ?_); refine ag_fix (.int .i8 (nt a0 x9_0.toNat 0)) (ex_ix 44 (.agg (bv a0)) (.int .i64 x9_0) (.int .i8 (nt a0 x9_0.toNat 0)) (fun w_ => run_ixv 42 uT44 sT42 a0 LN_a0.out 0 x9_0 hc10.out hc9.out w_) _ _ rfl rfl rfl) rfl ?_))
      (try simp only [Act.put, sI, sZ, sS])
      go_roundg k8
      case measure => have := HK7.out; omega
      case rel => exact ⟨x5_0, (ux5_0), wrap64 (x9_0 + 1), (by first | rfl | (simp; done) | (simp [*]; done)), (by first | rfl | (simp; done) | (simp [*]; done)), H', (hid (by first | omega | (have := HK7.out; omega))), (hid (by exact BKb1.out)), SWx5_0, HL⟩
    ·
     rw [if_neg c10] at H
     exact absurd H (by simp)
   ·
    rw [if_neg c9] at H
    have c9b0 : decide (x9_0 < 64) = false := decide_eq_false c9
    have hc9 := hid c9
    clear c9
    obtain rfl := Option.some.inj H
    clear H
    go_wp2_with fail
    (try simp only [Act.put, sI, sZ, sS])
    go_ret
    exact ⟨_, rfl, (by exact SWx5_0.out), HL.out⟩
def i_men_Make.f (a0 : Int) (a1 : Int) : Option (Int) := if a0 < 1 then (some 0) else (if a0 > 6 then (some 0) else (if a1 = 0 then (some a0) else (if a1 = 1 then (some (wrap64 (-a0))) else (some 0))))
set_option maxHeartbeats 40000000 in
set_option maxRecDepth 100000 in
theorem i_men_Make.calls (a0 : Int) (a1 : Int) (r1 : Int) (w : World) (h : i_men_Make.f a0 a1 = some r1) :
    Calls Try.prog 68 #[.int .i64 a0, .int .i64 a1] w fun e w' => e = .returned (.int .i64 r1) ∧ w = w' := by
 have H : (if a0 < 1 then (some 0) else (if a0 > 6 then (some 0) else (if a1 = 0 then (some a0) else (if a1 = 1 then (some (wrap64 (-a0))) else (some 0))))) = some r1 := h
 clear h
 by_cases c1 : a0 < 1
 ·
  rw [if_pos c1] at H
  have c1b0 : decide (a0 < 1) = true := decide_eq_true c1
  have hc1 := hid c1
  clear c1
  obtain rfl := Option.some.inj H
  clear H
  go_enter Try.func68, Try.ntmps68
  go_wp2_with fail
  (try simp only [Act.put, sI, sZ, sS])
  go_ret
  exact ⟨by first | rfl | (simp; done) | (simp [*]; done), rfl⟩
 ·
  rw [if_neg c1] at H
  have c1b0 : decide (a0 < 1) = false := decide_eq_false c1
  have hc1 := hid c1
  clear c1
  by_cases c2 : a0 > 6
  ·
   rw [if_pos c2] at H
   have c2b0 : decide (6 < a0) = true := decide_eq_true c2
   have hc2 := hid c2
   clear c2
   obtain rfl := Option.some.inj H
   clear H
   go_enter Try.func68, Try.ntmps68
   go_wp2_with fail
   (try simp only [Act.put, sI, sZ, sS])
   go_ret
   exact ⟨by first | rfl | (simp; done) | (simp [*]; done), rfl⟩
  ·
   rw [if_neg c2] at H
   have c2b0 : decide (6 < a0) = false := decide_eq_false c2
   have hc2 := hid c2
   clear c2
   by_cases c3 : a1 = 0
   ·
    rw [if_pos c3] at H
    have c3b0 : (a1 == 0) = true := beq_iff_eq.mpr c3
    have c3b1 : (a1 != 0) = false := bne_eq_false_iff_eq.mpr c3
    have hc3 := hid c3
    clear c3
    obtain rfl := Option.some.inj H
    clear H
    go_enter Try.func68, Try.ntmps68
    go_wp2_with fail
    (try simp only [Act.put, sI, sZ, sS])
    go_ret
    exact ⟨by first | rfl | (simp; done) | (simp [*]; done), rfl⟩
   ·
    rw [if_neg c3] at H
    have c3b0 : (a1 == 0) = false := beq_eq_false_iff_ne.mpr c3
    have c3b1 : (a1 != 0) = true := bne_iff_ne.mpr c3
    have hc3 := hid c3
    clear c3
    by_cases c4 : a1 = 1
    ·
     rw [if_pos c4] at H
     have c4b0 : (a1 == 1) = true := beq_iff_eq.mpr c4
     have c4b1 : (a1 != 1) = false := bne_eq_false_iff_eq.mpr c4
     have hc4 := hid c4
     clear c4
     obtain rfl := Option.some.inj H
     clear H
     go_enter Try.func68, Try.ntmps68
     go_wp2_with fail
     (try simp only [Act.put, sI, sZ, sS])
     go_ret
     exact ⟨by first | rfl | (simp; done) | (simp [*]; done), rfl⟩
    ·
     rw [if_neg c4] at H
     have c4b0 : (a1 == 1) = false := beq_eq_false_iff_ne.mpr c4
     have c4b1 : (a1 != 1) = true := bne_iff_ne.mpr c4
     have hc4 := hid c4
     clear c4
     obtain rfl := Option.some.inj H
     clear H
     go_enter Try.func68, Try.ntmps68
     go_wp2_with fail
     (try simp only [Act.put, sI, sZ, sS])
     go_ret
     exact ⟨by first | rfl | (simp; done) | (simp [*]; done), rfl⟩
def i_square_Right.f (a0 : Int) : Option (Bool) := if a0 ≥ 0 then (some (decide (a0 < 64))) else (some false)
set_option maxHeartbeats 40000000 in
set_option maxRecDepth 100000 in
theorem i_square_Right.calls (a0 : Int) (r1 : Bool) (w : World) (h : i_square_Right.f a0 = some r1) :
    Calls Try.prog 53 #[.int .i64 a0] w fun e w' => e = .returned (.bool r1) ∧ w = w' := by
 have H : (if a0 ≥ 0 then (some (decide (a0 < 64))) else (some false)) = some r1 := h
 clear h
 by_cases c1 : a0 ≥ 0
 ·
  rw [if_pos c1] at H
  have c1b0 : decide (0 ≤ a0) = true := decide_eq_true c1
  have hc1 := hid c1
  clear c1
  obtain rfl := Option.some.inj H
  clear H
  go_enter Try.func53, Try.ntmps53
  go_wp2_with fail
  (try simp only [Act.put, sI, sZ, sS])
  go_ret
  exact ⟨by first | rfl | (simp; done) | (simp [*]; done), rfl⟩
 ·
  rw [if_neg c1] at H
  have c1b0 : decide (0 ≤ a0) = false := decide_eq_false c1
  have hc1 := hid c1
  clear c1
  obtain rfl := Option.some.inj H
  clear H
  go_enter Try.func53, Try.ntmps53
  go_wp2_with fail
  (try simp only [Act.put, sI, sZ, sS])
  go_ret
  exact ⟨by first | rfl | (simp; done) | (simp [*]; done), rfl⟩
def i_square_Rank.f (a0 : Int) : Option (Int) := (i_square_Right.f a0).bind fun t1 => (if t1 = true then (some (wrap64 (Int.tdiv a0 8))) else (some (-1)))
set_option maxHeartbeats 40000000 in
set_option maxRecDepth 100000 in
theorem i_square_Rank.calls (a0 : Int) (r1 : Int) (w : World) (h : i_square_Rank.f a0 = some r1) :
    Calls Try.prog 103 #[.int .i64 a0] w fun e w' => e = .returned (.int .i64 r1) ∧ w = w' := by
 have H : ((i_square_Right.f a0).bind fun t1 => (if t1 = true then (some (wrap64 (Int.tdiv a0 8))) else (some (-1)))) = some r1 := h
 clear h
 replace H := Option.bind_eq_some_iff.mp H
 obtain ⟨t1, A2_, H⟩ := H
 have A2 := hid A2_
 clear A2_
 cases t1 with
 | true =>
  rw [if_pos rfl] at H
  obtain rfl := Option.some.inj H
  clear H
  go_enter Try.func103, Try.ntmps103
  have k4 := True.intro
  go_wp2_with (first
   | (go_at_call 53; clear k4; refine (i_square_Right.calls a0 true _ A2.out).mono ?_; rintro e_ w' ⟨rfl, rfl⟩))
  (try simp only [Act.put, sI, sZ, sS])
  go_ret
  exact ⟨by first | rfl | (simp; done) | (simp [*]; done), rfl⟩
 | false =>
  rw [if_neg (show ¬ (false = true) by decide)] at H
  obtain rfl := Option.some.inj H
  clear H
  go_enter Try.func103, Try.ntmps103
  have k5 := True.intro
  go_wp2_with (first
   | (go_at_call 53; clear k5; refine (i_square_Right.calls a0 false _ A2.out).mono ?_; rintro e_ w' ⟨rfl, rfl⟩))
  (try simp only [Act.put, sI, sZ, sS])
  go_ret
  exact ⟨by first | rfl | (simp; done) | (simp [*]; done), rfl⟩
def i_square_File.f (a0 : Int) : Option (Int) := (i_square_Right.f a0).bind fun t1 => (if t1 = true then (some (Int.tmod a0 8)) else (some (-1)))
set_option maxHeartbeats 40000000 in
set_option maxRecDepth 100000 in
theorem i_square_File.calls (a0 : Int) (r1 : Int) (w : World) (h : i_square_File.f a0 = some r1) :
    Calls Try.prog 104 #[.int .i64 a0] w fun e w' => e = .returned (.int .i64 r1) ∧ w = w' := by
 have H : ((i_square_Right.f a0).bind fun t1 => (if t1 = true then (some (Int.tmod a0 8)) else (some (-1)))) = some r1 := h
 clear h
 replace H := Option.bind_eq_some_iff.mp H
 obtain ⟨t1, A2_, H⟩ := H
 have A2 := hid A2_
 clear A2_
 cases t1 with
 | true =>
  rw [if_pos rfl] at H
  obtain rfl := Option.some.inj H
  clear H
  go_enter Try.func104, Try.ntmps104
  have k4 := True.intro
  go_wp2_with (first
   | (go_at_call 53; clear k4; refine (i_square_Right.calls a0 true _ A2.out).mono ?_; rintro e_ w' ⟨rfl, rfl⟩))
  (try simp only [Act.put, sI, sZ, sS])
  go_ret
  exact ⟨by first | rfl | (simp; done) | (simp [*]; done), rfl⟩
 | false =>
  rw [if_neg (show ¬ (false = true) by decide)] at H
  obtain rfl := Option.some.inj H
  clear H
  go_enter Try.func104, Try.ntmps104
  have k5 := True.intro
  go_wp2_with (first
   | (go_at_call 53; clear k5; refine (i_square_Right.calls a0 false _ A2.out).mono ?_; rintro e_ w' ⟨rfl, rfl⟩))
  (try simp only [Act.put, sI, sZ, sS])
  go_ret
  exact ⟨by first | rfl | (simp; done) | (simp [*]; done), rfl⟩
def i_count_gone.f (a0 : Int) (a1 : Int) : Option (Int) := if a1 = 0 then ((i_square_Rank.f a0).bind fun t1 => (some (wrap64 (t1 - 1)))) else ((i_square_Rank.f a0).bind fun t2 => (some (wrap64 (6 - t2))))
set_option maxHeartbeats 40000000 in
set_option maxRecDepth 100000 in
theorem i_count_gone.calls (a0 : Int) (a1 : Int) (r1 : Int) (w : World) (h : i_count_gone.f a0 a1 = some r1) :
    Calls Try.prog 70 #[.int .i64 a0, .int .i64 a1] w fun e w' => e = .returned (.int .i64 r1) ∧ w = w' := by
 have H : (if a1 = 0 then ((i_square_Rank.f a0).bind fun t1 => (some (wrap64 (t1 - 1)))) else ((i_square_Rank.f a0).bind fun t2 => (some (wrap64 (6 - t2))))) = some r1 := h
 clear h
 by_cases c3 : a1 = 0
 ·
  rw [if_pos c3] at H
  have c3b0 : (a1 == 0) = true := beq_iff_eq.mpr c3
  have c3b1 : (a1 != 0) = false := bne_eq_false_iff_eq.mpr c3
  have hc3 := hid c3
  clear c3
  replace H := Option.bind_eq_some_iff.mp H
  obtain ⟨t1, A4_, H⟩ := H
  have A4 := hid A4_
  clear A4_
  obtain rfl := Option.some.inj H
  clear H
  go_enter Try.func70, Try.ntmps70
  have k5 := True.intro
  go_wp2_with (first
   | (go_at_call 103; clear k5; refine (i_square_Rank.calls a0 t1 _ A4.out).mono ?_; rintro e_ w' ⟨rfl, rfl⟩))
  (try simp only [Act.put, sI, sZ, sS])
  go_ret
  exact ⟨by first | rfl | (simp; done) | (simp [*]; done), rfl⟩
 ·
  rw [if_neg c3] at H
  have c3b0 : (a1 == 0) = false := beq_eq_false_iff_ne.mpr c3
  have c3b1 : (a1 != 0) = true := bne_iff_ne.mpr c3
  have hc3 := hid c3
  clear c3
  replace H := Option.bind_eq_some_iff.mp H
  obtain ⟨t2, A6_, H⟩ := H
  have A6 := hid A6_
  clear A6_
  obtain rfl := Option.some.inj H
  clear H
  go_enter Try.func70, Try.ntmps70
  have k7 := True.intro
  go_wp2_with (first
   | (go_at_call 103; clear k7; refine (i_square_Rank.calls a0 t2 _ A6.out).mono ?_; rintro e_ w' ⟨rfl, rfl⟩))
  (try simp only [Act.put, sI, sZ, sS])
  go_ret
  exact ⟨by first | rfl | (simp; done) | (simp [*]; done), rfl⟩
def i_count_away.f (a0 : Int) (a1 : Int) (a2 : Int) : Option (Int) := (i_square_File.f a0).bind fun t1 => ((i_square_File.f a0).bind fun t2 => (if (wrap64 (t1 - a2)) < (wrap64 (a2 - t2)) then ((i_count_gone.f a0 a1).bind fun t3 => (if (wrap64 (a2 - t2)) > t3 then (some 1048576) else (some (wrap64 (a2 - t2))))) else ((i_count_gone.f a0 a1).bind fun t4 => (if (wrap64 (t1 - a2)) > t4 then (some 1048576) else (some (wrap64 (t1 - a2)))))))
set_option maxHeartbeats 40000000 in
set_option maxRecDepth 100000 in
theorem i_count_away.calls (a0 : Int) (a1 : Int) (a2 : Int) (r1 : Int) (w : World) (h : i_count_away.f a0 a1 a2 = some r1) :
    Calls Try.prog 71 #[.int .i64 a0, .int .i64 a1, .int .i64 a2] w fun e w' => e = .returned (.int .i64 r1) ∧ w = w' := by
 have H : ((i_square_File.f a0).bind fun t1 => ((i_square_File.f a0).bind fun t2 => (if (wrap64 (t1 - a2)) < (wrap64 (a2 - t2)) then ((i_count_gone.f a0 a1).bind fun t3 => (if (wrap64 (a2 - t2)) > t3 then (some 1048576) else (some (wrap64 (a2 - t2))))) else ((i_count_gone.f a0 a1).bind fun t4 => (if (wrap64 (t1 - a2)) > t4 then (some 1048576) else (some (wrap64 (t1 - a2)))))))) = some r1 := h
 clear h
 replace H := Option.bind_eq_some_iff.mp H
 obtain ⟨t1, A5_, H⟩ := H
 have A5 := hid A5_
 clear A5_
 have H' := hid H
 clear H
 go_enter Try.func71, Try.ntmps71
 have k7 := True.intro
 go_wp2_with (first
  | (go_at_call 104; clear k7; refine (i_square_File.calls a0 t1 _ A5.out).mono ?_; rintro e_ w' ⟨rfl, rfl⟩))
 (try simp only [Act.put, sI, sZ, sS])
 have H := H'.out
 clear H'
 replace H := Option.bind_eq_some_iff.mp H
 obtain ⟨t2, A6_, H⟩ := H
 have A6 := hid A6_
 clear A6_
 by_cases c8 : (wrap64 (t1 - a2)) < (wrap64 (a2 - t2))
 ·
  rw [if_pos c8] at H
  have c8b0 : decide ((wrap64 (t1 - a2)) < (wrap64 (a2 - t2))) = true := decide_eq_true c8
  have c8b1 : (if (wrap64 (t1 - a2)) < (wrap64 (a2 - t2)) then (wrap64 (a2 - t2)) else (wrap64 (t1 - a2))) = (wrap64 (a2 - t2)) := if_pos c8
  have c8b2 : max (wrap64 (t1 - a2)) (wrap64 (a2 - t2)) = (wrap64 (a2 - t2)) := by omega
  have hc8 := hid c8
  clear c8
  have H' := hid H
  clear H
  have k10 := True.intro
  go_wp2_with (first
   | (go_at_call 104; clear k10; refine (i_square_File.calls a0 t2 _ A6.out).mono ?_; rintro e_ w' ⟨rfl, rfl⟩))
  (try simp only [Act.put, sI, sZ, sS])
  have H := H'.out
  clear H'
  replace H := Option.bind_eq_some_iff.mp H
  obtain ⟨t3, A9_, H⟩ := H
  have A9 := hid A9_
  clear A9_
  by_cases c11 : (wrap64 (a2 - t2)) > t3
  ·
   rw [if_pos c11] at H
   have c11b0 : decide (t3 < (wrap64 (a2 - t2))) = true := decide_eq_true c11
   have hc11 := hid c11
   clear c11
   obtain rfl := Option.some.inj H
   clear H
   have k12 := True.intro
   go_wp2_with (first
    | (go_at_call 70; clear k12; refine (i_count_gone.calls a0 a1 t3 _ A9.out).mono ?_; rintro e_ w' ⟨rfl, rfl⟩))
   (try simp only [Act.put, sI, sZ, sS])
   go_ret
   exact ⟨by first | rfl | (simp; done) | (simp [*]; done), rfl⟩
  ·
   rw [if_neg c11] at H
   have c11b0 : decide (t3 < (wrap64 (a2 - t2))) = false := decide_eq_false c11
   have hc11 := hid c11
   clear c11
   obtain rfl := Option.some.inj H
   clear H
   have k13 := True.intro
   go_wp2_with (first
    | (go_at_call 70; clear k13; refine (i_count_gone.calls a0 a1 t3 _ A9.out).mono ?_; rintro e_ w' ⟨rfl, rfl⟩))
   (try simp only [Act.put, sI, sZ, sS])
   go_ret
   exact ⟨by first | rfl | (simp; done) | (simp [*]; done), rfl⟩
 ·
  rw [if_neg c8] at H
  have c8b0 : decide ((wrap64 (t1 - a2)) < (wrap64 (a2 - t2))) = false := decide_eq_false c8
  have c8b1 : (if (wrap64 (t1 - a2)) < (wrap64 (a2 - t2)) then (wrap64 (a2 - t2)) else (wrap64 (t1 - a2))) = (wrap64 (t1 - a2)) := if_neg c8
  have c8b2 : max (wrap64 (t1 - a2)) (wrap64 (a2 - t2)) = (wrap64 (t1 - a2)) := by omega
  have hc8 := hid c8
  clear c8
  have H' := hid H
  clear H
  have k15 := True.intro
  go_wp2_with (first
   | (go_at_call 104; clear k15; refine (i_square_File.calls a0 t2 _ A6.out).mono ?_; rintro e_ w' ⟨rfl, rfl⟩))
  (try simp only [Act.put, sI, sZ, sS])
  have H := H'.out
  clear H'
  replace H := Option.bind_eq_some_iff.mp H
  obtain ⟨t4, A14_, H⟩ := H
  have A14 := hid A14_
  clear A14_
  by_cases c16 : (wrap64 (t1 - a2)) > t4
  ·
   rw [if_pos c16] at H
   have c16b0 : decide (t4 < (wrap64 (t1 - a2))) = true := decide_eq_true c16
   have hc16 := hid c16
   clear c16
   obtain rfl := Option.some.inj H
   clear H
   have k17 := True.intro
   go_wp2_with (first
    | (go_at_call 70; clear k17; refine (i_count_gone.calls a0 a1 t4 _ A14.out).mono ?_; rintro e_ w' ⟨rfl, rfl⟩))
   (try simp only [Act.put, sI, sZ, sS])
   go_ret
   exact ⟨by first | rfl | (simp; done) | (simp [*]; done), rfl⟩
  ·
   rw [if_neg c16] at H
   have c16b0 : decide (t4 < (wrap64 (t1 - a2))) = false := decide_eq_false c16
   have hc16 := hid c16
   clear c16
   obtain rfl := Option.some.inj H
   clear H
   have k18 := True.intro
   go_wp2_with (first
    | (go_at_call 70; clear k18; refine (i_count_gone.calls a0 a1 t4 _ A14.out).mono ?_; rintro e_ w' ⟨rfl, rfl⟩))
   (try simp only [Act.put, sI, sZ, sS])
   go_ret
   exact ⟨by first | rfl | (simp; done) | (simp [*]; done), rfl⟩
def i_men_Kind.f (a0 : Int) : Option (Int) := (i_men_Right.f a0).bind fun t1 => (if t1 = true then (if a0 < (wrap64 (-a0)) then (some (wrap64 (-a0))) else (some a0)) else (some 0))
set_option maxHeartbeats 40000000 in
set_option maxRecDepth 100000 in
theorem i_men_Kind.calls (a0 : Int) (r1 : Int) (w : World) (h : i_men_Kind.f a0 = some r1) :
    Calls Try.prog 88 #[.int .i64 a0] w fun e w' => e = .returned (.int .i64 r1) ∧ w = w' := by
 have H : ((i_men_Right.f a0).bind fun t1 => (if t1 = true then (if a0 < (wrap64 (-a0)) then (some (wrap64 (-a0))) else (some a0)) else (some 0))) = some r1 := h
 clear h
 replace H := Option.bind_eq_some_iff.mp H
 obtain ⟨t1, A2_, H⟩ := H
 have A2 := hid A2_
 clear A2_
 cases t1 with
 | true =>
  rw [if_pos rfl] at H
  by_cases c4 : a0 < (wrap64 (-a0))
  ·
   rw [if_pos c4] at H
   have c4b0 : decide (a0 < (wrap64 (-a0))) = true := decide_eq_true c4
   have c4b1 : (if a0 < (wrap64 (-a0)) then (wrap64 (-a0)) else a0) = (wrap64 (-a0)) := if_pos c4
   have c4b2 : max a0 (wrap64 (-a0)) = (wrap64 (-a0)) := by omega
   have hc4 := hid c4
   clear c4
   obtain rfl := Option.some.inj H
   clear H
   go_enter Try.func88, Try.ntmps88
   have k5 := True.intro
   go_wp2_with (first
    | (go_at_call 52; clear k5; refine (i_men_Right.calls a0 true _ A2.out).mono ?_; rintro e_ w' ⟨rfl, rfl⟩))
   (try simp only [Act.put, sI, sZ, sS])
   go_ret
   exact ⟨by first | rfl | (simp; done) | (simp [*]; done), rfl⟩
  ·
   rw [if_neg c4] at H
   have c4b0 : decide (a0 < (wrap64 (-a0))) = false := decide_eq_false c4
   have c4b1 : (if a0 < (wrap64 (-a0)) then (wrap64 (-a0)) else a0) = a0 := if_neg c4
   have c4b2 : max a0 (wrap64 (-a0)) = a0 := by omega
   have hc4 := hid c4
   clear c4
   obtain rfl := Option.some.inj H
   clear H
   go_enter Try.func88, Try.ntmps88
   have k6 := True.intro
   go_wp2_with (first
    | (go_at_call 52; clear k6; refine (i_men_Right.calls a0 true _ A2.out).mono ?_; rintro e_ w' ⟨rfl, rfl⟩))
   (try simp only [Act.put, sI, sZ, sS])
   go_ret
   exact ⟨by first | rfl | (simp; done) | (simp [*]; done), rfl⟩
 | false =>
  rw [if_neg (show ¬ (false = true) by decide)] at H
  obtain rfl := Option.some.inj H
  clear H
  go_enter Try.func88, Try.ntmps88
  have k7 := True.intro
  go_wp2_with (first
   | (go_at_call 52; clear k7; refine (i_men_Right.calls a0 false _ A2.out).mono ?_; rintro e_ w' ⟨rfl, rfl⟩))
  (try simp only [Act.put, sI, sZ, sS])
  go_ret
  exact ⟨by first | rfl | (simp; done) | (simp [*]; done), rfl⟩
def i_men_Side.f (a0 : Int) : Option (Int) := (i_men_Right.f a0).bind fun t1 => (if t1 = true then (if a0 > 0 then (some 0) else (some 1)) else (some (-1)))
set_option maxHeartbeats 40000000 in
set_option maxRecDepth 100000 in
theorem i_men_Side.calls (a0 : Int) (r1 : Int) (w : World) (h : i_men_Side.f a0 = some r1) :
    Calls Try.prog 89 #[.int .i64 a0] w fun e w' => e = .returned (.int .i64 r1) ∧ w = w' := by
 have H : ((i_men_Right.f a0).bind fun t1 => (if t1 = true then (if a0 > 0 then (some 0) else (some 1)) else (some (-1)))) = some r1 := h
 clear h
 replace H := Option.bind_eq_some_iff.mp H
 obtain ⟨t1, A2_, H⟩ := H
 have A2 := hid A2_
 clear A2_
 cases t1 with
 | true =>
  rw [if_pos rfl] at H
  by_cases c4 : a0 > 0
  ·
   rw [if_pos c4] at H
   have c4b0 : decide (0 < a0) = true := decide_eq_true c4
   have hc4 := hid c4
   clear c4
   obtain rfl := Option.some.inj H
   clear H
   go_enter Try.func89, Try.ntmps89
   have k5 := True.intro
   go_wp2_with (first
    | (go_at_call 52; clear k5; refine (i_men_Right.calls a0 true _ A2.out).mono ?_; rintro e_ w' ⟨rfl, rfl⟩))
   (try simp only [Act.put, sI, sZ, sS])
   go_ret
   exact ⟨by first | rfl | (simp; done) | (simp [*]; done), rfl⟩
  ·
   rw [if_neg c4] at H
   have c4b0 : decide (0 < a0) = false := decide_eq_false c4
   have hc4 := hid c4
   clear c4
   obtain rfl := Option.some.inj H
   clear H
   go_enter Try.func89, Try.ntmps89
   have k6 := True.intro
   go_wp2_with (first
    | (go_at_call 52; clear k6; refine (i_men_Right.calls a0 true _ A2.out).mono ?_; rintro e_ w' ⟨rfl, rfl⟩))
   (try simp only [Act.put, sI, sZ, sS])
   go_ret
   exact ⟨by first | rfl | (simp; done) | (simp [*]; done), rfl⟩
 | false =>
  rw [if_neg (show ¬ (false = true) by decide)] at H
  obtain rfl := Option.some.inj H
  clear H
  go_enter Try.func89, Try.ntmps89
  have k7 := True.intro
  go_wp2_with (first
   | (go_at_call 52; clear k7; refine (i_men_Right.calls a0 false _ A2.out).mono ?_; rintro e_ w' ⟨rfl, rfl⟩))
  (try simp only [Act.put, sI, sZ, sS])
  go_ret
  exact ⟨by first | rfl | (simp; done) | (simp [*]; done), rfl⟩
def i_board_Many.l0 : Nat → List Int → Int → Int → Int → Int → Option (Int)
  | 0, _, _, _, _, _ => none
  | k + 1, a0, a1, a2, x7_0, x12_0 => if x12_0 < 64 then (if 0 ≤ x12_0 then ((i_men_Right.f (wrap64 (nt a0 x12_0.toNat 0))).bind fun t5 => (if t5 = true then ((i_men_Side.f (wrap64 (nt a0 x12_0.toNat 0))).bind fun t6 => (if t6 = a2 then (if a1 = 0 then (i_board_Many.l0 k a0 a1 a2 (wrap64 (x7_0 + 1)) (wrap64 (x12_0 + 1))) else ((i_men_Kind.f (wrap64 (nt a0 x12_0.toNat 0))).bind fun t7 => (if t7 = a1 then (i_board_Many.l0 k a0 a1 a2 (wrap64 (x7_0 + 1)) (wrap64 (x12_0 + 1))) else (i_board_Many.l0 k a0 a1 a2 x7_0 (wrap64 (x12_0 + 1)))))) else (i_board_Many.l0 k a0 a1 a2 x7_0 (wrap64 (x12_0 + 1))))) else (i_board_Many.l0 k a0 a1 a2 x7_0 (wrap64 (x12_0 + 1))))) else (none)) else (some x7_0)
def i_board_Many.f (k : Nat) (a0 : List Int) (a1 : Int) (a2 : Int) : Option (Int) := i_board_Many.l0 k a0 a1 a2 0 0
set_option maxHeartbeats 40000000 in
set_option maxRecDepth 100000 in
theorem i_board_Many.calls (k : Nat) (a0 : List Int) (a1 : Int) (a2 : Int) (hla0 : a0.length = 64) (r1 : Int) (w : World) (h : i_board_Many.f k a0 a1 a2 = some r1) :
    Calls Try.prog 61 #[.agg (bv a0), .int .i64 a1, .int .i64 a2] w fun e w' => e = .returned (.int .i64 r1) ∧ Below w.heap.size w w' := by
 have LN_a0 := hid hla0
 clear hla0
 have HL := hid (Below.refl w.heap.size w)
 have H : (i_board_Many.l0 k a0 a1 a2 0 0) = some r1 := h
 clear h
 have H' := hid H
 clear H
 go_enter Try.func61, Try.ntmps61
 go_wp2_with (first
  | ((with_reducible refine gate_d (N := 3) rfl ?_); obtain ⟨gb1, hgb1⟩ : ∃ g_, w.heap.size = g_ := ⟨_, rfl⟩; refine ag_box (bv a0) gb1 hgb1 rfl _ rfl rfl ?_; intro w8 hb_ hB_ hs_; have GEb1 : Hid (w.heap.size ≤ gb1) := hid (by have := HL.out.size; omega); replace HL := hid (HL.out.trans (hb_.mono GEb1.out)); have BKb1 := hid hB_; clear hb_ hB_ hs_ hgb1)
  | ((with_reducible refine gate_d (N := 11) rfl ?_); refine ag_fix (.agg (bv a0)) (ex_load boardT gb1 0 (bv a0) (bv a0) BKb1.out (av_le LN_a0.out) (av_ex LN_a0.out) _ rfl rfl) rfl ?_))
 (try simp only [Act.put, sI, sZ, sS])
 go_loopg [7, 12] k (fun kq v7 v12 w' => ∃ (x7_0 : Int) (x12_0 : Int), v7 = .int .i64 x7_0 ∧ v12 = .int .i64 x12_0 ∧ Hid (i_board_Many.l0 kq a0 a1 a2 x7_0 x12_0 = some r1) ∧ Hid (kq ≤ k) ∧ Hid (Blk w' gb1 44 (bv a0)) ∧ Hid (Below w.heap.size w w'))
 case atStart => exact ⟨(0 : Int), (0 : Int), (by first | rfl | (simp; done) | (simp [*]; done)), (by first | rfl | (simp; done) | (simp [*]; done)), H', (hid (by first | omega | (omega))), (hid (by exact BKb1.out)), HL⟩
 case round =>
  clear H'
  clear HL BKb1
  obtain ⟨x7_0, x12_0, rfl, rfl, HA, HK9, BKb1, HL⟩ := hrel
  cases gk with
  | zero => exact absurd HA.out (by simp [i_board_Many.l0])
  | succ k10 =>
   have H := HA.out
   clear HA
   simp only [i_board_Many.l0] at H
   by_cases c11 : x12_0 < 64
   ·
    rw [if_pos c11] at H
    have c11b0 : decide (x12_0 < 64) = true := decide_eq_true c11
    have hc11 := hid c11
    clear c11
    by_cases c12 : 0 ≤ x12_0
    ·
     rw [if_pos c12] at H
     have c12b0 : decide (0 ≤ x12_0) = true := decide_eq_true c12
     have hc12 := hid c12
     clear c12
     replace H := Option.bind_eq_some_iff.mp H
     obtain ⟨t5, A13_, H⟩ := H
     have A13 := hid A13_
     clear A13_
     cases t5 with
     | true =>
      rw [if_pos rfl] at H
      have H' := hid H
      clear H
      have k16 := True.intro
      go_wp2_with (first
       | ((with_reducible refine gate_d (N := 14) rfl ?_); refine ag_fix (.int .i8 (nt a0 x12_0.toNat 0)) (ex_ix 44 (.agg (bv a0)) (.int .i64 x12_0) (.int .i8 (nt a0 x12_0.toNat 0)) (fun w_ => run_ixv 42 uT44 sT42 a0 LN_a0.out 0 x12_0 hc12.out hc11.out w_) _ _ rfl rfl rfl) rfl ?_)
       | (go_at_call 52; clear k16; refine (i_men_Right.calls (wrap64 (nt a0 x12_0.toNat 0)) true _ A13.out).mono ?_; rintro e_ w' ⟨rfl, rfl⟩))
      (try simp only [Act.put, sI, sZ, sS])
      have H := H'.out
      clear H'
      replace H := Option.bind_eq_some_iff.mp H
      obtain ⟨t6, A15_, H⟩ := H
      have A15 := hid A15_
      clear A15_
      by_cases c17 : t6 = a2
      ·
       rw [if_pos c17] at H
       have c17b0 : (t6 == a2) = true := beq_iff_eq.mpr c17
       have c17b1 : (t6 != a2) = false := bne_eq_false_iff_eq.mpr c17
       have hc17 := hid c17
       clear c17
       by_cases c18 : a1 = 0
       ·
        rw [if_pos c18] at H
        have c18b0 : (a1 == 0) = true := beq_iff_eq.mpr c18
        have c18b1 : (a1 != 0) = false := bne_eq_false_iff_eq.mpr c18
        have hc18 := hid c18
        clear c18
        have H' := hid H
        clear H
        have k19 := True.intro
        go_wp2_with (first
         | (go_at_call 89; clear k19; refine (i_men_Side.calls (wrap64 (nt a0 x12_0.toNat 0)) t6 _ A15.out).mono ?_; rintro e_ w' ⟨rfl, rfl⟩))
        (try simp only [Act.put, sI, sZ, sS])
        go_roundg k10
        case measure => have := HK9.out; omega
        case rel => exact ⟨wrap64 (x7_0 + 1), wrap64 (x12_0 + 1), (by first | rfl | (simp; done) | (simp [*]; done)), (by first | rfl | (simp; done) | (simp [*]; done)), H', (hid (by first | omega | (have := HK9.out; omega))), (hid (by exact BKb1.out)), HL⟩
       ·
        rw [if_neg c18] at H
        have c18b0 : (a1 == 0) = false := beq_eq_false_iff_ne.mpr c18
        have c18b1 : (a1 != 0) = true := bne_iff_ne.mpr c18
        have hc18 := hid c18
        clear c18
        have H' := hid H
        clear H
        have k21 := True.intro
        go_wp2_with (first
         | (go_at_call 89; clear k21; refine (i_men_Side.calls (wrap64 (nt a0 x12_0.toNat 0)) t6 _ A15.out).mono ?_; rintro e_ w' ⟨rfl, rfl⟩))
        (try simp only [Act.put, sI, sZ, sS])
        have H := H'.out
        clear H'
        replace H := Option.bind_eq_some_iff.mp H
        obtain ⟨t7, A20_, H⟩ := H
        have A20 := hid A20_
        clear A20_
        by_cases c22 : t7 = a1
        ·
         rw [if_pos c22] at H
         have c22b0 : (t7 == a1) = true := beq_iff_eq.mpr c22
         have c22b1 : (t7 != a1) = false := bne_eq_false_iff_eq.mpr c22
         have hc22 := hid c22
         clear c22
         have H' := hid H
         clear H
         have k23 := True.intro
         go_wp2_with (first
          | (go_at_call 88; clear k23; refine (i_men_Kind.calls (wrap64 (nt a0 x12_0.toNat 0)) t7 _ A20.out).mono ?_; rintro e_ w' ⟨rfl, rfl⟩))
         (try simp only [Act.put, sI, sZ, sS])
         go_roundg k10
         case measure => have := HK9.out; omega
         case rel => exact ⟨wrap64 (x7_0 + 1), wrap64 (x12_0 + 1), (by first | rfl | (simp; done) | (simp [*]; done)), (by first | rfl | (simp; done) | (simp [*]; done)), H', (hid (by first | omega | (have := HK9.out; omega))), (hid (by exact BKb1.out)), HL⟩
        ·
         rw [if_neg c22] at H
         have c22b0 : (t7 == a1) = false := beq_eq_false_iff_ne.mpr c22
         have c22b1 : (t7 != a1) = true := bne_iff_ne.mpr c22
         have hc22 := hid c22
         clear c22
         have H' := hid H
         clear H
         have k24 := True.intro
         go_wp2_with (first
          | (go_at_call 88; clear k24; refine (i_men_Kind.calls (wrap64 (nt a0 x12_0.toNat 0)) t7 _ A20.out).mono ?_; rintro e_ w' ⟨rfl, rfl⟩))
         (try simp only [Act.put, sI, sZ, sS])
         go_roundg k10
         case measure => have := HK9.out; omega
         case rel => exact ⟨x7_0, wrap64 (x12_0 + 1), (by first | rfl | (simp; done) | (simp [*]; done)), (by first | rfl | (simp; done) | (simp [*]; done)), H', (hid (by first | omega | (have := HK9.out; omega))), (hid (by exact BKb1.out)), HL⟩
      ·
       rw [if_neg c17] at H
       have c17b0 : (t6 == a2) = false := beq_eq_false_iff_ne.mpr c17
       have c17b1 : (t6 != a2) = true := bne_iff_ne.mpr c17
       have hc17 := hid c17
       clear c17
       have H' := hid H
       clear H
       have k25 := True.intro
       go_wp2_with (first
        | (go_at_call 89; clear k25; refine (i_men_Side.calls (wrap64 (nt a0 x12_0.toNat 0)) t6 _ A15.out).mono ?_; rintro e_ w' ⟨rfl, rfl⟩))
       (try simp only [Act.put, sI, sZ, sS])
       go_roundg k10
       case measure => have := HK9.out; omega
       case rel => exact ⟨x7_0, wrap64 (x12_0 + 1), (by first | rfl | (simp; done) | (simp [*]; done)), (by first | rfl | (simp; done) | (simp [*]; done)), H', (hid (by first | omega | (have := HK9.out; omega))), (hid (by exact BKb1.out)), HL⟩
     | false =>
      rw [if_neg (show ¬ (false = true) by decide)] at H
      have H' := hid H
      clear H
      have k26 := True.intro
      go_wp2_with (first
       | ((with_reducible refine gate_d (N := 14) rfl ?_); refine ag_fix (.int .i8 (nt a0 x12_0.toNat 0)) (ex_ix 44 (.agg (bv a0)) (.int .i64 x12_0) (.int .i8 (nt a0 x12_0.toNat 0)) (fun w_ => run_ixv 42 uT44 sT42 a0 LN_a0.out 0 x12_0 hc12.out hc11.out w_) _ _ rfl rfl rfl) rfl ?_)
       | (go_at_call 52; clear k26; refine (i_men_Right.calls (wrap64 (nt a0 x12_0.toNat 0)) false _ A13.out).mono ?_; rintro e_ w' ⟨rfl, rfl⟩))
      (try simp only [Act.put, sI, sZ, sS])
      go_roundg k10
      case measure => have := HK9.out; omega
      case rel => exact ⟨x7_0, wrap64 (x12_0 + 1), (by first | rfl | (simp; done) | (simp [*]; done)), (by first | rfl | (simp; done) | (simp [*]; done)), H', (hid (by first | omega | (have := HK9.out; omega))), (hid (by exact BKb1.out)), HL⟩
    ·
     rw [if_neg c12] at H
     exact absurd H (by simp)
   ·
    rw [if_neg c11] at H
    have c11b0 : decide (x12_0 < 64) = false := decide_eq_false c11
    have hc11 := hid c11
    clear c11
    obtain rfl := Option.some.inj H
    clear H
    go_wp2_with fail
    (try simp only [Act.put, sI, sZ, sS])
    go_ret
    exact ⟨by first | rfl | (simp; done) | (simp [*]; done), HL.out⟩
def i_square_Dark.f (a0 : Int) : Option (Bool) := (i_square_Right.f a0).bind fun t1 => (if t1 = true then (some ((Int.tmod (wrap64 ((Int.tmod a0 8) + (wrap64 (Int.tdiv a0 8)))) 2) == 0)) else (some false))
set_option maxHeartbeats 40000000 in
set_option maxRecDepth 100000 in
theorem i_square_Dark.calls (a0 : Int) (r1 : Bool) (w : World) (h : i_square_Dark.f a0 = some r1) :
    Calls Try.prog 105 #[.int .i64 a0] w fun e w' => e = .returned (.bool r1) ∧ w = w' := by
 have H : ((i_square_Right.f a0).bind fun t1 => (if t1 = true then (some ((Int.tmod (wrap64 ((Int.tmod a0 8) + (wrap64 (Int.tdiv a0 8)))) 2) == 0)) else (some false))) = some r1 := h
 clear h
 replace H := Option.bind_eq_some_iff.mp H
 obtain ⟨t1, A2_, H⟩ := H
 have A2 := hid A2_
 clear A2_
 cases t1 with
 | true =>
  rw [if_pos rfl] at H
  obtain rfl := Option.some.inj H
  clear H
  go_enter Try.func105, Try.ntmps105
  have k4 := True.intro
  go_wp2_with (first
   | (go_at_call 53; clear k4; refine (i_square_Right.calls a0 true _ A2.out).mono ?_; rintro e_ w' ⟨rfl, rfl⟩))
  (try simp only [Act.put, sI, sZ, sS])
  go_ret
  exact ⟨by first | rfl | (simp; done) | (simp [*]; done), rfl⟩
 | false =>
  rw [if_neg (show ¬ (false = true) by decide)] at H
  obtain rfl := Option.some.inj H
  clear H
  go_enter Try.func105, Try.ntmps105
  have k5 := True.intro
  go_wp2_with (first
   | (go_at_call 53; clear k5; refine (i_square_Right.calls a0 false _ A2.out).mono ?_; rintro e_ w' ⟨rfl, rfl⟩))
  (try simp only [Act.put, sI, sZ, sS])
  go_ret
  exact ⟨by first | rfl | (simp; done) | (simp [*]; done), rfl⟩
def i_count_bishops.l0 : Nat → Bool → List Int → Int → Int → Option (Int)
  | 0, _, _, _, _ => none
  | k + 1, a2, t3, x7_0, x15_0 => if x15_0 < (t3.length : Int) then (if 0 ≤ x15_0 then ((i_square_Dark.f (nt t3 x15_0.toNat 0)).bind fun t7 => (if (t7 == a2) = true then (i_count_bishops.l0 k a2 t3 (wrap64 (x7_0 + 1)) (wrap64 (x15_0 + 1))) else (i_count_bishops.l0 k a2 t3 x7_0 (wrap64 (x15_0 + 1))))) else (none)) else (some x7_0)
def i_count_bishops.f (k : Nat) (a0 : List Int) (a1 : Int) (a2 : Bool) : Option (Int) := (i_men_Make.f 3 a1).bind fun t2 => ((i_board_Where.f k a0 t2).bind fun t3 => (i_count_bishops.l0 k a2 t3 0 0))
set_option maxHeartbeats 40000000 in
set_option maxRecDepth 100000 in
theorem i_count_bishops.calls (k : Nat) (a0 : List Int) (a1 : Int) (a2 : Bool) (hla0 : a0.length = 64) (r1 : Int) (w : World) (h : i_count_bishops.f k a0 a1 a2 = some r1) :
    Calls Try.prog 72 #[.agg (bv a0), .int .i64 a1, .bool a2] w fun e w' => e = .returned (.int .i64 r1) ∧ Below w.heap.size w w' := by
 have LN_a0 := hid hla0
 clear hla0
 have HL := hid (Below.refl w.heap.size w)
 have H : ((i_men_Make.f 3 a1).bind fun t2 => ((i_board_Where.f k a0 t2).bind fun t3 => (i_count_bishops.l0 k a2 t3 0 0))) = some r1 := h
 clear h
 replace H := Option.bind_eq_some_iff.mp H
 obtain ⟨t2, A8_, H⟩ := H
 have A8 := hid A8_
 clear A8_
 replace H := Option.bind_eq_some_iff.mp H
 obtain ⟨t3, A9_, H⟩ := H
 have A9 := hid A9_
 clear A9_
 have H' := hid H
 clear H
 go_enter Try.func72, Try.ntmps72
 go_wp2_with (first
  | ((with_reducible refine gate_d (N := 3) rfl ?_); obtain ⟨gb1, hgb1⟩ : ∃ g_, w.heap.size = g_ := ⟨_, rfl⟩; refine ag_box (bv a0) gb1 hgb1 rfl _ rfl rfl ?_; intro w10 hb_ hB_ hs_; have GEb1 : Hid (w.heap.size ≤ gb1) := hid (by have := HL.out.size; omega); replace HL := hid (HL.out.trans (hb_.mono GEb1.out)); have BKb1 := hid hB_; clear hb_ hB_ hs_ hgb1))
 (try simp only [Act.put, sI, sZ, sS])
 have WR64 := i64_w
 have WR32 := i32_w
 have WR8 := u8_w
 have WRU := u32_w
 refine sq_region (fun w'_ => Below w.heap.size w w'_ ∧ Blk w'_ gb1 44 (bv a0) ∧ True) [3] [(0, 1), (1, 2), (5, 2), (2, 0), (3, 0), (4, 2)] (by kernel_rfl) (by kernel_rfl) (by kernel_rfl) rfl ?_
 intro w11 hb_
 replace BKb1 := hid (BKb1.out.below hb_ BKb1.out.lt)
 replace HL := hid (HL.out.trans (hb_.mono HL.out.size))
 clear hb_
 refine sq_take (.agg (bv a0)) ⟨HL.out, BKb1.out, trivial⟩ rfl (fun w'_ hS_ => ex_load boardT gb1 0 (bv a0) (bv a0) hS_.2.1 (av_le LN_a0.out) (av_ex LN_a0.out) _ rfl rfl) rfl rfl ?_
 intro ts_ ht_; simp only [sI, sZ, sS] at ht_; subst ht_
 refine sq_pure (.int .i64 a1) rfl (fun w'_ => ex_mv (.tmp 1) (.inl rfl) _ rfl) rfl rfl ?_
 intro ts_ ht_; simp only [sI, sZ, sS] at ht_; subst ht_
 refine sq_pure (.int .i64 0) rfl (fun w'_ => ex_mv _ (.inl rfl) _ rfl) rfl rfl ?_
 intro ts_ ht_; simp only [sI, sZ, sS] at ht_; subst ht_
 refine sq_act rfl (fun Q'_ hQ_ => ?_)
 refine wl_call 68 #[.int .i64 3, .int .i64 a1] (by go_simp) rfl ((i_men_Make.calls 3 a1 t2 _ A8.out).mono ?_)
 rintro e_ w' ⟨rfl, rfl⟩
 refine ⟨_, rfl, ?_⟩
 refine hQ_ _ _ (fun _ => ⟨HL.out, BKb1.out, trivial⟩) ?_
 clear hQ_ Q'_
 simp only [Act.put, sI, sZ, sS]
 refine sq_act rfl (fun Q'_ hQ_ => ?_)
 refine wl_call 67 #[.agg (bv a0), .int .i64 t2] (by go_simp) rfl ((i_board_Where.calls k a0 t2 LN_a0.out t3 _ A9.out).mono ?_)
 rintro e_ w14 ⟨ut3, rfl, so_t3, hb_⟩
 replace so_t3 := so_t3.mono HL.out.size
 have SWn_t3 := hid so_t3
 clear so_t3
 replace BKb1 := hid (BKb1.out.below hb_ BKb1.out.lt)
 replace HL := hid (HL.out.trans (hb_.mono HL.out.size))
 clear hb_
 have SWt3 := SWn_t3
 clear SWn_t3
 refine ⟨_, rfl, ?_⟩
 refine hQ_ _ _ (fun h_ => absurd h_ (by decide)) ?_
 clear hQ_ Q'_
 simp only [Act.put, sI, sZ, sS]
 obtain ⟨A_14, c_14, hv_14⟩ := SWt3.out.sl.shape
 rw [List.length_map] at hv_14
 have HV_14 := hid hv_14
 clear hv_14
 refine sq_pure (.int .i64 (t3.length : Int)) rfl (fun w'_ => ex_len us27 _ _ _ _ HV_14.out _ rfl rfl) rfl rfl ?_
 intro ts_ ht_; simp only [sI, sZ, sS] at ht_; subst ht_
 refine sq_end ?_
 clear WR64 WR32 WR8 WRU
 go_wp2_with fail
 (try simp only [Act.put, sI, sZ, sS])
 go_loopg [7, 15] k (fun kq v7 v15 w' => ∃ (x7_0 : Int) (x15_0 : Int), v7 = .int .i64 x7_0 ∧ v15 = .int .i64 x15_0 ∧ Hid (i_count_bishops.l0 kq a2 t3 x7_0 x15_0 = some r1) ∧ Hid (kq ≤ k) ∧ Hid (Blk w' gb1 44 (bv a0)) ∧ Hid (Own w' w.heap.size 3 (ut3) (t3.map (Value.int .i64))) ∧ Hid (Below w.heap.size w w'))
 case atStart => exact ⟨(0 : Int), (0 : Int), (by first | rfl | (simp; done) | (simp [*]; done)), (by first | rfl | (simp; done) | (simp [*]; done)), H', (hid (by first | omega | (omega))), (hid (by exact BKb1.out)), SWt3, HL⟩
 case round =>
  clear H'
  clear HL BKb1 SWt3
  obtain ⟨x7_0, x15_0, rfl, rfl, HA, HK15, BKb1, SWt3, HL⟩ := hrel
  cases gk with
  | zero => exact absurd HA.out (by simp [i_count_bishops.l0])
  | succ k16 =>
   have H := HA.out
   clear HA
   simp only [i_count_bishops.l0] at H
   by_cases c17 : x15_0 < (t3.length : Int)
   ·
    rw [if_pos c17] at H
    have c17b0 : decide (x15_0 < (t3.length : Int)) = true := decide_eq_true c17
    have hc17 := hid c17
    clear c17
    by_cases c18 : 0 ≤ x15_0
    ·
     rw [if_pos c18] at H
     have c18b0 : decide (0 ≤ x15_0) = true := decide_eq_true c18
     have hc18 := hid c18
     clear c18
     replace H := Option.bind_eq_some_iff.mp H
     obtain ⟨t7, A19_, H⟩ := H
     have A19 := hid A19_
     clear A19_
     by_cases c20 : (t7 == a2) = true
     ·
      rw [if_pos c20] at H
      have c20b0 : (t7 == a2) = true := c20
      (try have c20b1 : decide (t7 = a2) = true := by simpa using c20)
      (try have c20b2 : (t7 == a2) = true := by simpa using c20)
      have hc20 := hid c20
      clear c20
      have H' := hid H
      clear H
      have k23 := True.intro
      go_wp2_with (first
       | ((with_reducible refine gate_d (N := 17) rfl ?_); obtain ⟨ad6, c21, hv22, HCad6_⟩ := Sl.get (l := t3) (f := (Value.int .i64)) SWt3.out.sl 0 (i := x15_0) hc18.out hc17.out; have HCad6 := hid HCad6_; clear HCad6_; refine ag_fix (.pointer (some (ad6.add x15_0.toNat))) (ex_sat _ _ x15_0 _ _ hv22 hc18.out hc17.out us27 sT3 _ _ rfl rfl rfl) rfl ?_; have HVAad6 := hid hv22; clear hv22)
       | ((with_reducible refine gate_d (N := 18) rfl ?_); refine ag_fix (.int .i64 (nt t3 x15_0.toNat 0)) (ex_scell sT3 _ _ HCad6.out _ rfl rfl) rfl ?_)
       | (go_at_call 105; clear k23; refine (i_square_Dark.calls (nt t3 x15_0.toNat 0) t7 _ A19.out).mono ?_; rintro e_ w' ⟨rfl, rfl⟩))
      (try simp only [Act.put, sI, sZ, sS])
      go_roundg k16
      case measure => have := HK15.out; omega
      case rel => exact ⟨wrap64 (x7_0 + 1), wrap64 (x15_0 + 1), (by first | rfl | (simp; done) | (simp [*]; done)), (by first | rfl | (simp; done) | (simp [*]; done)), H', (hid (by first | omega | (have := HK15.out; omega))), (hid (by exact BKb1.out)), SWt3, HL⟩
     ·
      rw [if_neg c20] at H
      have c20b0 : (t7 == a2) = false := by simpa using c20
      (try have c20b1 : decide (t7 = a2) = false := by simpa using c20)
      (try have c20b2 : (t7 == a2) = false := by simpa using c20)
      (try have c20b3 : ¬ (t7 = a2) := by simpa using c20)
      have hc20 := hid c20
      clear c20
      have H' := hid H
      clear H
      have k26 := True.intro
      go_wp2_with (first
       | ((with_reducible refine gate_d (N := 17) rfl ?_); obtain ⟨ad6, c24, hv25, HCad6_⟩ := Sl.get (l := t3) (f := (Value.int .i64)) SWt3.out.sl 0 (i := x15_0) hc18.out hc17.out; have HCad6 := hid HCad6_; clear HCad6_; refine ag_fix (.pointer (some (ad6.add x15_0.toNat))) (ex_sat _ _ x15_0 _ _ hv25 hc18.out hc17.out us27 sT3 _ _ rfl rfl rfl) rfl ?_; have HVAad6 := hid hv25; clear hv25)
       | ((with_reducible refine gate_d (N := 18) rfl ?_); refine ag_fix (.int .i64 (nt t3 x15_0.toNat 0)) (ex_scell sT3 _ _ HCad6.out _ rfl rfl) rfl ?_)
       | (go_at_call 105; clear k26; refine (i_square_Dark.calls (nt t3 x15_0.toNat 0) t7 _ A19.out).mono ?_; rintro e_ w' ⟨rfl, rfl⟩))
      (try simp only [Act.put, sI, sZ, sS])
      go_roundg k16
      case measure => have := HK15.out; omega
      case rel => exact ⟨x7_0, wrap64 (x15_0 + 1), (by first | rfl | (simp; done) | (simp [*]; done)), (by first | rfl | (simp; done) | (simp [*]; done)), H', (hid (by first | omega | (have := HK15.out; omega))), (hid (by exact BKb1.out)), SWt3, HL⟩
    ·
     rw [if_neg c18] at H
     exact absurd H (by simp)
   ·
    rw [if_neg c17] at H
    have c17b0 : decide (x15_0 < (t3.length : Int)) = false := decide_eq_false c17
    have hc17 := hid c17
    clear c17
    obtain rfl := Option.some.inj H
    clear H
    go_wp2_with fail
    (try simp only [Act.put, sI, sZ, sS])
    go_ret
    exact ⟨by first | rfl | (simp; done) | (simp [*]; done), HL.out⟩
mutual
def i_count_Promoted.l0 : Nat → List Int → Int → Int → Int → Option (Int)
  | 0, _, _, _, _ => none
  | k + 1, a0, a1, x5_0, x27_0 => if x27_0 < 3 then (if x27_0 = 0 then ((i_board_Many.f k a0 2 a1).bind fun t12 => (if (wrap64 (t12 - 2)) < 0 then (i_count_Promoted.l0 k a0 a1 (wrap64 (x5_0 + 0)) (wrap64 (x27_0 + 1))) else (i_count_Promoted.l0 k a0 a1 (wrap64 (x5_0 + (wrap64 (t12 - 2)))) (wrap64 (x27_0 + 1))))) else (if x27_0 = 1 then ((i_board_Many.f k a0 4 a1).bind fun t14 => (if (wrap64 (t14 - 2)) < 0 then (i_count_Promoted.l0 k a0 a1 (wrap64 (x5_0 + 0)) (wrap64 (x27_0 + 1))) else (i_count_Promoted.l0 k a0 a1 (wrap64 (x5_0 + (wrap64 (t14 - 2)))) (wrap64 (x27_0 + 1))))) else (if x27_0 = 2 then ((i_board_Many.f k a0 5 a1).bind fun t16 => (if (wrap64 (t16 - 1)) < 0 then (i_count_Promoted.l0 k a0 a1 (wrap64 (x5_0 + 0)) (wrap64 (x27_0 + 1))) else (i_count_Promoted.l0 k a0 a1 (wrap64 (x5_0 + (wrap64 (t16 - 1)))) (wrap64 (x27_0 + 1))))) else (none)))) else (some x5_0)
def i_count_Promoted.l1 : Nat → List Int → Int → Int → Int → Option (Int)
  | 0, _, _, _, _ => none
  | k + 1, a0, a1, x5_1, x27_1 => if x27_1 < 3 then (if x27_1 = 0 then ((i_board_Many.f k a0 2 a1).bind fun t24 => (if (wrap64 (t24 - 2)) < 0 then (i_count_Promoted.l1 k a0 a1 (wrap64 (x5_1 + 0)) (wrap64 (x27_1 + 1))) else (i_count_Promoted.l1 k a0 a1 (wrap64 (x5_1 + (wrap64 (t24 - 2)))) (wrap64 (x27_1 + 1))))) else (if x27_1 = 1 then ((i_board_Many.f k a0 4 a1).bind fun t26 => (if (wrap64 (t26 - 2)) < 0 then (i_count_Promoted.l1 k a0 a1 (wrap64 (x5_1 + 0)) (wrap64 (x27_1 + 1))) else (i_count_Promoted.l1 k a0 a1 (wrap64 (x5_1 + (wrap64 (t26 - 2)))) (wrap64 (x27_1 + 1))))) else (if x27_1 = 2 then ((i_board_Many.f k a0 5 a1).bind fun t28 => (if (wrap64 (t28 - 1)) < 0 then (i_count_Promoted.l1 k a0 a1 (wrap64 (x5_1 + 0)) (wrap64 (x27_1 + 1))) else (i_count_Promoted.l1 k a0 a1 (wrap64 (x5_1 + (wrap64 (t28 - 1)))) (wrap64 (x27_1 + 1))))) else (none)))) else (some x5_1)
def i_count_Promoted.l2 : Nat → List Int → Int → Int → Int → Option (Int)
  | 0, _, _, _, _ => none
  | k + 1, a0, a1, x5_2, x27_2 => if x27_2 < 3 then (if x27_2 = 0 then ((i_board_Many.f k a0 2 a1).bind fun t37 => (if (wrap64 (t37 - 2)) < 0 then (i_count_Promoted.l2 k a0 a1 (wrap64 (x5_2 + 0)) (wrap64 (x27_2 + 1))) else (i_count_Promoted.l2 k a0 a1 (wrap64 (x5_2 + (wrap64 (t37 - 2)))) (wrap64 (x27_2 + 1))))) else (if x27_2 = 1 then ((i_board_Many.f k a0 4 a1).bind fun t39 => (if (wrap64 (t39 - 2)) < 0 then (i_count_Promoted.l2 k a0 a1 (wrap64 (x5_2 + 0)) (wrap64 (x27_2 + 1))) else (i_count_Promoted.l2 k a0 a1 (wrap64 (x5_2 + (wrap64 (t39 - 2)))) (wrap64 (x27_2 + 1))))) else (if x27_2 = 2 then ((i_board_Many.f k a0 5 a1).bind fun t41 => (if (wrap64 (t41 - 1)) < 0 then (i_count_Promoted.l2 k a0 a1 (wrap64 (x5_2 + 0)) (wrap64 (x27_2 + 1))) else (i_count_Promoted.l2 k a0 a1 (wrap64 (x5_2 + (wrap64 (t41 - 1)))) (wrap64 (x27_2 + 1))))) else (none)))) else (some x5_2)
def i_count_Promoted.l3 : Nat → List Int → Int → Int → Int → Option (Int)
  | 0, _, _, _, _ => none
  | k + 1, a0, a1, x5_3, x27_3 => if x27_3 < 3 then (if x27_3 = 0 then ((i_board_Many.f k a0 2 a1).bind fun t49 => (if (wrap64 (t49 - 2)) < 0 then (i_count_Promoted.l3 k a0 a1 (wrap64 (x5_3 + 0)) (wrap64 (x27_3 + 1))) else (i_count_Promoted.l3 k a0 a1 (wrap64 (x5_3 + (wrap64 (t49 - 2)))) (wrap64 (x27_3 + 1))))) else (if x27_3 = 1 then ((i_board_Many.f k a0 4 a1).bind fun t51 => (if (wrap64 (t51 - 2)) < 0 then (i_count_Promoted.l3 k a0 a1 (wrap64 (x5_3 + 0)) (wrap64 (x27_3 + 1))) else (i_count_Promoted.l3 k a0 a1 (wrap64 (x5_3 + (wrap64 (t51 - 2)))) (wrap64 (x27_3 + 1))))) else (if x27_3 = 2 then ((i_board_Many.f k a0 5 a1).bind fun t53 => (if (wrap64 (t53 - 1)) < 0 then (i_count_Promoted.l3 k a0 a1 (wrap64 (x5_3 + 0)) (wrap64 (x27_3 + 1))) else (i_count_Promoted.l3 k a0 a1 (wrap64 (x5_3 + (wrap64 (t53 - 1)))) (wrap64 (x27_3 + 1))))) else (none)))) else (some x5_3)
end
def i_count_Promoted.f (k : Nat) (a0 : List Int) (a1 : Int) : Option (Int) := (i_count_known.f k a0 a1).bind fun t2 => (if t2 = true then ((i_count_bishops.f k a0 a1 true).bind fun t3 => (if (wrap64 (t3 - 1)) < 0 then ((i_count_bishops.f k a0 a1 false).bind fun t4 => (if (wrap64 (t4 - 1)) < 0 then (i_count_Promoted.l0 k a0 a1 0 0) else (i_count_Promoted.l1 k a0 a1 (wrap64 (0 + (wrap64 (t4 - 1)))) 0))) else ((i_count_bishops.f k a0 a1 false).bind fun t29 => (if (wrap64 (t29 - 1)) < 0 then (i_count_Promoted.l2 k a0 a1 (wrap64 ((wrap64 (t3 - 1)) + 0)) 0) else (i_count_Promoted.l3 k a0 a1 (wrap64 ((wrap64 (t3 - 1)) + (wrap64 (t29 - 1)))) 0))))) else (some 0))
set_option maxHeartbeats 40000000 in
set_option maxRecDepth 100000 in
theorem i_count_Promoted.calls (k : Nat) (a0 : List Int) (a1 : Int) (hla0 : a0.length = 64) (r1 : Int) (w : World) (h : i_count_Promoted.f k a0 a1 = some r1) :
    Calls Try.prog 41 #[.agg (bv a0), .int .i64 a1] w fun e w' => e = .returned (.int .i64 r1) ∧ Below w.heap.size w w' := by
 have LN_a0 := hid hla0
 clear hla0
 have HL := hid (Below.refl w.heap.size w)
 have H : ((i_count_known.f k a0 a1).bind fun t2 => (if t2 = true then ((i_count_bishops.f k a0 a1 true).bind fun t3 => (if (wrap64 (t3 - 1)) < 0 then ((i_count_bishops.f k a0 a1 false).bind fun t4 => (if (wrap64 (t4 - 1)) < 0 then (i_count_Promoted.l0 k a0 a1 0 0) else (i_count_Promoted.l1 k a0 a1 (wrap64 (0 + (wrap64 (t4 - 1)))) 0))) else ((i_count_bishops.f k a0 a1 false).bind fun t29 => (if (wrap64 (t29 - 1)) < 0 then (i_count_Promoted.l2 k a0 a1 (wrap64 ((wrap64 (t3 - 1)) + 0)) 0) else (i_count_Promoted.l3 k a0 a1 (wrap64 ((wrap64 (t3 - 1)) + (wrap64 (t29 - 1)))) 0))))) else (some 0))) = some r1 := h
 clear h
 replace H := Option.bind_eq_some_iff.mp H
 obtain ⟨t2, A54_, H⟩ := H
 have A54 := hid A54_
 clear A54_
 cases t2 with
 | true =>
  rw [if_pos rfl] at H
  replace H := Option.bind_eq_some_iff.mp H
  obtain ⟨t3, A56_, H⟩ := H
  have A56 := hid A56_
  clear A56_
  by_cases c57 : (wrap64 (t3 - 1)) < 0
  ·
   rw [if_pos c57] at H
   have c57b0 : decide ((wrap64 (t3 - 1)) < 0) = true := decide_eq_true c57
   have c57b1 : (if (wrap64 (t3 - 1)) < 0 then 0 else (wrap64 (t3 - 1))) = 0 := if_pos c57
   have c57b2 : max (wrap64 (t3 - 1)) 0 = 0 := by omega
   have hc57 := hid c57
   clear c57
   replace H := Option.bind_eq_some_iff.mp H
   obtain ⟨t4, A58_, H⟩ := H
   have A58 := hid A58_
   clear A58_
   by_cases c59 : (wrap64 (t4 - 1)) < 0
   ·
    rw [if_pos c59] at H
    have c59b0 : decide ((wrap64 (t4 - 1)) < 0) = true := decide_eq_true c59
    have c59b1 : (if (wrap64 (t4 - 1)) < 0 then 0 else (wrap64 (t4 - 1))) = 0 := if_pos c59
    have c59b2 : max (wrap64 (t4 - 1)) 0 = 0 := by omega
    have hc59 := hid c59
    clear c59
    have H' := hid H
    clear H
    go_enter Try.func41, Try.ntmps41
    have k61 := True.intro
    go_wp2_with (first
     | ((with_reducible refine gate_d (N := 2) rfl ?_); obtain ⟨gb1, hgb1⟩ : ∃ g_, w.heap.size = g_ := ⟨_, rfl⟩; refine ag_box (bv a0) gb1 hgb1 rfl _ rfl rfl ?_; intro w60 hb_ hB_ hs_; have GEb1 : Hid (w.heap.size ≤ gb1) := hid (by have := HL.out.size; omega); replace HL := hid (HL.out.trans (hb_.mono GEb1.out)); have BKb1 := hid hB_; clear hb_ hB_ hs_ hgb1)
     | ((with_reducible refine gate_d (N := 8) rfl ?_); refine ag_fix (.agg (bv a0)) (ex_load boardT gb1 0 (bv a0) (bv a0) BKb1.out (av_le LN_a0.out) (av_ex LN_a0.out) _ rfl rfl) rfl ?_)
     | (go_at_call 66; clear k61; refine (i_count_known.calls k a0 a1 LN_a0.out true _ A54.out).mono ?_; rintro e_ w62 ⟨rfl, hb_⟩; replace BKb1 := hid (BKb1.out.below hb_ BKb1.out.lt); replace HL := hid (HL.out.trans (hb_.mono HL.out.size)); clear hb_))
    (try simp only [Act.put, sI, sZ, sS])
    have WR64 := i64_w
    have WR32 := i32_w
    refine up_regionW (by kernel_rfl) (by kernel_rfl) ?_
    refine q_do (.agg (bv a0)) (fun w'_ hc_ => by obtain ⟨n_, hn_⟩ := hc_; exact ex_load boardT gb1 0 (bv a0) (bv a0) (by rw [hn_]; exact BKb1.out.below n_.below BKb1.out.lt) (av_le LN_a0.out) (av_ex LN_a0.out) _ rfl rfl) rfl rfl ?_
    intro ts_ ht_; simp only [sI, sZ, sS] at ht_; subst ht_
    refine q_do (.int .i64 a1) (fun w'_ hc_ => ex_mv (.tmp 1) (.inl rfl) _ rfl) rfl rfl ?_
    intro ts_ ht_; simp only [sI, sZ, sS] at ht_; subst ht_
    refine q_call (.int .i64 t3) 72 #[.agg (bv a0), .int .i64 a1, .bool true] (fun w'_ => by go_simp) (fun w'_ hc_ => (i_count_bishops.calls k a0 a1 true LN_a0.out t3 _ A56.out).mono fun e_ w2_ h_ => ⟨h_.1, up_below hc_ h_.2⟩) rfl rfl ?_
    intro ts_ ht_; simp only [sI, sZ, sS] at ht_; subst ht_
    refine q_do (.int .i64 (wrap64 (t3 - 1))) (fun w'_ hc_ => by go_simp <;> (unfold wrap64; omega)) rfl rfl ?_
    intro ts_ ht_; simp only [sI, sZ, sS] at ht_; subst ht_
    refine q_do (.int .i64 0) (fun w'_ hc_ => by go_simp <;> (unfold wrap64; omega)) rfl rfl ?_
    intro ts_ ht_; simp only [sI, sZ, sS] at ht_; subst ht_
    refine q_do (.agg (bv a0)) (fun w'_ hc_ => by obtain ⟨n_, hn_⟩ := hc_; exact ex_load boardT gb1 0 (bv a0) (bv a0) (by rw [hn_]; exact BKb1.out.below n_.below BKb1.out.lt) (av_le LN_a0.out) (av_ex LN_a0.out) _ rfl rfl) rfl rfl ?_
    intro ts_ ht_; simp only [sI, sZ, sS] at ht_; subst ht_
    refine q_do (.int .i64 a1) (fun w'_ hc_ => ex_mv (.tmp 1) (.inl rfl) _ rfl) rfl rfl ?_
    intro ts_ ht_; simp only [sI, sZ, sS] at ht_; subst ht_
    refine q_call (.int .i64 t4) 72 #[.agg (bv a0), .int .i64 a1, .bool false] (fun w'_ => by go_simp) (fun w'_ hc_ => (i_count_bishops.calls k a0 a1 false LN_a0.out t4 _ A58.out).mono fun e_ w2_ h_ => ⟨h_.1, up_below hc_ h_.2⟩) rfl rfl ?_
    intro ts_ ht_; simp only [sI, sZ, sS] at ht_; subst ht_
    refine q_do (.int .i64 (wrap64 (t4 - 1))) (fun w'_ hc_ => by go_simp <;> (unfold wrap64; omega)) rfl rfl ?_
    intro ts_ ht_; simp only [sI, sZ, sS] at ht_; subst ht_
    refine q_do (.int .i64 0) (fun w'_ hc_ => by go_simp <;> (unfold wrap64; omega)) rfl rfl ?_
    intro ts_ ht_; simp only [sI, sZ, sS] at ht_; subst ht_
    refine q_do (.int .i64 0) (fun w'_ hc_ => by go_simp <;> (unfold wrap64; omega)) rfl rfl ?_
    intro ts_ ht_; simp only [sI, sZ, sS] at ht_; subst ht_
    refine q_do (.int .i64 0) (fun w'_ hc_ => ex_mv (.tmp 22) (.inr rfl) _ rfl) rfl rfl ?_
    intro ts_ ht_; simp only [sI, sZ, sS] at ht_; subst ht_
    refine q_end ?_
    rintro w8_ ⟨n_, rfl⟩
    replace BKb1 := hid (BKb1.out.below n_.below BKb1.out.lt)
    replace HL := hid (HL.out.trans (n_.below.mono HL.out.size))
    generalize n_.world = w63 at *
    clear n_ WR64 WR32
    go_wp2_with (first
     | ((with_reducible refine gate_d (N := 23) rfl ?_); refine ag_build (.agg #[.int .i64 2, .int .i64 2]) _ rfl rfl ?_ ?_; (intro ww_; simp only [List.map_toArray, List.map_cons, List.map_nil]; kernel_rfl))
     | ((with_reducible refine gate_d (N := 24) rfl ?_); refine ag_build (.agg #[.int .i64 4, .int .i64 2]) _ rfl rfl ?_ ?_; (intro ww_; simp only [List.map_toArray, List.map_cons, List.map_nil]; kernel_rfl))
     | ((with_reducible refine gate_d (N := 25) rfl ?_); refine ag_build (.agg #[.int .i64 5, .int .i64 1]) _ rfl rfl ?_ ?_; (intro ww_; simp only [List.map_toArray, List.map_cons, List.map_nil]; kernel_rfl))
     | ((with_reducible refine gate_d (N := 26) rfl ?_); refine ag_build (.agg #[.int .i64 2, .int .i64 2, .int .i64 4, .int .i64 2, .int .i64 5, .int .i64 1]) _ rfl rfl ?_ ?_; (intro ww_; simp only [List.map_toArray, List.map_cons, List.map_nil]; kernel_rfl)))
    (try simp only [Act.put, sI, sZ, sS])
    go_loopg [5, 27] k (fun kq v5 v27 w' => ∃ (x5_0 : Int) (x27_0 : Int), v5 = .int .i64 x5_0 ∧ v27 = .int .i64 x27_0 ∧ Hid (i_count_Promoted.l0 kq a0 a1 x5_0 x27_0 = some r1) ∧ Hid (kq ≤ k) ∧ Hid (Blk w' gb1 44 (bv a0)) ∧ Hid (Below w.heap.size w w'))
    case atStart => exact ⟨(0 : Int), (0 : Int), (by first | rfl | (simp; done) | (simp [*]; done)), (by first | rfl | (simp; done) | (simp [*]; done)), H', (hid (by first | omega | (omega))), (hid (by exact BKb1.out)), HL⟩
    case round =>
     clear H'
     clear HL BKb1
     obtain ⟨x5_0, x27_0, rfl, rfl, HA, HK64, BKb1, HL⟩ := hrel
     cases gk with
     | zero => exact absurd HA.out (by simp [i_count_Promoted.l0])
     | succ k65 =>
      have H := HA.out
      clear HA
      simp only [i_count_Promoted.l0] at H
      by_cases c66 : x27_0 < 3
      ·
       rw [if_pos c66] at H
       have c66b0 : decide (x27_0 < 3) = true := decide_eq_true c66
       have hc66 := hid c66
       clear c66
       by_cases c67 : x27_0 = 0
       ·
        rw [if_pos c67] at H
        have c67b0 : (x27_0 == 0) = true := beq_iff_eq.mpr c67
        have c67b1 : (x27_0 != 0) = false := bne_eq_false_iff_eq.mpr c67
        have hc67 := hid c67
        clear c67
        replace H := Option.bind_eq_some_iff.mp H
        obtain ⟨t12, A68_, H⟩ := H
        have A68 := hid A68_
        clear A68_
        by_cases c69 : (wrap64 (t12 - 2)) < 0
        ·
         rw [if_pos c69] at H
         have c69b0 : decide ((wrap64 (t12 - 2)) < 0) = true := decide_eq_true c69
         have c69b1 : (if (wrap64 (t12 - 2)) < 0 then 0 else (wrap64 (t12 - 2))) = 0 := if_pos c69
         have c69b2 : max (wrap64 (t12 - 2)) 0 = 0 := by omega
         have hc69 := hid c69
         clear c69
         have H' := hid H
         clear H
         go_wp2_with (first
          | ((with_reducible refine gate_d (N := 29) rfl ?_); refine ag_fix (.agg #[.int .i64 2, .int .i64 2]) (ex_ix 118 (.agg #[.int .i64 2, .int .i64 2, .int .i64 4, .int .i64 2, .int .i64 5, .int .i64 1]) (.int .i64 x27_0) (.agg #[.int .i64 2, .int .i64 2]) (fun w_ => by rw [hc67.out]; kernel_rfl) _ _ rfl rfl rfl) rfl ?_)
          | ((with_reducible refine gate_d (N := 7) rfl ?_); obtain ⟨gb11, hgb11⟩ : ∃ g_, wr.heap.size = g_ := ⟨_, rfl⟩; refine ag_alloc aT117 gb11 hgb11 rfl rfl ?_; intro w70 hb_ hB_ hs_; have GEb11 : Hid (w.heap.size ≤ gb11) := hid (by have := HL.out.size; omega); have NBb1_b11 : Hid (gb1 ≠ gb11) := hid (by have := BKb1.out.lt; omega); have NBb11_b1 : Hid (gb11 ≠ gb1) := hid (by have := NBb1_b11.out; omega); replace BKb1 := hid (BKb1.out.below hb_ (by rw [← hgb11]; exact BKb1.out.lt)); replace HL := hid (HL.out.trans (hb_.mono GEb11.out)); have BKb11 := hid hB_; clear hb_ hB_ hs_ hgb11)
          | ((with_reducible refine gate_s (t := 117) (p := 7) rfl ?_); refine ag_store aT117 gb11 0 #[.int .i64 0, .int .i64 0] #[.int .i64 2, .int .i64 2] #[.int .i64 2, .int .i64 2] BKb11.out rfl (by simp) (by intro v_ hv_; simp at hv_; rcases hv_ with rfl | rfl <;> first | rfl) rfl rfl _ _ rfl rfl rfl ?_; intro w71 ho_ hB_; replace BKb1 := hid (BKb1.out.off ho_ NBb1_b11.out); replace HL := hid (ho_.below HL.out GEb11.out); replace BKb11 := hid hB_; clear ho_ hB_))
         (try simp only [Act.put, sI, sZ, sS])
         have WR64 := i64_w
         have WR32 := i32_w
         refine up_regionW (by kernel_rfl) (by kernel_rfl) ?_
         refine q_do (.int .i64 x5_0) (fun w'_ hc_ => ex_mv (.tmp 5) (.inl rfl) _ rfl) rfl rfl ?_
         intro ts_ ht_; simp only [sI, sZ, sS] at ht_; subst ht_
         refine q_do (.agg (bv a0)) (fun w'_ hc_ => by obtain ⟨n_, hn_⟩ := hc_; exact ex_load boardT gb1 0 (bv a0) (bv a0) (by rw [hn_]; exact BKb1.out.below n_.below BKb1.out.lt) (av_le LN_a0.out) (av_ex LN_a0.out) _ rfl rfl) rfl rfl ?_
         intro ts_ ht_; simp only [sI, sZ, sS] at ht_; subst ht_
         refine q_do (.pointer (some ⟨gb11, 0, none⟩)) (fun w'_ hc_ => by obtain ⟨n_, hn_⟩ := hc_; exact ex_field 117 0 (.pointer (some ⟨gb11, 0, none⟩)) (.pointer (some ⟨gb11, 0, none⟩)) (fa117_0_0 gb11) _ rfl rfl) rfl rfl ?_
         intro ts_ ht_; simp only [sI, sZ, sS] at ht_; subst ht_
         refine q_do (.int .i64 2) (fun w'_ hc_ => by obtain ⟨n_, hn_⟩ := hc_; exact ex_get sT3 gb11 (0) (.int .i64 2) (#[.int .i64 2, .int .i64 2]) (by rw [hn_]; exact BKb11.out.below n_.below BKb11.out.lt) rfl _ rfl rfl) rfl rfl ?_
         intro ts_ ht_; simp only [sI, sZ, sS] at ht_; subst ht_
         refine q_do (.int .i64 a1) (fun w'_ hc_ => ex_mv (.tmp 1) (.inl rfl) _ rfl) rfl rfl ?_
         intro ts_ ht_; simp only [sI, sZ, sS] at ht_; subst ht_
         refine q_call (.int .i64 t12) 61 #[.agg (bv a0), .int .i64 2, .int .i64 a1] (fun w'_ => by go_simp) (fun w'_ hc_ => (i_board_Many.calls k65 a0 2 a1 LN_a0.out t12 _ A68.out).mono fun e_ w2_ h_ => ⟨h_.1, up_below hc_ h_.2⟩) rfl rfl ?_
         intro ts_ ht_; simp only [sI, sZ, sS] at ht_; subst ht_
         refine q_do (.pointer (some ⟨gb11, 1, none⟩)) (fun w'_ hc_ => by obtain ⟨n_, hn_⟩ := hc_; exact ex_field 117 1 (.pointer (some ⟨gb11, 0, none⟩)) (.pointer (some ⟨gb11, 1, none⟩)) (fa117_1_0 gb11) _ rfl rfl) rfl rfl ?_
         intro ts_ ht_; simp only [sI, sZ, sS] at ht_; subst ht_
         refine q_do (.int .i64 2) (fun w'_ hc_ => by obtain ⟨n_, hn_⟩ := hc_; exact ex_get sT3 gb11 (1) (.int .i64 2) (#[.int .i64 2, .int .i64 2]) (by rw [hn_]; exact BKb11.out.below n_.below BKb11.out.lt) rfl _ rfl rfl) rfl rfl ?_
         intro ts_ ht_; simp only [sI, sZ, sS] at ht_; subst ht_
         refine q_do (.int .i64 (wrap64 (t12 - 2))) (fun w'_ hc_ => by go_simp <;> (unfold wrap64; omega)) rfl rfl ?_
         intro ts_ ht_; simp only [sI, sZ, sS] at ht_; subst ht_
         refine q_do (.int .i64 0) (fun w'_ hc_ => by go_simp <;> (unfold wrap64; omega)) rfl rfl ?_
         intro ts_ ht_; simp only [sI, sZ, sS] at ht_; subst ht_
         refine q_do (.int .i64 (wrap64 (x5_0 + 0))) (fun w'_ hc_ => by go_simp <;> (unfold wrap64; omega)) rfl rfl ?_
         intro ts_ ht_; simp only [sI, sZ, sS] at ht_; subst ht_
         refine q_do (.int .i64 (wrap64 (x5_0 + 0))) (fun w'_ hc_ => ex_mv (.tmp 40) (.inr rfl) _ rfl) rfl rfl ?_
         intro ts_ ht_; simp only [sI, sZ, sS] at ht_; subst ht_
         refine q_end ?_
         rintro w8_ ⟨n_, rfl⟩
         replace BKb1 := hid (BKb1.out.below n_.below BKb1.out.lt)
         replace BKb11 := hid (BKb11.out.below n_.below BKb11.out.lt)
         replace HL := hid (HL.out.trans (n_.below.mono HL.out.size))
         generalize n_.world = w72 at *
         clear n_ WR64 WR32
         go_wp2_with fail
         (try simp only [Act.put, sI, sZ, sS])
         go_roundg k65
         case measure => have := HK64.out; omega
         case rel => exact ⟨wrap64 (x5_0 + 0), wrap64 (x27_0 + 1), (by first | rfl | (simp; done) | (simp [*]; done)), (by first | rfl | (simp; done) | (simp [*]; done)), H', (hid (by first | omega | (have := HK64.out; omega))), (hid (by exact BKb1.out)), HL⟩
        ·
         rw [if_neg c69] at H
         have c69b0 : decide ((wrap64 (t12 - 2)) < 0) = false := decide_eq_false c69
         have c69b1 : (if (wrap64 (t12 - 2)) < 0 then 0 else (wrap64 (t12 - 2))) = (wrap64 (t12 - 2)) := if_neg c69
         have c69b2 : max (wrap64 (t12 - 2)) 0 = (wrap64 (t12 - 2)) := by omega
         have hc69 := hid c69
         clear c69
         have H' := hid H
         clear H
         go_wp2_with (first
          | ((with_reducible refine gate_d (N := 29) rfl ?_); refine ag_fix (.agg #[.int .i64 2, .int .i64 2]) (ex_ix 118 (.agg #[.int .i64 2, .int .i64 2, .int .i64 4, .int .i64 2, .int .i64 5, .int .i64 1]) (.int .i64 x27_0) (.agg #[.int .i64 2, .int .i64 2]) (fun w_ => by rw [hc67.out]; kernel_rfl) _ _ rfl rfl rfl) rfl ?_)
          | ((with_reducible refine gate_d (N := 7) rfl ?_); obtain ⟨gb11, hgb11⟩ : ∃ g_, wr.heap.size = g_ := ⟨_, rfl⟩; refine ag_alloc aT117 gb11 hgb11 rfl rfl ?_; intro w73 hb_ hB_ hs_; have GEb11 : Hid (w.heap.size ≤ gb11) := hid (by have := HL.out.size; omega); have NBb1_b11 : Hid (gb1 ≠ gb11) := hid (by have := BKb1.out.lt; omega); have NBb11_b1 : Hid (gb11 ≠ gb1) := hid (by have := NBb1_b11.out; omega); replace BKb1 := hid (BKb1.out.below hb_ (by rw [← hgb11]; exact BKb1.out.lt)); replace HL := hid (HL.out.trans (hb_.mono GEb11.out)); have BKb11 := hid hB_; clear hb_ hB_ hs_ hgb11)
          | ((with_reducible refine gate_s (t := 117) (p := 7) rfl ?_); refine ag_store aT117 gb11 0 #[.int .i64 0, .int .i64 0] #[.int .i64 2, .int .i64 2] #[.int .i64 2, .int .i64 2] BKb11.out rfl (by simp) (by intro v_ hv_; simp at hv_; rcases hv_ with rfl | rfl <;> first | rfl) rfl rfl _ _ rfl rfl rfl ?_; intro w74 ho_ hB_; replace BKb1 := hid (BKb1.out.off ho_ NBb1_b11.out); replace HL := hid (ho_.below HL.out GEb11.out); replace BKb11 := hid hB_; clear ho_ hB_))
         (try simp only [Act.put, sI, sZ, sS])
         have WR64 := i64_w
         have WR32 := i32_w
         refine up_regionW (by kernel_rfl) (by kernel_rfl) ?_
         refine q_do (.int .i64 x5_0) (fun w'_ hc_ => ex_mv (.tmp 5) (.inl rfl) _ rfl) rfl rfl ?_
         intro ts_ ht_; simp only [sI, sZ, sS] at ht_; subst ht_
         refine q_do (.agg (bv a0)) (fun w'_ hc_ => by obtain ⟨n_, hn_⟩ := hc_; exact ex_load boardT gb1 0 (bv a0) (bv a0) (by rw [hn_]; exact BKb1.out.below n_.below BKb1.out.lt) (av_le LN_a0.out) (av_ex LN_a0.out) _ rfl rfl) rfl rfl ?_
         intro ts_ ht_; simp only [sI, sZ, sS] at ht_; subst ht_
         refine q_do (.pointer (some ⟨gb11, 0, none⟩)) (fun w'_ hc_ => by obtain ⟨n_, hn_⟩ := hc_; exact ex_field 117 0 (.pointer (some ⟨gb11, 0, none⟩)) (.pointer (some ⟨gb11, 0, none⟩)) (fa117_0_0 gb11) _ rfl rfl) rfl rfl ?_
         intro ts_ ht_; simp only [sI, sZ, sS] at ht_; subst ht_
         refine q_do (.int .i64 2) (fun w'_ hc_ => by obtain ⟨n_, hn_⟩ := hc_; exact ex_get sT3 gb11 (0) (.int .i64 2) (#[.int .i64 2, .int .i64 2]) (by rw [hn_]; exact BKb11.out.below n_.below BKb11.out.lt) rfl _ rfl rfl) rfl rfl ?_
         intro ts_ ht_; simp only [sI, sZ, sS] at ht_; subst ht_
         refine q_do (.int .i64 a1) (fun w'_ hc_ => ex_mv (.tmp 1) (.inl rfl) _ rfl) rfl rfl ?_
         intro ts_ ht_; simp only [sI, sZ, sS] at ht_; subst ht_
         refine q_call (.int .i64 t12) 61 #[.agg (bv a0), .int .i64 2, .int .i64 a1] (fun w'_ => by go_simp) (fun w'_ hc_ => (i_board_Many.calls k65 a0 2 a1 LN_a0.out t12 _ A68.out).mono fun e_ w2_ h_ => ⟨h_.1, up_below hc_ h_.2⟩) rfl rfl ?_
         intro ts_ ht_; simp only [sI, sZ, sS] at ht_; subst ht_
         refine q_do (.pointer (some ⟨gb11, 1, none⟩)) (fun w'_ hc_ => by obtain ⟨n_, hn_⟩ := hc_; exact ex_field 117 1 (.pointer (some ⟨gb11, 0, none⟩)) (.pointer (some ⟨gb11, 1, none⟩)) (fa117_1_0 gb11) _ rfl rfl) rfl rfl ?_
         intro ts_ ht_; simp only [sI, sZ, sS] at ht_; subst ht_
         refine q_do (.int .i64 2) (fun w'_ hc_ => by obtain ⟨n_, hn_⟩ := hc_; exact ex_get sT3 gb11 (1) (.int .i64 2) (#[.int .i64 2, .int .i64 2]) (by rw [hn_]; exact BKb11.out.below n_.below BKb11.out.lt) rfl _ rfl rfl) rfl rfl ?_
         intro ts_ ht_; simp only [sI, sZ, sS] at ht_; subst ht_
         refine q_do (.int .i64 (wrap64 (t12 - 2))) (fun w'_ hc_ => by go_simp <;> (unfold wrap64; omega)) rfl rfl ?_
         intro ts_ ht_; simp only [sI, sZ, sS] at ht_; subst ht_
         refine q_do (.int .i64 (wrap64 (t12 - 2))) (fun w'_ hc_ => by go_simp <;> (unfold wrap64; omega)) rfl rfl ?_
         intro ts_ ht_; simp only [sI, sZ, sS] at ht_; subst ht_
         refine q_do (.int .i64 (wrap64 (x5_0 + (wrap64 (t12 - 2))))) (fun w'_ hc_ => by go_simp <;> (unfold wrap64; omega)) rfl rfl ?_
         intro ts_ ht_; simp only [sI, sZ, sS] at ht_; subst ht_
         refine q_do (.int .i64 (wrap64 (x5_0 + (wrap64 (t12 - 2))))) (fun w'_ hc_ => ex_mv (.tmp 40) (.inr rfl) _ rfl) rfl rfl ?_
         intro ts_ ht_; simp only [sI, sZ, sS] at ht_; subst ht_
         refine q_end ?_
         rintro w8_ ⟨n_, rfl⟩
         replace BKb1 := hid (BKb1.out.below n_.below BKb1.out.lt)
         replace BKb11 := hid (BKb11.out.below n_.below BKb11.out.lt)
         replace HL := hid (HL.out.trans (n_.below.mono HL.out.size))
         generalize n_.world = w75 at *
         clear n_ WR64 WR32
         go_wp2_with fail
         (try simp only [Act.put, sI, sZ, sS])
         go_roundg k65
         case measure => have := HK64.out; omega
         case rel => exact ⟨wrap64 (x5_0 + (wrap64 (t12 - 2))), wrap64 (x27_0 + 1), (by first | rfl | (simp; done) | (simp [*]; done)), (by first | rfl | (simp; done) | (simp [*]; done)), H', (hid (by first | omega | (have := HK64.out; omega))), (hid (by exact BKb1.out)), HL⟩
       ·
        rw [if_neg c67] at H
        have c67b0 : (x27_0 == 0) = false := beq_eq_false_iff_ne.mpr c67
        have c67b1 : (x27_0 != 0) = true := bne_iff_ne.mpr c67
        have hc67 := hid c67
        clear c67
        by_cases c76 : x27_0 = 1
        ·
         rw [if_pos c76] at H
         have c76b0 : (x27_0 == 1) = true := beq_iff_eq.mpr c76
         have c76b1 : (x27_0 != 1) = false := bne_eq_false_iff_eq.mpr c76
         have hc76 := hid c76
         clear c76
         replace H := Option.bind_eq_some_iff.mp H
         obtain ⟨t14, A77_, H⟩ := H
         have A77 := hid A77_
         clear A77_
         by_cases c78 : (wrap64 (t14 - 2)) < 0
         ·
          rw [if_pos c78] at H
          have c78b0 : decide ((wrap64 (t14 - 2)) < 0) = true := decide_eq_true c78
          have c78b1 : (if (wrap64 (t14 - 2)) < 0 then 0 else (wrap64 (t14 - 2))) = 0 := if_pos c78
          have c78b2 : max (wrap64 (t14 - 2)) 0 = 0 := by omega
          have hc78 := hid c78
          clear c78
          have H' := hid H
          clear H
          go_wp2_with (first
           | ((with_reducible refine gate_d (N := 29) rfl ?_); refine ag_fix (.agg #[.int .i64 4, .int .i64 2]) (ex_ix 118 (.agg #[.int .i64 2, .int .i64 2, .int .i64 4, .int .i64 2, .int .i64 5, .int .i64 1]) (.int .i64 x27_0) (.agg #[.int .i64 4, .int .i64 2]) (fun w_ => by rw [hc76.out]; kernel_rfl) _ _ rfl rfl rfl) rfl ?_)
           | ((with_reducible refine gate_d (N := 7) rfl ?_); obtain ⟨gb13, hgb13⟩ : ∃ g_, wr.heap.size = g_ := ⟨_, rfl⟩; refine ag_alloc aT117 gb13 hgb13 rfl rfl ?_; intro w79 hb_ hB_ hs_; have GEb13 : Hid (w.heap.size ≤ gb13) := hid (by have := HL.out.size; omega); have NBb1_b13 : Hid (gb1 ≠ gb13) := hid (by have := BKb1.out.lt; omega); have NBb13_b1 : Hid (gb13 ≠ gb1) := hid (by have := NBb1_b13.out; omega); replace BKb1 := hid (BKb1.out.below hb_ (by rw [← hgb13]; exact BKb1.out.lt)); replace HL := hid (HL.out.trans (hb_.mono GEb13.out)); have BKb13 := hid hB_; clear hb_ hB_ hs_ hgb13)
           | ((with_reducible refine gate_s (t := 117) (p := 7) rfl ?_); refine ag_store aT117 gb13 0 #[.int .i64 0, .int .i64 0] #[.int .i64 4, .int .i64 2] #[.int .i64 4, .int .i64 2] BKb13.out rfl (by simp) (by intro v_ hv_; simp at hv_; rcases hv_ with rfl | rfl <;> first | rfl) rfl rfl _ _ rfl rfl rfl ?_; intro w80 ho_ hB_; replace BKb1 := hid (BKb1.out.off ho_ NBb1_b13.out); replace HL := hid (ho_.below HL.out GEb13.out); replace BKb13 := hid hB_; clear ho_ hB_))
          (try simp only [Act.put, sI, sZ, sS])
          have WR64 := i64_w
          have WR32 := i32_w
          refine up_regionW (by kernel_rfl) (by kernel_rfl) ?_
          refine q_do (.int .i64 x5_0) (fun w'_ hc_ => ex_mv (.tmp 5) (.inl rfl) _ rfl) rfl rfl ?_
          intro ts_ ht_; simp only [sI, sZ, sS] at ht_; subst ht_
          refine q_do (.agg (bv a0)) (fun w'_ hc_ => by obtain ⟨n_, hn_⟩ := hc_; exact ex_load boardT gb1 0 (bv a0) (bv a0) (by rw [hn_]; exact BKb1.out.below n_.below BKb1.out.lt) (av_le LN_a0.out) (av_ex LN_a0.out) _ rfl rfl) rfl rfl ?_
          intro ts_ ht_; simp only [sI, sZ, sS] at ht_; subst ht_
          refine q_do (.pointer (some ⟨gb13, 0, none⟩)) (fun w'_ hc_ => by obtain ⟨n_, hn_⟩ := hc_; exact ex_field 117 0 (.pointer (some ⟨gb13, 0, none⟩)) (.pointer (some ⟨gb13, 0, none⟩)) (fa117_0_0 gb13) _ rfl rfl) rfl rfl ?_
          intro ts_ ht_; simp only [sI, sZ, sS] at ht_; subst ht_
          refine q_do (.int .i64 4) (fun w'_ hc_ => by obtain ⟨n_, hn_⟩ := hc_; exact ex_get sT3 gb13 (0) (.int .i64 4) (#[.int .i64 4, .int .i64 2]) (by rw [hn_]; exact BKb13.out.below n_.below BKb13.out.lt) rfl _ rfl rfl) rfl rfl ?_
          intro ts_ ht_; simp only [sI, sZ, sS] at ht_; subst ht_
          refine q_do (.int .i64 a1) (fun w'_ hc_ => ex_mv (.tmp 1) (.inl rfl) _ rfl) rfl rfl ?_
          intro ts_ ht_; simp only [sI, sZ, sS] at ht_; subst ht_
          refine q_call (.int .i64 t14) 61 #[.agg (bv a0), .int .i64 4, .int .i64 a1] (fun w'_ => by go_simp) (fun w'_ hc_ => (i_board_Many.calls k65 a0 4 a1 LN_a0.out t14 _ A77.out).mono fun e_ w2_ h_ => ⟨h_.1, up_below hc_ h_.2⟩) rfl rfl ?_
          intro ts_ ht_; simp only [sI, sZ, sS] at ht_; subst ht_
          refine q_do (.pointer (some ⟨gb13, 1, none⟩)) (fun w'_ hc_ => by obtain ⟨n_, hn_⟩ := hc_; exact ex_field 117 1 (.pointer (some ⟨gb13, 0, none⟩)) (.pointer (some ⟨gb13, 1, none⟩)) (fa117_1_0 gb13) _ rfl rfl) rfl rfl ?_
          intro ts_ ht_; simp only [sI, sZ, sS] at ht_; subst ht_
          refine q_do (.int .i64 2) (fun w'_ hc_ => by obtain ⟨n_, hn_⟩ := hc_; exact ex_get sT3 gb13 (1) (.int .i64 2) (#[.int .i64 4, .int .i64 2]) (by rw [hn_]; exact BKb13.out.below n_.below BKb13.out.lt) rfl _ rfl rfl) rfl rfl ?_
          intro ts_ ht_; simp only [sI, sZ, sS] at ht_; subst ht_
          refine q_do (.int .i64 (wrap64 (t14 - 2))) (fun w'_ hc_ => by go_simp <;> (unfold wrap64; omega)) rfl rfl ?_
          intro ts_ ht_; simp only [sI, sZ, sS] at ht_; subst ht_
          refine q_do (.int .i64 0) (fun w'_ hc_ => by go_simp <;> (unfold wrap64; omega)) rfl rfl ?_
          intro ts_ ht_; simp only [sI, sZ, sS] at ht_; subst ht_
          refine q_do (.int .i64 (wrap64 (x5_0 + 0))) (fun w'_ hc_ => by go_simp <;> (unfold wrap64; omega)) rfl rfl ?_
          intro ts_ ht_; simp only [sI, sZ, sS] at ht_; subst ht_
          refine q_do (.int .i64 (wrap64 (x5_0 + 0))) (fun w'_ hc_ => ex_mv (.tmp 40) (.inr rfl) _ rfl) rfl rfl ?_
          intro ts_ ht_; simp only [sI, sZ, sS] at ht_; subst ht_
          refine q_end ?_
          rintro w8_ ⟨n_, rfl⟩
          replace BKb1 := hid (BKb1.out.below n_.below BKb1.out.lt)
          replace BKb13 := hid (BKb13.out.below n_.below BKb13.out.lt)
          replace HL := hid (HL.out.trans (n_.below.mono HL.out.size))
          generalize n_.world = w81 at *
          clear n_ WR64 WR32
          go_wp2_with fail
          (try simp only [Act.put, sI, sZ, sS])
          go_roundg k65
          case measure => have := HK64.out; omega
          case rel => exact ⟨wrap64 (x5_0 + 0), wrap64 (x27_0 + 1), (by first | rfl | (simp; done) | (simp [*]; done)), (by first | rfl | (simp; done) | (simp [*]; done)), H', (hid (by first | omega | (have := HK64.out; omega))), (hid (by exact BKb1.out)), HL⟩
         ·
          rw [if_neg c78] at H
          have c78b0 : decide ((wrap64 (t14 - 2)) < 0) = false := decide_eq_false c78
          have c78b1 : (if (wrap64 (t14 - 2)) < 0 then 0 else (wrap64 (t14 - 2))) = (wrap64 (t14 - 2)) := if_neg c78
          have c78b2 : max (wrap64 (t14 - 2)) 0 = (wrap64 (t14 - 2)) := by omega
          have hc78 := hid c78
          clear c78
          have H' := hid H
          clear H
          go_wp2_with (first
           | ((with_reducible refine gate_d (N := 29) rfl ?_); refine ag_fix (.agg #[.int .i64 4, .int .i64 2]) (ex_ix 118 (.agg #[.int .i64 2, .int .i64 2, .int .i64 4, .int .i64 2, .int .i64 5, .int .i64 1]) (.int .i64 x27_0) (.agg #[.int .i64 4, .int .i64 2]) (fun w_ => by rw [hc76.out]; kernel_rfl) _ _ rfl rfl rfl) rfl ?_)
           | ((with_reducible refine gate_d (N := 7) rfl ?_); obtain ⟨gb13, hgb13⟩ : ∃ g_, wr.heap.size = g_ := ⟨_, rfl⟩; refine ag_alloc aT117 gb13 hgb13 rfl rfl ?_; intro w82 hb_ hB_ hs_; have GEb13 : Hid (w.heap.size ≤ gb13) := hid (by have := HL.out.size; omega); have NBb1_b13 : Hid (gb1 ≠ gb13) := hid (by have := BKb1.out.lt; omega); have NBb13_b1 : Hid (gb13 ≠ gb1) := hid (by have := NBb1_b13.out; omega); replace BKb1 := hid (BKb1.out.below hb_ (by rw [← hgb13]; exact BKb1.out.lt)); replace HL := hid (HL.out.trans (hb_.mono GEb13.out)); have BKb13 := hid hB_; clear hb_ hB_ hs_ hgb13)
           | ((with_reducible refine gate_s (t := 117) (p := 7) rfl ?_); refine ag_store aT117 gb13 0 #[.int .i64 0, .int .i64 0] #[.int .i64 4, .int .i64 2] #[.int .i64 4, .int .i64 2] BKb13.out rfl (by simp) (by intro v_ hv_; simp at hv_; rcases hv_ with rfl | rfl <;> first | rfl) rfl rfl _ _ rfl rfl rfl ?_; intro w83 ho_ hB_; replace BKb1 := hid (BKb1.out.off ho_ NBb1_b13.out); replace HL := hid (ho_.below HL.out GEb13.out); replace BKb13 := hid hB_; clear ho_ hB_))
          (try simp only [Act.put, sI, sZ, sS])
          have WR64 := i64_w
          have WR32 := i32_w
          refine up_regionW (by kernel_rfl) (by kernel_rfl) ?_
          refine q_do (.int .i64 x5_0) (fun w'_ hc_ => ex_mv (.tmp 5) (.inl rfl) _ rfl) rfl rfl ?_
          intro ts_ ht_; simp only [sI, sZ, sS] at ht_; subst ht_
          refine q_do (.agg (bv a0)) (fun w'_ hc_ => by obtain ⟨n_, hn_⟩ := hc_; exact ex_load boardT gb1 0 (bv a0) (bv a0) (by rw [hn_]; exact BKb1.out.below n_.below BKb1.out.lt) (av_le LN_a0.out) (av_ex LN_a0.out) _ rfl rfl) rfl rfl ?_
          intro ts_ ht_; simp only [sI, sZ, sS] at ht_; subst ht_
          refine q_do (.pointer (some ⟨gb13, 0, none⟩)) (fun w'_ hc_ => by obtain ⟨n_, hn_⟩ := hc_; exact ex_field 117 0 (.pointer (some ⟨gb13, 0, none⟩)) (.pointer (some ⟨gb13, 0, none⟩)) (fa117_0_0 gb13) _ rfl rfl) rfl rfl ?_
          intro ts_ ht_; simp only [sI, sZ, sS] at ht_; subst ht_
          refine q_do (.int .i64 4) (fun w'_ hc_ => by obtain ⟨n_, hn_⟩ := hc_; exact ex_get sT3 gb13 (0) (.int .i64 4) (#[.int .i64 4, .int .i64 2]) (by rw [hn_]; exact BKb13.out.below n_.below BKb13.out.lt) rfl _ rfl rfl) rfl rfl ?_
          intro ts_ ht_; simp only [sI, sZ, sS] at ht_; subst ht_
          refine q_do (.int .i64 a1) (fun w'_ hc_ => ex_mv (.tmp 1) (.inl rfl) _ rfl) rfl rfl ?_
          intro ts_ ht_; simp only [sI, sZ, sS] at ht_; subst ht_
          refine q_call (.int .i64 t14) 61 #[.agg (bv a0), .int .i64 4, .int .i64 a1] (fun w'_ => by go_simp) (fun w'_ hc_ => (i_board_Many.calls k65 a0 4 a1 LN_a0.out t14 _ A77.out).mono fun e_ w2_ h_ => ⟨h_.1, up_below hc_ h_.2⟩) rfl rfl ?_
          intro ts_ ht_; simp only [sI, sZ, sS] at ht_; subst ht_
          refine q_do (.pointer (some ⟨gb13, 1, none⟩)) (fun w'_ hc_ => by obtain ⟨n_, hn_⟩ := hc_; exact ex_field 117 1 (.pointer (some ⟨gb13, 0, none⟩)) (.pointer (some ⟨gb13, 1, none⟩)) (fa117_1_0 gb13) _ rfl rfl) rfl rfl ?_
          intro ts_ ht_; simp only [sI, sZ, sS] at ht_; subst ht_
          refine q_do (.int .i64 2) (fun w'_ hc_ => by obtain ⟨n_, hn_⟩ := hc_; exact ex_get sT3 gb13 (1) (.int .i64 2) (#[.int .i64 4, .int .i64 2]) (by rw [hn_]; exact BKb13.out.below n_.below BKb13.out.lt) rfl _ rfl rfl) rfl rfl ?_
          intro ts_ ht_; simp only [sI, sZ, sS] at ht_; subst ht_
          refine q_do (.int .i64 (wrap64 (t14 - 2))) (fun w'_ hc_ => by go_simp <;> (unfold wrap64; omega)) rfl rfl ?_
          intro ts_ ht_; simp only [sI, sZ, sS] at ht_; subst ht_
          refine q_do (.int .i64 (wrap64 (t14 - 2))) (fun w'_ hc_ => by go_simp <;> (unfold wrap64; omega)) rfl rfl ?_
          intro ts_ ht_; simp only [sI, sZ, sS] at ht_; subst ht_
          refine q_do (.int .i64 (wrap64 (x5_0 + (wrap64 (t14 - 2))))) (fun w'_ hc_ => by go_simp <;> (unfold wrap64; omega)) rfl rfl ?_
          intro ts_ ht_; simp only [sI, sZ, sS] at ht_; subst ht_
          refine q_do (.int .i64 (wrap64 (x5_0 + (wrap64 (t14 - 2))))) (fun w'_ hc_ => ex_mv (.tmp 40) (.inr rfl) _ rfl) rfl rfl ?_
          intro ts_ ht_; simp only [sI, sZ, sS] at ht_; subst ht_
          refine q_end ?_
          rintro w8_ ⟨n_, rfl⟩
          replace BKb1 := hid (BKb1.out.below n_.below BKb1.out.lt)
          replace BKb13 := hid (BKb13.out.below n_.below BKb13.out.lt)
          replace HL := hid (HL.out.trans (n_.below.mono HL.out.size))
          generalize n_.world = w84 at *
          clear n_ WR64 WR32
          go_wp2_with fail
          (try simp only [Act.put, sI, sZ, sS])
          go_roundg k65
          case measure => have := HK64.out; omega
          case rel => exact ⟨wrap64 (x5_0 + (wrap64 (t14 - 2))), wrap64 (x27_0 + 1), (by first | rfl | (simp; done) | (simp [*]; done)), (by first | rfl | (simp; done) | (simp [*]; done)), H', (hid (by first | omega | (have := HK64.out; omega))), (hid (by exact BKb1.out)), HL⟩
        ·
         rw [if_neg c76] at H
         have c76b0 : (x27_0 == 1) = false := beq_eq_false_iff_ne.mpr c76
         have c76b1 : (x27_0 != 1) = true := bne_iff_ne.mpr c76
         have hc76 := hid c76
         clear c76
         by_cases c85 : x27_0 = 2
         ·
          rw [if_pos c85] at H
          have c85b0 : (x27_0 == 2) = true := beq_iff_eq.mpr c85
          have c85b1 : (x27_0 != 2) = false := bne_eq_false_iff_eq.mpr c85
          have hc85 := hid c85
          clear c85
          replace H := Option.bind_eq_some_iff.mp H
          obtain ⟨t16, A86_, H⟩ := H
          have A86 := hid A86_
          clear A86_
          by_cases c87 : (wrap64 (t16 - 1)) < 0
          ·
           rw [if_pos c87] at H
           have c87b0 : decide ((wrap64 (t16 - 1)) < 0) = true := decide_eq_true c87
           have c87b1 : (if (wrap64 (t16 - 1)) < 0 then 0 else (wrap64 (t16 - 1))) = 0 := if_pos c87
           have c87b2 : max (wrap64 (t16 - 1)) 0 = 0 := by omega
           have hc87 := hid c87
           clear c87
           have H' := hid H
           clear H
           go_wp2_with (first
            | ((with_reducible refine gate_d (N := 29) rfl ?_); refine ag_fix (.agg #[.int .i64 5, .int .i64 1]) (ex_ix 118 (.agg #[.int .i64 2, .int .i64 2, .int .i64 4, .int .i64 2, .int .i64 5, .int .i64 1]) (.int .i64 x27_0) (.agg #[.int .i64 5, .int .i64 1]) (fun w_ => by rw [hc85.out]; kernel_rfl) _ _ rfl rfl rfl) rfl ?_)
            | ((with_reducible refine gate_d (N := 7) rfl ?_); obtain ⟨gb15, hgb15⟩ : ∃ g_, wr.heap.size = g_ := ⟨_, rfl⟩; refine ag_alloc aT117 gb15 hgb15 rfl rfl ?_; intro w88 hb_ hB_ hs_; have GEb15 : Hid (w.heap.size ≤ gb15) := hid (by have := HL.out.size; omega); have NBb1_b15 : Hid (gb1 ≠ gb15) := hid (by have := BKb1.out.lt; omega); have NBb15_b1 : Hid (gb15 ≠ gb1) := hid (by have := NBb1_b15.out; omega); replace BKb1 := hid (BKb1.out.below hb_ (by rw [← hgb15]; exact BKb1.out.lt)); replace HL := hid (HL.out.trans (hb_.mono GEb15.out)); have BKb15 := hid hB_; clear hb_ hB_ hs_ hgb15)
            | ((with_reducible refine gate_s (t := 117) (p := 7) rfl ?_); refine ag_store aT117 gb15 0 #[.int .i64 0, .int .i64 0] #[.int .i64 5, .int .i64 1] #[.int .i64 5, .int .i64 1] BKb15.out rfl (by simp) (by intro v_ hv_; simp at hv_; rcases hv_ with rfl | rfl <;> first | rfl) rfl rfl _ _ rfl rfl rfl ?_; intro w89 ho_ hB_; replace BKb1 := hid (BKb1.out.off ho_ NBb1_b15.out); replace HL := hid (ho_.below HL.out GEb15.out); replace BKb15 := hid hB_; clear ho_ hB_))
           (try simp only [Act.put, sI, sZ, sS])
           have WR64 := i64_w
           have WR32 := i32_w
           refine up_regionW (by kernel_rfl) (by kernel_rfl) ?_
           refine q_do (.int .i64 x5_0) (fun w'_ hc_ => ex_mv (.tmp 5) (.inl rfl) _ rfl) rfl rfl ?_
           intro ts_ ht_; simp only [sI, sZ, sS] at ht_; subst ht_
           refine q_do (.agg (bv a0)) (fun w'_ hc_ => by obtain ⟨n_, hn_⟩ := hc_; exact ex_load boardT gb1 0 (bv a0) (bv a0) (by rw [hn_]; exact BKb1.out.below n_.below BKb1.out.lt) (av_le LN_a0.out) (av_ex LN_a0.out) _ rfl rfl) rfl rfl ?_
           intro ts_ ht_; simp only [sI, sZ, sS] at ht_; subst ht_
           refine q_do (.pointer (some ⟨gb15, 0, none⟩)) (fun w'_ hc_ => by obtain ⟨n_, hn_⟩ := hc_; exact ex_field 117 0 (.pointer (some ⟨gb15, 0, none⟩)) (.pointer (some ⟨gb15, 0, none⟩)) (fa117_0_0 gb15) _ rfl rfl) rfl rfl ?_
           intro ts_ ht_; simp only [sI, sZ, sS] at ht_; subst ht_
           refine q_do (.int .i64 5) (fun w'_ hc_ => by obtain ⟨n_, hn_⟩ := hc_; exact ex_get sT3 gb15 (0) (.int .i64 5) (#[.int .i64 5, .int .i64 1]) (by rw [hn_]; exact BKb15.out.below n_.below BKb15.out.lt) rfl _ rfl rfl) rfl rfl ?_
           intro ts_ ht_; simp only [sI, sZ, sS] at ht_; subst ht_
           refine q_do (.int .i64 a1) (fun w'_ hc_ => ex_mv (.tmp 1) (.inl rfl) _ rfl) rfl rfl ?_
           intro ts_ ht_; simp only [sI, sZ, sS] at ht_; subst ht_
           refine q_call (.int .i64 t16) 61 #[.agg (bv a0), .int .i64 5, .int .i64 a1] (fun w'_ => by go_simp) (fun w'_ hc_ => (i_board_Many.calls k65 a0 5 a1 LN_a0.out t16 _ A86.out).mono fun e_ w2_ h_ => ⟨h_.1, up_below hc_ h_.2⟩) rfl rfl ?_
           intro ts_ ht_; simp only [sI, sZ, sS] at ht_; subst ht_
           refine q_do (.pointer (some ⟨gb15, 1, none⟩)) (fun w'_ hc_ => by obtain ⟨n_, hn_⟩ := hc_; exact ex_field 117 1 (.pointer (some ⟨gb15, 0, none⟩)) (.pointer (some ⟨gb15, 1, none⟩)) (fa117_1_0 gb15) _ rfl rfl) rfl rfl ?_
           intro ts_ ht_; simp only [sI, sZ, sS] at ht_; subst ht_
           refine q_do (.int .i64 1) (fun w'_ hc_ => by obtain ⟨n_, hn_⟩ := hc_; exact ex_get sT3 gb15 (1) (.int .i64 1) (#[.int .i64 5, .int .i64 1]) (by rw [hn_]; exact BKb15.out.below n_.below BKb15.out.lt) rfl _ rfl rfl) rfl rfl ?_
           intro ts_ ht_; simp only [sI, sZ, sS] at ht_; subst ht_
           refine q_do (.int .i64 (wrap64 (t16 - 1))) (fun w'_ hc_ => by go_simp <;> (unfold wrap64; omega)) rfl rfl ?_
           intro ts_ ht_; simp only [sI, sZ, sS] at ht_; subst ht_
           refine q_do (.int .i64 0) (fun w'_ hc_ => by go_simp <;> (unfold wrap64; omega)) rfl rfl ?_
           intro ts_ ht_; simp only [sI, sZ, sS] at ht_; subst ht_
           refine q_do (.int .i64 (wrap64 (x5_0 + 0))) (fun w'_ hc_ => by go_simp <;> (unfold wrap64; omega)) rfl rfl ?_
           intro ts_ ht_; simp only [sI, sZ, sS] at ht_; subst ht_
           refine q_do (.int .i64 (wrap64 (x5_0 + 0))) (fun w'_ hc_ => ex_mv (.tmp 40) (.inr rfl) _ rfl) rfl rfl ?_
           intro ts_ ht_; simp only [sI, sZ, sS] at ht_; subst ht_
           refine q_end ?_
           rintro w8_ ⟨n_, rfl⟩
           replace BKb1 := hid (BKb1.out.below n_.below BKb1.out.lt)
           replace BKb15 := hid (BKb15.out.below n_.below BKb15.out.lt)
           replace HL := hid (HL.out.trans (n_.below.mono HL.out.size))
           generalize n_.world = w90 at *
           clear n_ WR64 WR32
           go_wp2_with fail
           (try simp only [Act.put, sI, sZ, sS])
           go_roundg k65
           case measure => have := HK64.out; omega
           case rel => exact ⟨wrap64 (x5_0 + 0), wrap64 (x27_0 + 1), (by first | rfl | (simp; done) | (simp [*]; done)), (by first | rfl | (simp; done) | (simp [*]; done)), H', (hid (by first | omega | (have := HK64.out; omega))), (hid (by exact BKb1.out)), HL⟩
          ·
           rw [if_neg c87] at H
           have c87b0 : decide ((wrap64 (t16 - 1)) < 0) = false := decide_eq_false c87
           have c87b1 : (if (wrap64 (t16 - 1)) < 0 then 0 else (wrap64 (t16 - 1))) = (wrap64 (t16 - 1)) := if_neg c87
           have c87b2 : max (wrap64 (t16 - 1)) 0 = (wrap64 (t16 - 1)) := by omega
           have hc87 := hid c87
           clear c87
           have H' := hid H
           clear H
           go_wp2_with (first
            | ((with_reducible refine gate_d (N := 29) rfl ?_); refine ag_fix (.agg #[.int .i64 5, .int .i64 1]) (ex_ix 118 (.agg #[.int .i64 2, .int .i64 2, .int .i64 4, .int .i64 2, .int .i64 5, .int .i64 1]) (.int .i64 x27_0) (.agg #[.int .i64 5, .int .i64 1]) (fun w_ => by rw [hc85.out]; kernel_rfl) _ _ rfl rfl rfl) rfl ?_)
            | ((with_reducible refine gate_d (N := 7) rfl ?_); obtain ⟨gb15, hgb15⟩ : ∃ g_, wr.heap.size = g_ := ⟨_, rfl⟩; refine ag_alloc aT117 gb15 hgb15 rfl rfl ?_; intro w91 hb_ hB_ hs_; have GEb15 : Hid (w.heap.size ≤ gb15) := hid (by have := HL.out.size; omega); have NBb1_b15 : Hid (gb1 ≠ gb15) := hid (by have := BKb1.out.lt; omega); have NBb15_b1 : Hid (gb15 ≠ gb1) := hid (by have := NBb1_b15.out; omega); replace BKb1 := hid (BKb1.out.below hb_ (by rw [← hgb15]; exact BKb1.out.lt)); replace HL := hid (HL.out.trans (hb_.mono GEb15.out)); have BKb15 := hid hB_; clear hb_ hB_ hs_ hgb15)
            | ((with_reducible refine gate_s (t := 117) (p := 7) rfl ?_); refine ag_store aT117 gb15 0 #[.int .i64 0, .int .i64 0] #[.int .i64 5, .int .i64 1] #[.int .i64 5, .int .i64 1] BKb15.out rfl (by simp) (by intro v_ hv_; simp at hv_; rcases hv_ with rfl | rfl <;> first | rfl) rfl rfl _ _ rfl rfl rfl ?_; intro w92 ho_ hB_; replace BKb1 := hid (BKb1.out.off ho_ NBb1_b15.out); replace HL := hid (ho_.below HL.out GEb15.out); replace BKb15 := hid hB_; clear ho_ hB_))
           (try simp only [Act.put, sI, sZ, sS])
           have WR64 := i64_w
           have WR32 := i32_w
           refine up_regionW (by kernel_rfl) (by kernel_rfl) ?_
           refine q_do (.int .i64 x5_0) (fun w'_ hc_ => ex_mv (.tmp 5) (.inl rfl) _ rfl) rfl rfl ?_
           intro ts_ ht_; simp only [sI, sZ, sS] at ht_; subst ht_
           refine q_do (.agg (bv a0)) (fun w'_ hc_ => by obtain ⟨n_, hn_⟩ := hc_; exact ex_load boardT gb1 0 (bv a0) (bv a0) (by rw [hn_]; exact BKb1.out.below n_.below BKb1.out.lt) (av_le LN_a0.out) (av_ex LN_a0.out) _ rfl rfl) rfl rfl ?_
           intro ts_ ht_; simp only [sI, sZ, sS] at ht_; subst ht_
           refine q_do (.pointer (some ⟨gb15, 0, none⟩)) (fun w'_ hc_ => by obtain ⟨n_, hn_⟩ := hc_; exact ex_field 117 0 (.pointer (some ⟨gb15, 0, none⟩)) (.pointer (some ⟨gb15, 0, none⟩)) (fa117_0_0 gb15) _ rfl rfl) rfl rfl ?_
           intro ts_ ht_; simp only [sI, sZ, sS] at ht_; subst ht_
           refine q_do (.int .i64 5) (fun w'_ hc_ => by obtain ⟨n_, hn_⟩ := hc_; exact ex_get sT3 gb15 (0) (.int .i64 5) (#[.int .i64 5, .int .i64 1]) (by rw [hn_]; exact BKb15.out.below n_.below BKb15.out.lt) rfl _ rfl rfl) rfl rfl ?_
           intro ts_ ht_; simp only [sI, sZ, sS] at ht_; subst ht_
           refine q_do (.int .i64 a1) (fun w'_ hc_ => ex_mv (.tmp 1) (.inl rfl) _ rfl) rfl rfl ?_
           intro ts_ ht_; simp only [sI, sZ, sS] at ht_; subst ht_
           refine q_call (.int .i64 t16) 61 #[.agg (bv a0), .int .i64 5, .int .i64 a1] (fun w'_ => by go_simp) (fun w'_ hc_ => (i_board_Many.calls k65 a0 5 a1 LN_a0.out t16 _ A86.out).mono fun e_ w2_ h_ => ⟨h_.1, up_below hc_ h_.2⟩) rfl rfl ?_
           intro ts_ ht_; simp only [sI, sZ, sS] at ht_; subst ht_
           refine q_do (.pointer (some ⟨gb15, 1, none⟩)) (fun w'_ hc_ => by obtain ⟨n_, hn_⟩ := hc_; exact ex_field 117 1 (.pointer (some ⟨gb15, 0, none⟩)) (.pointer (some ⟨gb15, 1, none⟩)) (fa117_1_0 gb15) _ rfl rfl) rfl rfl ?_
           intro ts_ ht_; simp only [sI, sZ, sS] at ht_; subst ht_
           refine q_do (.int .i64 1) (fun w'_ hc_ => by obtain ⟨n_, hn_⟩ := hc_; exact ex_get sT3 gb15 (1) (.int .i64 1) (#[.int .i64 5, .int .i64 1]) (by rw [hn_]; exact BKb15.out.below n_.below BKb15.out.lt) rfl _ rfl rfl) rfl rfl ?_
           intro ts_ ht_; simp only [sI, sZ, sS] at ht_; subst ht_
           refine q_do (.int .i64 (wrap64 (t16 - 1))) (fun w'_ hc_ => by go_simp <;> (unfold wrap64; omega)) rfl rfl ?_
           intro ts_ ht_; simp only [sI, sZ, sS] at ht_; subst ht_
           refine q_do (.int .i64 (wrap64 (t16 - 1))) (fun w'_ hc_ => by go_simp <;> (unfold wrap64; omega)) rfl rfl ?_
           intro ts_ ht_; simp only [sI, sZ, sS] at ht_; subst ht_
           refine q_do (.int .i64 (wrap64 (x5_0 + (wrap64 (t16 - 1))))) (fun w'_ hc_ => by go_simp <;> (unfold wrap64; omega)) rfl rfl ?_
           intro ts_ ht_; simp only [sI, sZ, sS] at ht_; subst ht_
           refine q_do (.int .i64 (wrap64 (x5_0 + (wrap64 (t16 - 1))))) (fun w'_ hc_ => ex_mv (.tmp 40) (.inr rfl) _ rfl) rfl rfl ?_
           intro ts_ ht_; simp only [sI, sZ, sS] at ht_; subst ht_
           refine q_end ?_
           rintro w8_ ⟨n_, rfl⟩
           replace BKb1 := hid (BKb1.out.below n_.below BKb1.out.lt)
           replace BKb15 := hid (BKb15.out.below n_.below BKb15.out.lt)
           replace HL := hid (HL.out.trans (n_.below.mono HL.out.size))
           generalize n_.world = w93 at *
           clear n_ WR64 WR32
           go_wp2_with fail
           (try simp only [Act.put, sI, sZ, sS])
           go_roundg k65
           case measure => have := HK64.out; omega
           case rel => exact ⟨wrap64 (x5_0 + (wrap64 (t16 - 1))), wrap64 (x27_0 + 1), (by first | rfl | (simp; done) | (simp [*]; done)), (by first | rfl | (simp; done) | (simp [*]; done)), H', (hid (by first | omega | (have := HK64.out; omega))), (hid (by exact BKb1.out)), HL⟩
         ·
          rw [if_neg c85] at H
          exact absurd H (by simp)
      ·
       rw [if_neg c66] at H
       have c66b0 : decide (x27_0 < 3) = false := decide_eq_false c66
       have hc66 := hid c66
       clear c66
       obtain rfl := Option.some.inj H
       clear H
       go_wp2_with fail
       (try simp only [Act.put, sI, sZ, sS])
       go_ret
       exact ⟨by first | rfl | (simp; done) | (simp [*]; done), HL.out⟩
   ·
    rw [if_neg c59] at H
    have c59b0 : decide ((wrap64 (t4 - 1)) < 0) = false := decide_eq_false c59
    have c59b1 : (if (wrap64 (t4 - 1)) < 0 then 0 else (wrap64 (t4 - 1))) = (wrap64 (t4 - 1)) := if_neg c59
    have c59b2 : max (wrap64 (t4 - 1)) 0 = (wrap64 (t4 - 1)) := by omega
    have hc59 := hid c59
    clear c59
    have H' := hid H
    clear H
    go_enter Try.func41, Try.ntmps41
    have k95 := True.intro
    go_wp2_with (first
     | ((with_reducible refine gate_d (N := 2) rfl ?_); obtain ⟨gb1, hgb1⟩ : ∃ g_, w.heap.size = g_ := ⟨_, rfl⟩; refine ag_box (bv a0) gb1 hgb1 rfl _ rfl rfl ?_; intro w94 hb_ hB_ hs_; have GEb1 : Hid (w.heap.size ≤ gb1) := hid (by have := HL.out.size; omega); replace HL := hid (HL.out.trans (hb_.mono GEb1.out)); have BKb1 := hid hB_; clear hb_ hB_ hs_ hgb1)
     | ((with_reducible refine gate_d (N := 8) rfl ?_); refine ag_fix (.agg (bv a0)) (ex_load boardT gb1 0 (bv a0) (bv a0) BKb1.out (av_le LN_a0.out) (av_ex LN_a0.out) _ rfl rfl) rfl ?_)
     | (go_at_call 66; clear k95; refine (i_count_known.calls k a0 a1 LN_a0.out true _ A54.out).mono ?_; rintro e_ w96 ⟨rfl, hb_⟩; replace BKb1 := hid (BKb1.out.below hb_ BKb1.out.lt); replace HL := hid (HL.out.trans (hb_.mono HL.out.size)); clear hb_))
    (try simp only [Act.put, sI, sZ, sS])
    have WR64 := i64_w
    have WR32 := i32_w
    refine up_regionW (by kernel_rfl) (by kernel_rfl) ?_
    refine q_do (.agg (bv a0)) (fun w'_ hc_ => by obtain ⟨n_, hn_⟩ := hc_; exact ex_load boardT gb1 0 (bv a0) (bv a0) (by rw [hn_]; exact BKb1.out.below n_.below BKb1.out.lt) (av_le LN_a0.out) (av_ex LN_a0.out) _ rfl rfl) rfl rfl ?_
    intro ts_ ht_; simp only [sI, sZ, sS] at ht_; subst ht_
    refine q_do (.int .i64 a1) (fun w'_ hc_ => ex_mv (.tmp 1) (.inl rfl) _ rfl) rfl rfl ?_
    intro ts_ ht_; simp only [sI, sZ, sS] at ht_; subst ht_
    refine q_call (.int .i64 t3) 72 #[.agg (bv a0), .int .i64 a1, .bool true] (fun w'_ => by go_simp) (fun w'_ hc_ => (i_count_bishops.calls k a0 a1 true LN_a0.out t3 _ A56.out).mono fun e_ w2_ h_ => ⟨h_.1, up_below hc_ h_.2⟩) rfl rfl ?_
    intro ts_ ht_; simp only [sI, sZ, sS] at ht_; subst ht_
    refine q_do (.int .i64 (wrap64 (t3 - 1))) (fun w'_ hc_ => by go_simp <;> (unfold wrap64; omega)) rfl rfl ?_
    intro ts_ ht_; simp only [sI, sZ, sS] at ht_; subst ht_
    refine q_do (.int .i64 0) (fun w'_ hc_ => by go_simp <;> (unfold wrap64; omega)) rfl rfl ?_
    intro ts_ ht_; simp only [sI, sZ, sS] at ht_; subst ht_
    refine q_do (.agg (bv a0)) (fun w'_ hc_ => by obtain ⟨n_, hn_⟩ := hc_; exact ex_load boardT gb1 0 (bv a0) (bv a0) (by rw [hn_]; exact BKb1.out.below n_.below BKb1.out.lt) (av_le LN_a0.out) (av_ex LN_a0.out) _ rfl rfl) rfl rfl ?_
    intro ts_ ht_; simp only [sI, sZ, sS] at ht_; subst ht_
    refine q_do (.int .i64 a1) (fun w'_ hc_ => ex_mv (.tmp 1) (.inl rfl) _ rfl) rfl rfl ?_
    intro ts_ ht_; simp only [sI, sZ, sS] at ht_; subst ht_
    refine q_call (.int .i64 t4) 72 #[.agg (bv a0), .int .i64 a1, .bool false] (fun w'_ => by go_simp) (fun w'_ hc_ => (i_count_bishops.calls k a0 a1 false LN_a0.out t4 _ A58.out).mono fun e_ w2_ h_ => ⟨h_.1, up_below hc_ h_.2⟩) rfl rfl ?_
    intro ts_ ht_; simp only [sI, sZ, sS] at ht_; subst ht_
    refine q_do (.int .i64 (wrap64 (t4 - 1))) (fun w'_ hc_ => by go_simp <;> (unfold wrap64; omega)) rfl rfl ?_
    intro ts_ ht_; simp only [sI, sZ, sS] at ht_; subst ht_
    refine q_do (.int .i64 (wrap64 (t4 - 1))) (fun w'_ hc_ => by go_simp <;> (unfold wrap64; omega)) rfl rfl ?_
    intro ts_ ht_; simp only [sI, sZ, sS] at ht_; subst ht_
    refine q_do (.int .i64 (wrap64 (0 + (wrap64 (t4 - 1))))) (fun w'_ hc_ => by go_simp <;> (unfold wrap64; omega)) rfl rfl ?_
    intro ts_ ht_; simp only [sI, sZ, sS] at ht_; subst ht_
    refine q_do (.int .i64 (wrap64 (0 + (wrap64 (t4 - 1))))) (fun w'_ hc_ => ex_mv (.tmp 22) (.inr rfl) _ rfl) rfl rfl ?_
    intro ts_ ht_; simp only [sI, sZ, sS] at ht_; subst ht_
    refine q_end ?_
    rintro w8_ ⟨n_, rfl⟩
    replace BKb1 := hid (BKb1.out.below n_.below BKb1.out.lt)
    replace HL := hid (HL.out.trans (n_.below.mono HL.out.size))
    generalize n_.world = w97 at *
    clear n_ WR64 WR32
    go_wp2_with (first
     | ((with_reducible refine gate_d (N := 23) rfl ?_); refine ag_build (.agg #[.int .i64 2, .int .i64 2]) _ rfl rfl ?_ ?_; (intro ww_; simp only [List.map_toArray, List.map_cons, List.map_nil]; kernel_rfl))
     | ((with_reducible refine gate_d (N := 24) rfl ?_); refine ag_build (.agg #[.int .i64 4, .int .i64 2]) _ rfl rfl ?_ ?_; (intro ww_; simp only [List.map_toArray, List.map_cons, List.map_nil]; kernel_rfl))
     | ((with_reducible refine gate_d (N := 25) rfl ?_); refine ag_build (.agg #[.int .i64 5, .int .i64 1]) _ rfl rfl ?_ ?_; (intro ww_; simp only [List.map_toArray, List.map_cons, List.map_nil]; kernel_rfl))
     | ((with_reducible refine gate_d (N := 26) rfl ?_); refine ag_build (.agg #[.int .i64 2, .int .i64 2, .int .i64 4, .int .i64 2, .int .i64 5, .int .i64 1]) _ rfl rfl ?_ ?_; (intro ww_; simp only [List.map_toArray, List.map_cons, List.map_nil]; kernel_rfl)))
    (try simp only [Act.put, sI, sZ, sS])
    go_loopg [5, 27] k (fun kq v5 v27 w' => ∃ (x5_1 : Int) (x27_1 : Int), v5 = .int .i64 x5_1 ∧ v27 = .int .i64 x27_1 ∧ Hid (i_count_Promoted.l1 kq a0 a1 x5_1 x27_1 = some r1) ∧ Hid (kq ≤ k) ∧ Hid (Blk w' gb1 44 (bv a0)) ∧ Hid (Below w.heap.size w w'))
    case atStart => exact ⟨wrap64 (0 + (wrap64 (t4 - 1))), (0 : Int), (by first | rfl | (simp; done) | (simp [*]; done)), (by first | rfl | (simp; done) | (simp [*]; done)), H', (hid (by first | omega | (omega))), (hid (by exact BKb1.out)), HL⟩
    case round =>
     clear H'
     clear HL BKb1
     obtain ⟨x5_1, x27_1, rfl, rfl, HA, HK98, BKb1, HL⟩ := hrel
     cases gk with
     | zero => exact absurd HA.out (by simp [i_count_Promoted.l1])
     | succ k99 =>
      have H := HA.out
      clear HA
      simp only [i_count_Promoted.l1] at H
      by_cases c100 : x27_1 < 3
      ·
       rw [if_pos c100] at H
       have c100b0 : decide (x27_1 < 3) = true := decide_eq_true c100
       have hc100 := hid c100
       clear c100
       by_cases c101 : x27_1 = 0
       ·
        rw [if_pos c101] at H
        have c101b0 : (x27_1 == 0) = true := beq_iff_eq.mpr c101
        have c101b1 : (x27_1 != 0) = false := bne_eq_false_iff_eq.mpr c101
        have hc101 := hid c101
        clear c101
        replace H := Option.bind_eq_some_iff.mp H
        obtain ⟨t24, A102_, H⟩ := H
        have A102 := hid A102_
        clear A102_
        by_cases c103 : (wrap64 (t24 - 2)) < 0
        ·
         rw [if_pos c103] at H
         have c103b0 : decide ((wrap64 (t24 - 2)) < 0) = true := decide_eq_true c103
         have c103b1 : (if (wrap64 (t24 - 2)) < 0 then 0 else (wrap64 (t24 - 2))) = 0 := if_pos c103
         have c103b2 : max (wrap64 (t24 - 2)) 0 = 0 := by omega
         have hc103 := hid c103
         clear c103
         have H' := hid H
         clear H
         go_wp2_with (first
          | ((with_reducible refine gate_d (N := 29) rfl ?_); refine ag_fix (.agg #[.int .i64 2, .int .i64 2]) (ex_ix 118 (.agg #[.int .i64 2, .int .i64 2, .int .i64 4, .int .i64 2, .int .i64 5, .int .i64 1]) (.int .i64 x27_1) (.agg #[.int .i64 2, .int .i64 2]) (fun w_ => by rw [hc101.out]; kernel_rfl) _ _ rfl rfl rfl) rfl ?_)
          | ((with_reducible refine gate_d (N := 7) rfl ?_); obtain ⟨gb23, hgb23⟩ : ∃ g_, wr.heap.size = g_ := ⟨_, rfl⟩; refine ag_alloc aT117 gb23 hgb23 rfl rfl ?_; intro w104 hb_ hB_ hs_; have GEb23 : Hid (w.heap.size ≤ gb23) := hid (by have := HL.out.size; omega); have NBb1_b23 : Hid (gb1 ≠ gb23) := hid (by have := BKb1.out.lt; omega); have NBb23_b1 : Hid (gb23 ≠ gb1) := hid (by have := NBb1_b23.out; omega); replace BKb1 := hid (BKb1.out.below hb_ (by rw [← hgb23]; exact BKb1.out.lt)); replace HL := hid (HL.out.trans (hb_.mono GEb23.out)); have BKb23 := hid hB_; clear hb_ hB_ hs_ hgb23)
          | ((with_reducible refine gate_s (t := 117) (p := 7) rfl ?_); refine ag_store aT117 gb23 0 #[.int .i64 0, .int .i64 0] #[.int .i64 2, .int .i64 2] #[.int .i64 2, .int .i64 2] BKb23.out rfl (by simp) (by intro v_ hv_; simp at hv_; rcases hv_ with rfl | rfl <;> first | rfl) rfl rfl _ _ rfl rfl rfl ?_; intro w105 ho_ hB_; replace BKb1 := hid (BKb1.out.off ho_ NBb1_b23.out); replace HL := hid (ho_.below HL.out GEb23.out); replace BKb23 := hid hB_; clear ho_ hB_))
         (try simp only [Act.put, sI, sZ, sS])
         have WR64 := i64_w
         have WR32 := i32_w
         refine up_regionW (by kernel_rfl) (by kernel_rfl) ?_
         refine q_do (.int .i64 x5_1) (fun w'_ hc_ => ex_mv (.tmp 5) (.inl rfl) _ rfl) rfl rfl ?_
         intro ts_ ht_; simp only [sI, sZ, sS] at ht_; subst ht_
         refine q_do (.agg (bv a0)) (fun w'_ hc_ => by obtain ⟨n_, hn_⟩ := hc_; exact ex_load boardT gb1 0 (bv a0) (bv a0) (by rw [hn_]; exact BKb1.out.below n_.below BKb1.out.lt) (av_le LN_a0.out) (av_ex LN_a0.out) _ rfl rfl) rfl rfl ?_
         intro ts_ ht_; simp only [sI, sZ, sS] at ht_; subst ht_
         refine q_do (.pointer (some ⟨gb23, 0, none⟩)) (fun w'_ hc_ => by obtain ⟨n_, hn_⟩ := hc_; exact ex_field 117 0 (.pointer (some ⟨gb23, 0, none⟩)) (.pointer (some ⟨gb23, 0, none⟩)) (fa117_0_0 gb23) _ rfl rfl) rfl rfl ?_
         intro ts_ ht_; simp only [sI, sZ, sS] at ht_; subst ht_
         refine q_do (.int .i64 2) (fun w'_ hc_ => by obtain ⟨n_, hn_⟩ := hc_; exact ex_get sT3 gb23 (0) (.int .i64 2) (#[.int .i64 2, .int .i64 2]) (by rw [hn_]; exact BKb23.out.below n_.below BKb23.out.lt) rfl _ rfl rfl) rfl rfl ?_
         intro ts_ ht_; simp only [sI, sZ, sS] at ht_; subst ht_
         refine q_do (.int .i64 a1) (fun w'_ hc_ => ex_mv (.tmp 1) (.inl rfl) _ rfl) rfl rfl ?_
         intro ts_ ht_; simp only [sI, sZ, sS] at ht_; subst ht_
         refine q_call (.int .i64 t24) 61 #[.agg (bv a0), .int .i64 2, .int .i64 a1] (fun w'_ => by go_simp) (fun w'_ hc_ => (i_board_Many.calls k99 a0 2 a1 LN_a0.out t24 _ A102.out).mono fun e_ w2_ h_ => ⟨h_.1, up_below hc_ h_.2⟩) rfl rfl ?_
         intro ts_ ht_; simp only [sI, sZ, sS] at ht_; subst ht_
         refine q_do (.pointer (some ⟨gb23, 1, none⟩)) (fun w'_ hc_ => by obtain ⟨n_, hn_⟩ := hc_; exact ex_field 117 1 (.pointer (some ⟨gb23, 0, none⟩)) (.pointer (some ⟨gb23, 1, none⟩)) (fa117_1_0 gb23) _ rfl rfl) rfl rfl ?_
         intro ts_ ht_; simp only [sI, sZ, sS] at ht_; subst ht_
         refine q_do (.int .i64 2) (fun w'_ hc_ => by obtain ⟨n_, hn_⟩ := hc_; exact ex_get sT3 gb23 (1) (.int .i64 2) (#[.int .i64 2, .int .i64 2]) (by rw [hn_]; exact BKb23.out.below n_.below BKb23.out.lt) rfl _ rfl rfl) rfl rfl ?_
         intro ts_ ht_; simp only [sI, sZ, sS] at ht_; subst ht_
         refine q_do (.int .i64 (wrap64 (t24 - 2))) (fun w'_ hc_ => by go_simp <;> (unfold wrap64; omega)) rfl rfl ?_
         intro ts_ ht_; simp only [sI, sZ, sS] at ht_; subst ht_
         refine q_do (.int .i64 0) (fun w'_ hc_ => by go_simp <;> (unfold wrap64; omega)) rfl rfl ?_
         intro ts_ ht_; simp only [sI, sZ, sS] at ht_; subst ht_
         refine q_do (.int .i64 (wrap64 (x5_1 + 0))) (fun w'_ hc_ => by go_simp <;> (unfold wrap64; omega)) rfl rfl ?_
         intro ts_ ht_; simp only [sI, sZ, sS] at ht_; subst ht_
         refine q_do (.int .i64 (wrap64 (x5_1 + 0))) (fun w'_ hc_ => ex_mv (.tmp 40) (.inr rfl) _ rfl) rfl rfl ?_
         intro ts_ ht_; simp only [sI, sZ, sS] at ht_; subst ht_
         refine q_end ?_
         rintro w8_ ⟨n_, rfl⟩
         replace BKb1 := hid (BKb1.out.below n_.below BKb1.out.lt)
         replace BKb23 := hid (BKb23.out.below n_.below BKb23.out.lt)
         replace HL := hid (HL.out.trans (n_.below.mono HL.out.size))
         generalize n_.world = w106 at *
         clear n_ WR64 WR32
         go_wp2_with fail
         (try simp only [Act.put, sI, sZ, sS])
         go_roundg k99
         case measure => have := HK98.out; omega
         case rel => exact ⟨wrap64 (x5_1 + 0), wrap64 (x27_1 + 1), (by first | rfl | (simp; done) | (simp [*]; done)), (by first | rfl | (simp; done) | (simp [*]; done)), H', (hid (by first | omega | (have := HK98.out; omega))), (hid (by exact BKb1.out)), HL⟩
        ·
         rw [if_neg c103] at H
         have c103b0 : decide ((wrap64 (t24 - 2)) < 0) = false := decide_eq_false c103
         have c103b1 : (if (wrap64 (t24 - 2)) < 0 then 0 else (wrap64 (t24 - 2))) = (wrap64 (t24 - 2)) := if_neg c103
         have c103b2 : max (wrap64 (t24 - 2)) 0 = (wrap64 (t24 - 2)) := by omega
         have hc103 := hid c103
         clear c103
         have H' := hid H
         clear H
         go_wp2_with (first
          | ((with_reducible refine gate_d (N := 29) rfl ?_); refine ag_fix (.agg #[.int .i64 2, .int .i64 2]) (ex_ix 118 (.agg #[.int .i64 2, .int .i64 2, .int .i64 4, .int .i64 2, .int .i64 5, .int .i64 1]) (.int .i64 x27_1) (.agg #[.int .i64 2, .int .i64 2]) (fun w_ => by rw [hc101.out]; kernel_rfl) _ _ rfl rfl rfl) rfl ?_)
          | ((with_reducible refine gate_d (N := 7) rfl ?_); obtain ⟨gb23, hgb23⟩ : ∃ g_, wr.heap.size = g_ := ⟨_, rfl⟩; refine ag_alloc aT117 gb23 hgb23 rfl rfl ?_; intro w107 hb_ hB_ hs_; have GEb23 : Hid (w.heap.size ≤ gb23) := hid (by have := HL.out.size; omega); have NBb1_b23 : Hid (gb1 ≠ gb23) := hid (by have := BKb1.out.lt; omega); have NBb23_b1 : Hid (gb23 ≠ gb1) := hid (by have := NBb1_b23.out; omega); replace BKb1 := hid (BKb1.out.below hb_ (by rw [← hgb23]; exact BKb1.out.lt)); replace HL := hid (HL.out.trans (hb_.mono GEb23.out)); have BKb23 := hid hB_; clear hb_ hB_ hs_ hgb23)
          | ((with_reducible refine gate_s (t := 117) (p := 7) rfl ?_); refine ag_store aT117 gb23 0 #[.int .i64 0, .int .i64 0] #[.int .i64 2, .int .i64 2] #[.int .i64 2, .int .i64 2] BKb23.out rfl (by simp) (by intro v_ hv_; simp at hv_; rcases hv_ with rfl | rfl <;> first | rfl) rfl rfl _ _ rfl rfl rfl ?_; intro w108 ho_ hB_; replace BKb1 := hid (BKb1.out.off ho_ NBb1_b23.out); replace HL := hid (ho_.below HL.out GEb23.out); replace BKb23 := hid hB_; clear ho_ hB_))
         (try simp only [Act.put, sI, sZ, sS])
         have WR64 := i64_w
         have WR32 := i32_w
         refine up_regionW (by kernel_rfl) (by kernel_rfl) ?_
         refine q_do (.int .i64 x5_1) (fun w'_ hc_ => ex_mv (.tmp 5) (.inl rfl) _ rfl) rfl rfl ?_
         intro ts_ ht_; simp only [sI, sZ, sS] at ht_; subst ht_
         refine q_do (.agg (bv a0)) (fun w'_ hc_ => by obtain ⟨n_, hn_⟩ := hc_; exact ex_load boardT gb1 0 (bv a0) (bv a0) (by rw [hn_]; exact BKb1.out.below n_.below BKb1.out.lt) (av_le LN_a0.out) (av_ex LN_a0.out) _ rfl rfl) rfl rfl ?_
         intro ts_ ht_; simp only [sI, sZ, sS] at ht_; subst ht_
         refine q_do (.pointer (some ⟨gb23, 0, none⟩)) (fun w'_ hc_ => by obtain ⟨n_, hn_⟩ := hc_; exact ex_field 117 0 (.pointer (some ⟨gb23, 0, none⟩)) (.pointer (some ⟨gb23, 0, none⟩)) (fa117_0_0 gb23) _ rfl rfl) rfl rfl ?_
         intro ts_ ht_; simp only [sI, sZ, sS] at ht_; subst ht_
         refine q_do (.int .i64 2) (fun w'_ hc_ => by obtain ⟨n_, hn_⟩ := hc_; exact ex_get sT3 gb23 (0) (.int .i64 2) (#[.int .i64 2, .int .i64 2]) (by rw [hn_]; exact BKb23.out.below n_.below BKb23.out.lt) rfl _ rfl rfl) rfl rfl ?_
         intro ts_ ht_; simp only [sI, sZ, sS] at ht_; subst ht_
         refine q_do (.int .i64 a1) (fun w'_ hc_ => ex_mv (.tmp 1) (.inl rfl) _ rfl) rfl rfl ?_
         intro ts_ ht_; simp only [sI, sZ, sS] at ht_; subst ht_
         refine q_call (.int .i64 t24) 61 #[.agg (bv a0), .int .i64 2, .int .i64 a1] (fun w'_ => by go_simp) (fun w'_ hc_ => (i_board_Many.calls k99 a0 2 a1 LN_a0.out t24 _ A102.out).mono fun e_ w2_ h_ => ⟨h_.1, up_below hc_ h_.2⟩) rfl rfl ?_
         intro ts_ ht_; simp only [sI, sZ, sS] at ht_; subst ht_
         refine q_do (.pointer (some ⟨gb23, 1, none⟩)) (fun w'_ hc_ => by obtain ⟨n_, hn_⟩ := hc_; exact ex_field 117 1 (.pointer (some ⟨gb23, 0, none⟩)) (.pointer (some ⟨gb23, 1, none⟩)) (fa117_1_0 gb23) _ rfl rfl) rfl rfl ?_
         intro ts_ ht_; simp only [sI, sZ, sS] at ht_; subst ht_
         refine q_do (.int .i64 2) (fun w'_ hc_ => by obtain ⟨n_, hn_⟩ := hc_; exact ex_get sT3 gb23 (1) (.int .i64 2) (#[.int .i64 2, .int .i64 2]) (by rw [hn_]; exact BKb23.out.below n_.below BKb23.out.lt) rfl _ rfl rfl) rfl rfl ?_
         intro ts_ ht_; simp only [sI, sZ, sS] at ht_; subst ht_
         refine q_do (.int .i64 (wrap64 (t24 - 2))) (fun w'_ hc_ => by go_simp <;> (unfold wrap64; omega)) rfl rfl ?_
         intro ts_ ht_; simp only [sI, sZ, sS] at ht_; subst ht_
         refine q_do (.int .i64 (wrap64 (t24 - 2))) (fun w'_ hc_ => by go_simp <;> (unfold wrap64; omega)) rfl rfl ?_
         intro ts_ ht_; simp only [sI, sZ, sS] at ht_; subst ht_
         refine q_do (.int .i64 (wrap64 (x5_1 + (wrap64 (t24 - 2))))) (fun w'_ hc_ => by go_simp <;> (unfold wrap64; omega)) rfl rfl ?_
         intro ts_ ht_; simp only [sI, sZ, sS] at ht_; subst ht_
         refine q_do (.int .i64 (wrap64 (x5_1 + (wrap64 (t24 - 2))))) (fun w'_ hc_ => ex_mv (.tmp 40) (.inr rfl) _ rfl) rfl rfl ?_
         intro ts_ ht_; simp only [sI, sZ, sS] at ht_; subst ht_
         refine q_end ?_
         rintro w8_ ⟨n_, rfl⟩
         replace BKb1 := hid (BKb1.out.below n_.below BKb1.out.lt)
         replace BKb23 := hid (BKb23.out.below n_.below BKb23.out.lt)
         replace HL := hid (HL.out.trans (n_.below.mono HL.out.size))
         generalize n_.world = w109 at *
         clear n_ WR64 WR32
         go_wp2_with fail
         (try simp only [Act.put, sI, sZ, sS])
         go_roundg k99
         case measure => have := HK98.out; omega
         case rel => exact ⟨wrap64 (x5_1 + (wrap64 (t24 - 2))), wrap64 (x27_1 + 1), (by first | rfl | (simp; done) | (simp [*]; done)), (by first | rfl | (simp; done) | (simp [*]; done)), H', (hid (by first | omega | (have := HK98.out; omega))), (hid (by exact BKb1.out)), HL⟩
       ·
        rw [if_neg c101] at H
        have c101b0 : (x27_1 == 0) = false := beq_eq_false_iff_ne.mpr c101
        have c101b1 : (x27_1 != 0) = true := bne_iff_ne.mpr c101
        have hc101 := hid c101
        clear c101
        by_cases c110 : x27_1 = 1
        ·
         rw [if_pos c110] at H
         have c110b0 : (x27_1 == 1) = true := beq_iff_eq.mpr c110
         have c110b1 : (x27_1 != 1) = false := bne_eq_false_iff_eq.mpr c110
         have hc110 := hid c110
         clear c110
         replace H := Option.bind_eq_some_iff.mp H
         obtain ⟨t26, A111_, H⟩ := H
         have A111 := hid A111_
         clear A111_
         by_cases c112 : (wrap64 (t26 - 2)) < 0
         ·
          rw [if_pos c112] at H
          have c112b0 : decide ((wrap64 (t26 - 2)) < 0) = true := decide_eq_true c112
          have c112b1 : (if (wrap64 (t26 - 2)) < 0 then 0 else (wrap64 (t26 - 2))) = 0 := if_pos c112
          have c112b2 : max (wrap64 (t26 - 2)) 0 = 0 := by omega
          have hc112 := hid c112
          clear c112
          have H' := hid H
          clear H
          go_wp2_with (first
           | ((with_reducible refine gate_d (N := 29) rfl ?_); refine ag_fix (.agg #[.int .i64 4, .int .i64 2]) (ex_ix 118 (.agg #[.int .i64 2, .int .i64 2, .int .i64 4, .int .i64 2, .int .i64 5, .int .i64 1]) (.int .i64 x27_1) (.agg #[.int .i64 4, .int .i64 2]) (fun w_ => by rw [hc110.out]; kernel_rfl) _ _ rfl rfl rfl) rfl ?_)
           | ((with_reducible refine gate_d (N := 7) rfl ?_); obtain ⟨gb25, hgb25⟩ : ∃ g_, wr.heap.size = g_ := ⟨_, rfl⟩; refine ag_alloc aT117 gb25 hgb25 rfl rfl ?_; intro w113 hb_ hB_ hs_; have GEb25 : Hid (w.heap.size ≤ gb25) := hid (by have := HL.out.size; omega); have NBb1_b25 : Hid (gb1 ≠ gb25) := hid (by have := BKb1.out.lt; omega); have NBb25_b1 : Hid (gb25 ≠ gb1) := hid (by have := NBb1_b25.out; omega); replace BKb1 := hid (BKb1.out.below hb_ (by rw [← hgb25]; exact BKb1.out.lt)); replace HL := hid (HL.out.trans (hb_.mono GEb25.out)); have BKb25 := hid hB_; clear hb_ hB_ hs_ hgb25)
           | ((with_reducible refine gate_s (t := 117) (p := 7) rfl ?_); refine ag_store aT117 gb25 0 #[.int .i64 0, .int .i64 0] #[.int .i64 4, .int .i64 2] #[.int .i64 4, .int .i64 2] BKb25.out rfl (by simp) (by intro v_ hv_; simp at hv_; rcases hv_ with rfl | rfl <;> first | rfl) rfl rfl _ _ rfl rfl rfl ?_; intro w114 ho_ hB_; replace BKb1 := hid (BKb1.out.off ho_ NBb1_b25.out); replace HL := hid (ho_.below HL.out GEb25.out); replace BKb25 := hid hB_; clear ho_ hB_))
          (try simp only [Act.put, sI, sZ, sS])
          have WR64 := i64_w
          have WR32 := i32_w
          refine up_regionW (by kernel_rfl) (by kernel_rfl) ?_
          refine q_do (.int .i64 x5_1) (fun w'_ hc_ => ex_mv (.tmp 5) (.inl rfl) _ rfl) rfl rfl ?_
          intro ts_ ht_; simp only [sI, sZ, sS] at ht_; subst ht_
          refine q_do (.agg (bv a0)) (fun w'_ hc_ => by obtain ⟨n_, hn_⟩ := hc_; exact ex_load boardT gb1 0 (bv a0) (bv a0) (by rw [hn_]; exact BKb1.out.below n_.below BKb1.out.lt) (av_le LN_a0.out) (av_ex LN_a0.out) _ rfl rfl) rfl rfl ?_
          intro ts_ ht_; simp only [sI, sZ, sS] at ht_; subst ht_
          refine q_do (.pointer (some ⟨gb25, 0, none⟩)) (fun w'_ hc_ => by obtain ⟨n_, hn_⟩ := hc_; exact ex_field 117 0 (.pointer (some ⟨gb25, 0, none⟩)) (.pointer (some ⟨gb25, 0, none⟩)) (fa117_0_0 gb25) _ rfl rfl) rfl rfl ?_
          intro ts_ ht_; simp only [sI, sZ, sS] at ht_; subst ht_
          refine q_do (.int .i64 4) (fun w'_ hc_ => by obtain ⟨n_, hn_⟩ := hc_; exact ex_get sT3 gb25 (0) (.int .i64 4) (#[.int .i64 4, .int .i64 2]) (by rw [hn_]; exact BKb25.out.below n_.below BKb25.out.lt) rfl _ rfl rfl) rfl rfl ?_
          intro ts_ ht_; simp only [sI, sZ, sS] at ht_; subst ht_
          refine q_do (.int .i64 a1) (fun w'_ hc_ => ex_mv (.tmp 1) (.inl rfl) _ rfl) rfl rfl ?_
          intro ts_ ht_; simp only [sI, sZ, sS] at ht_; subst ht_
          refine q_call (.int .i64 t26) 61 #[.agg (bv a0), .int .i64 4, .int .i64 a1] (fun w'_ => by go_simp) (fun w'_ hc_ => (i_board_Many.calls k99 a0 4 a1 LN_a0.out t26 _ A111.out).mono fun e_ w2_ h_ => ⟨h_.1, up_below hc_ h_.2⟩) rfl rfl ?_
          intro ts_ ht_; simp only [sI, sZ, sS] at ht_; subst ht_
          refine q_do (.pointer (some ⟨gb25, 1, none⟩)) (fun w'_ hc_ => by obtain ⟨n_, hn_⟩ := hc_; exact ex_field 117 1 (.pointer (some ⟨gb25, 0, none⟩)) (.pointer (some ⟨gb25, 1, none⟩)) (fa117_1_0 gb25) _ rfl rfl) rfl rfl ?_
          intro ts_ ht_; simp only [sI, sZ, sS] at ht_; subst ht_
          refine q_do (.int .i64 2) (fun w'_ hc_ => by obtain ⟨n_, hn_⟩ := hc_; exact ex_get sT3 gb25 (1) (.int .i64 2) (#[.int .i64 4, .int .i64 2]) (by rw [hn_]; exact BKb25.out.below n_.below BKb25.out.lt) rfl _ rfl rfl) rfl rfl ?_
          intro ts_ ht_; simp only [sI, sZ, sS] at ht_; subst ht_
          refine q_do (.int .i64 (wrap64 (t26 - 2))) (fun w'_ hc_ => by go_simp <;> (unfold wrap64; omega)) rfl rfl ?_
          intro ts_ ht_; simp only [sI, sZ, sS] at ht_; subst ht_
          refine q_do (.int .i64 0) (fun w'_ hc_ => by go_simp <;> (unfold wrap64; omega)) rfl rfl ?_
          intro ts_ ht_; simp only [sI, sZ, sS] at ht_; subst ht_
          refine q_do (.int .i64 (wrap64 (x5_1 + 0))) (fun w'_ hc_ => by go_simp <;> (unfold wrap64; omega)) rfl rfl ?_
          intro ts_ ht_; simp only [sI, sZ, sS] at ht_; subst ht_
          refine q_do (.int .i64 (wrap64 (x5_1 + 0))) (fun w'_ hc_ => ex_mv (.tmp 40) (.inr rfl) _ rfl) rfl rfl ?_
          intro ts_ ht_; simp only [sI, sZ, sS] at ht_; subst ht_
          refine q_end ?_
          rintro w8_ ⟨n_, rfl⟩
          replace BKb1 := hid (BKb1.out.below n_.below BKb1.out.lt)
          replace BKb25 := hid (BKb25.out.below n_.below BKb25.out.lt)
          replace HL := hid (HL.out.trans (n_.below.mono HL.out.size))
          generalize n_.world = w115 at *
          clear n_ WR64 WR32
          go_wp2_with fail
          (try simp only [Act.put, sI, sZ, sS])
          go_roundg k99
          case measure => have := HK98.out; omega
          case rel => exact ⟨wrap64 (x5_1 + 0), wrap64 (x27_1 + 1), (by first | rfl | (simp; done) | (simp [*]; done)), (by first | rfl | (simp; done) | (simp [*]; done)), H', (hid (by first | omega | (have := HK98.out; omega))), (hid (by exact BKb1.out)), HL⟩
         ·
          rw [if_neg c112] at H
          have c112b0 : decide ((wrap64 (t26 - 2)) < 0) = false := decide_eq_false c112
          have c112b1 : (if (wrap64 (t26 - 2)) < 0 then 0 else (wrap64 (t26 - 2))) = (wrap64 (t26 - 2)) := if_neg c112
          have c112b2 : max (wrap64 (t26 - 2)) 0 = (wrap64 (t26 - 2)) := by omega
          have hc112 := hid c112
          clear c112
          have H' := hid H
          clear H
          go_wp2_with (first
           | ((with_reducible refine gate_d (N := 29) rfl ?_); refine ag_fix (.agg #[.int .i64 4, .int .i64 2]) (ex_ix 118 (.agg #[.int .i64 2, .int .i64 2, .int .i64 4, .int .i64 2, .int .i64 5, .int .i64 1]) (.int .i64 x27_1) (.agg #[.int .i64 4, .int .i64 2]) (fun w_ => by rw [hc110.out]; kernel_rfl) _ _ rfl rfl rfl) rfl ?_)
           | ((with_reducible refine gate_d (N := 7) rfl ?_); obtain ⟨gb25, hgb25⟩ : ∃ g_, wr.heap.size = g_ := ⟨_, rfl⟩; refine ag_alloc aT117 gb25 hgb25 rfl rfl ?_; intro w116 hb_ hB_ hs_; have GEb25 : Hid (w.heap.size ≤ gb25) := hid (by have := HL.out.size; omega); have NBb1_b25 : Hid (gb1 ≠ gb25) := hid (by have := BKb1.out.lt; omega); have NBb25_b1 : Hid (gb25 ≠ gb1) := hid (by have := NBb1_b25.out; omega); replace BKb1 := hid (BKb1.out.below hb_ (by rw [← hgb25]; exact BKb1.out.lt)); replace HL := hid (HL.out.trans (hb_.mono GEb25.out)); have BKb25 := hid hB_; clear hb_ hB_ hs_ hgb25)
           | ((with_reducible refine gate_s (t := 117) (p := 7) rfl ?_); refine ag_store aT117 gb25 0 #[.int .i64 0, .int .i64 0] #[.int .i64 4, .int .i64 2] #[.int .i64 4, .int .i64 2] BKb25.out rfl (by simp) (by intro v_ hv_; simp at hv_; rcases hv_ with rfl | rfl <;> first | rfl) rfl rfl _ _ rfl rfl rfl ?_; intro w117 ho_ hB_; replace BKb1 := hid (BKb1.out.off ho_ NBb1_b25.out); replace HL := hid (ho_.below HL.out GEb25.out); replace BKb25 := hid hB_; clear ho_ hB_))
          (try simp only [Act.put, sI, sZ, sS])
          have WR64 := i64_w
          have WR32 := i32_w
          refine up_regionW (by kernel_rfl) (by kernel_rfl) ?_
          refine q_do (.int .i64 x5_1) (fun w'_ hc_ => ex_mv (.tmp 5) (.inl rfl) _ rfl) rfl rfl ?_
          intro ts_ ht_; simp only [sI, sZ, sS] at ht_; subst ht_
          refine q_do (.agg (bv a0)) (fun w'_ hc_ => by obtain ⟨n_, hn_⟩ := hc_; exact ex_load boardT gb1 0 (bv a0) (bv a0) (by rw [hn_]; exact BKb1.out.below n_.below BKb1.out.lt) (av_le LN_a0.out) (av_ex LN_a0.out) _ rfl rfl) rfl rfl ?_
          intro ts_ ht_; simp only [sI, sZ, sS] at ht_; subst ht_
          refine q_do (.pointer (some ⟨gb25, 0, none⟩)) (fun w'_ hc_ => by obtain ⟨n_, hn_⟩ := hc_; exact ex_field 117 0 (.pointer (some ⟨gb25, 0, none⟩)) (.pointer (some ⟨gb25, 0, none⟩)) (fa117_0_0 gb25) _ rfl rfl) rfl rfl ?_
          intro ts_ ht_; simp only [sI, sZ, sS] at ht_; subst ht_
          refine q_do (.int .i64 4) (fun w'_ hc_ => by obtain ⟨n_, hn_⟩ := hc_; exact ex_get sT3 gb25 (0) (.int .i64 4) (#[.int .i64 4, .int .i64 2]) (by rw [hn_]; exact BKb25.out.below n_.below BKb25.out.lt) rfl _ rfl rfl) rfl rfl ?_
          intro ts_ ht_; simp only [sI, sZ, sS] at ht_; subst ht_
          refine q_do (.int .i64 a1) (fun w'_ hc_ => ex_mv (.tmp 1) (.inl rfl) _ rfl) rfl rfl ?_
          intro ts_ ht_; simp only [sI, sZ, sS] at ht_; subst ht_
          refine q_call (.int .i64 t26) 61 #[.agg (bv a0), .int .i64 4, .int .i64 a1] (fun w'_ => by go_simp) (fun w'_ hc_ => (i_board_Many.calls k99 a0 4 a1 LN_a0.out t26 _ A111.out).mono fun e_ w2_ h_ => ⟨h_.1, up_below hc_ h_.2⟩) rfl rfl ?_
          intro ts_ ht_; simp only [sI, sZ, sS] at ht_; subst ht_
          refine q_do (.pointer (some ⟨gb25, 1, none⟩)) (fun w'_ hc_ => by obtain ⟨n_, hn_⟩ := hc_; exact ex_field 117 1 (.pointer (some ⟨gb25, 0, none⟩)) (.pointer (some ⟨gb25, 1, none⟩)) (fa117_1_0 gb25) _ rfl rfl) rfl rfl ?_
          intro ts_ ht_; simp only [sI, sZ, sS] at ht_; subst ht_
          refine q_do (.int .i64 2) (fun w'_ hc_ => by obtain ⟨n_, hn_⟩ := hc_; exact ex_get sT3 gb25 (1) (.int .i64 2) (#[.int .i64 4, .int .i64 2]) (by rw [hn_]; exact BKb25.out.below n_.below BKb25.out.lt) rfl _ rfl rfl) rfl rfl ?_
          intro ts_ ht_; simp only [sI, sZ, sS] at ht_; subst ht_
          refine q_do (.int .i64 (wrap64 (t26 - 2))) (fun w'_ hc_ => by go_simp <;> (unfold wrap64; omega)) rfl rfl ?_
          intro ts_ ht_; simp only [sI, sZ, sS] at ht_; subst ht_
          refine q_do (.int .i64 (wrap64 (t26 - 2))) (fun w'_ hc_ => by go_simp <;> (unfold wrap64; omega)) rfl rfl ?_
          intro ts_ ht_; simp only [sI, sZ, sS] at ht_; subst ht_
          refine q_do (.int .i64 (wrap64 (x5_1 + (wrap64 (t26 - 2))))) (fun w'_ hc_ => by go_simp <;> (unfold wrap64; omega)) rfl rfl ?_
          intro ts_ ht_; simp only [sI, sZ, sS] at ht_; subst ht_
          refine q_do (.int .i64 (wrap64 (x5_1 + (wrap64 (t26 - 2))))) (fun w'_ hc_ => ex_mv (.tmp 40) (.inr rfl) _ rfl) rfl rfl ?_
          intro ts_ ht_; simp only [sI, sZ, sS] at ht_; subst ht_
          refine q_end ?_
          rintro w8_ ⟨n_, rfl⟩
          replace BKb1 := hid (BKb1.out.below n_.below BKb1.out.lt)
          replace BKb25 := hid (BKb25.out.below n_.below BKb25.out.lt)
          replace HL := hid (HL.out.trans (n_.below.mono HL.out.size))
          generalize n_.world = w118 at *
          clear n_ WR64 WR32
          go_wp2_with fail
          (try simp only [Act.put, sI, sZ, sS])
          go_roundg k99
          case measure => have := HK98.out; omega
          case rel => exact ⟨wrap64 (x5_1 + (wrap64 (t26 - 2))), wrap64 (x27_1 + 1), (by first | rfl | (simp; done) | (simp [*]; done)), (by first | rfl | (simp; done) | (simp [*]; done)), H', (hid (by first | omega | (have := HK98.out; omega))), (hid (by exact BKb1.out)), HL⟩
        ·
         rw [if_neg c110] at H
         have c110b0 : (x27_1 == 1) = false := beq_eq_false_iff_ne.mpr c110
         have c110b1 : (x27_1 != 1) = true := bne_iff_ne.mpr c110
         have hc110 := hid c110
         clear c110
         by_cases c119 : x27_1 = 2
         ·
          rw [if_pos c119] at H
          have c119b0 : (x27_1 == 2) = true := beq_iff_eq.mpr c119
          have c119b1 : (x27_1 != 2) = false := bne_eq_false_iff_eq.mpr c119
          have hc119 := hid c119
          clear c119
          replace H := Option.bind_eq_some_iff.mp H
          obtain ⟨t28, A120_, H⟩ := H
          have A120 := hid A120_
          clear A120_
          by_cases c121 : (wrap64 (t28 - 1)) < 0
          ·
           rw [if_pos c121] at H
           have c121b0 : decide ((wrap64 (t28 - 1)) < 0) = true := decide_eq_true c121
           have c121b1 : (if (wrap64 (t28 - 1)) < 0 then 0 else (wrap64 (t28 - 1))) = 0 := if_pos c121
           have c121b2 : max (wrap64 (t28 - 1)) 0 = 0 := by omega
           have hc121 := hid c121
           clear c121
           have H' := hid H
           clear H
           go_wp2_with (first
            | ((with_reducible refine gate_d (N := 29) rfl ?_); refine ag_fix (.agg #[.int .i64 5, .int .i64 1]) (ex_ix 118 (.agg #[.int .i64 2, .int .i64 2, .int .i64 4, .int .i64 2, .int .i64 5, .int .i64 1]) (.int .i64 x27_1) (.agg #[.int .i64 5, .int .i64 1]) (fun w_ => by rw [hc119.out]; kernel_rfl) _ _ rfl rfl rfl) rfl ?_)
            | ((with_reducible refine gate_d (N := 7) rfl ?_); obtain ⟨gb27, hgb27⟩ : ∃ g_, wr.heap.size = g_ := ⟨_, rfl⟩; refine ag_alloc aT117 gb27 hgb27 rfl rfl ?_; intro w122 hb_ hB_ hs_; have GEb27 : Hid (w.heap.size ≤ gb27) := hid (by have := HL.out.size; omega); have NBb1_b27 : Hid (gb1 ≠ gb27) := hid (by have := BKb1.out.lt; omega); have NBb27_b1 : Hid (gb27 ≠ gb1) := hid (by have := NBb1_b27.out; omega); replace BKb1 := hid (BKb1.out.below hb_ (by rw [← hgb27]; exact BKb1.out.lt)); replace HL := hid (HL.out.trans (hb_.mono GEb27.out)); have BKb27 := hid hB_; clear hb_ hB_ hs_ hgb27)
            | ((with_reducible refine gate_s (t := 117) (p := 7) rfl ?_); refine ag_store aT117 gb27 0 #[.int .i64 0, .int .i64 0] #[.int .i64 5, .int .i64 1] #[.int .i64 5, .int .i64 1] BKb27.out rfl (by simp) (by intro v_ hv_; simp at hv_; rcases hv_ with rfl | rfl <;> first | rfl) rfl rfl _ _ rfl rfl rfl ?_; intro w123 ho_ hB_; replace BKb1 := hid (BKb1.out.off ho_ NBb1_b27.out); replace HL := hid (ho_.below HL.out GEb27.out); replace BKb27 := hid hB_; clear ho_ hB_))
           (try simp only [Act.put, sI, sZ, sS])
           have WR64 := i64_w
           have WR32 := i32_w
           refine up_regionW (by kernel_rfl) (by kernel_rfl) ?_
           refine q_do (.int .i64 x5_1) (fun w'_ hc_ => ex_mv (.tmp 5) (.inl rfl) _ rfl) rfl rfl ?_
           intro ts_ ht_; simp only [sI, sZ, sS] at ht_; subst ht_
           refine q_do (.agg (bv a0)) (fun w'_ hc_ => by obtain ⟨n_, hn_⟩ := hc_; exact ex_load boardT gb1 0 (bv a0) (bv a0) (by rw [hn_]; exact BKb1.out.below n_.below BKb1.out.lt) (av_le LN_a0.out) (av_ex LN_a0.out) _ rfl rfl) rfl rfl ?_
           intro ts_ ht_; simp only [sI, sZ, sS] at ht_; subst ht_
           refine q_do (.pointer (some ⟨gb27, 0, none⟩)) (fun w'_ hc_ => by obtain ⟨n_, hn_⟩ := hc_; exact ex_field 117 0 (.pointer (some ⟨gb27, 0, none⟩)) (.pointer (some ⟨gb27, 0, none⟩)) (fa117_0_0 gb27) _ rfl rfl) rfl rfl ?_
           intro ts_ ht_; simp only [sI, sZ, sS] at ht_; subst ht_
           refine q_do (.int .i64 5) (fun w'_ hc_ => by obtain ⟨n_, hn_⟩ := hc_; exact ex_get sT3 gb27 (0) (.int .i64 5) (#[.int .i64 5, .int .i64 1]) (by rw [hn_]; exact BKb27.out.below n_.below BKb27.out.lt) rfl _ rfl rfl) rfl rfl ?_
           intro ts_ ht_; simp only [sI, sZ, sS] at ht_; subst ht_
           refine q_do (.int .i64 a1) (fun w'_ hc_ => ex_mv (.tmp 1) (.inl rfl) _ rfl) rfl rfl ?_
           intro ts_ ht_; simp only [sI, sZ, sS] at ht_; subst ht_
           refine q_call (.int .i64 t28) 61 #[.agg (bv a0), .int .i64 5, .int .i64 a1] (fun w'_ => by go_simp) (fun w'_ hc_ => (i_board_Many.calls k99 a0 5 a1 LN_a0.out t28 _ A120.out).mono fun e_ w2_ h_ => ⟨h_.1, up_below hc_ h_.2⟩) rfl rfl ?_
           intro ts_ ht_; simp only [sI, sZ, sS] at ht_; subst ht_
           refine q_do (.pointer (some ⟨gb27, 1, none⟩)) (fun w'_ hc_ => by obtain ⟨n_, hn_⟩ := hc_; exact ex_field 117 1 (.pointer (some ⟨gb27, 0, none⟩)) (.pointer (some ⟨gb27, 1, none⟩)) (fa117_1_0 gb27) _ rfl rfl) rfl rfl ?_
           intro ts_ ht_; simp only [sI, sZ, sS] at ht_; subst ht_
           refine q_do (.int .i64 1) (fun w'_ hc_ => by obtain ⟨n_, hn_⟩ := hc_; exact ex_get sT3 gb27 (1) (.int .i64 1) (#[.int .i64 5, .int .i64 1]) (by rw [hn_]; exact BKb27.out.below n_.below BKb27.out.lt) rfl _ rfl rfl) rfl rfl ?_
           intro ts_ ht_; simp only [sI, sZ, sS] at ht_; subst ht_
           refine q_do (.int .i64 (wrap64 (t28 - 1))) (fun w'_ hc_ => by go_simp <;> (unfold wrap64; omega)) rfl rfl ?_
           intro ts_ ht_; simp only [sI, sZ, sS] at ht_; subst ht_
           refine q_do (.int .i64 0) (fun w'_ hc_ => by go_simp <;> (unfold wrap64; omega)) rfl rfl ?_
           intro ts_ ht_; simp only [sI, sZ, sS] at ht_; subst ht_
           refine q_do (.int .i64 (wrap64 (x5_1 + 0))) (fun w'_ hc_ => by go_simp <;> (unfold wrap64; omega)) rfl rfl ?_
           intro ts_ ht_; simp only [sI, sZ, sS] at ht_; subst ht_
           refine q_do (.int .i64 (wrap64 (x5_1 + 0))) (fun w'_ hc_ => ex_mv (.tmp 40) (.inr rfl) _ rfl) rfl rfl ?_
           intro ts_ ht_; simp only [sI, sZ, sS] at ht_; subst ht_
           refine q_end ?_
           rintro w8_ ⟨n_, rfl⟩
           replace BKb1 := hid (BKb1.out.below n_.below BKb1.out.lt)
           replace BKb27 := hid (BKb27.out.below n_.below BKb27.out.lt)
           replace HL := hid (HL.out.trans (n_.below.mono HL.out.size))
           generalize n_.world = w124 at *
           clear n_ WR64 WR32
           go_wp2_with fail
           (try simp only [Act.put, sI, sZ, sS])
           go_roundg k99
           case measure => have := HK98.out; omega
           case rel => exact ⟨wrap64 (x5_1 + 0), wrap64 (x27_1 + 1), (by first | rfl | (simp; done) | (simp [*]; done)), (by first | rfl | (simp; done) | (simp [*]; done)), H', (hid (by first | omega | (have := HK98.out; omega))), (hid (by exact BKb1.out)), HL⟩
          ·
           rw [if_neg c121] at H
           have c121b0 : decide ((wrap64 (t28 - 1)) < 0) = false := decide_eq_false c121
           have c121b1 : (if (wrap64 (t28 - 1)) < 0 then 0 else (wrap64 (t28 - 1))) = (wrap64 (t28 - 1)) := if_neg c121
           have c121b2 : max (wrap64 (t28 - 1)) 0 = (wrap64 (t28 - 1)) := by omega
           have hc121 := hid c121
           clear c121
           have H' := hid H
           clear H
           go_wp2_with (first
            | ((with_reducible refine gate_d (N := 29) rfl ?_); refine ag_fix (.agg #[.int .i64 5, .int .i64 1]) (ex_ix 118 (.agg #[.int .i64 2, .int .i64 2, .int .i64 4, .int .i64 2, .int .i64 5, .int .i64 1]) (.int .i64 x27_1) (.agg #[.int .i64 5, .int .i64 1]) (fun w_ => by rw [hc119.out]; kernel_rfl) _ _ rfl rfl rfl) rfl ?_)
            | ((with_reducible refine gate_d (N := 7) rfl ?_); obtain ⟨gb27, hgb27⟩ : ∃ g_, wr.heap.size = g_ := ⟨_, rfl⟩; refine ag_alloc aT117 gb27 hgb27 rfl rfl ?_; intro w125 hb_ hB_ hs_; have GEb27 : Hid (w.heap.size ≤ gb27) := hid (by have := HL.out.size; omega); have NBb1_b27 : Hid (gb1 ≠ gb27) := hid (by have := BKb1.out.lt; omega); have NBb27_b1 : Hid (gb27 ≠ gb1) := hid (by have := NBb1_b27.out; omega); replace BKb1 := hid (BKb1.out.below hb_ (by rw [← hgb27]; exact BKb1.out.lt)); replace HL := hid (HL.out.trans (hb_.mono GEb27.out)); have BKb27 := hid hB_; clear hb_ hB_ hs_ hgb27)
            | ((with_reducible refine gate_s (t := 117) (p := 7) rfl ?_); refine ag_store aT117 gb27 0 #[.int .i64 0, .int .i64 0] #[.int .i64 5, .int .i64 1] #[.int .i64 5, .int .i64 1] BKb27.out rfl (by simp) (by intro v_ hv_; simp at hv_; rcases hv_ with rfl | rfl <;> first | rfl) rfl rfl _ _ rfl rfl rfl ?_; intro w126 ho_ hB_; replace BKb1 := hid (BKb1.out.off ho_ NBb1_b27.out); replace HL := hid (ho_.below HL.out GEb27.out); replace BKb27 := hid hB_; clear ho_ hB_))
           (try simp only [Act.put, sI, sZ, sS])
           have WR64 := i64_w
           have WR32 := i32_w
           refine up_regionW (by kernel_rfl) (by kernel_rfl) ?_
           refine q_do (.int .i64 x5_1) (fun w'_ hc_ => ex_mv (.tmp 5) (.inl rfl) _ rfl) rfl rfl ?_
           intro ts_ ht_; simp only [sI, sZ, sS] at ht_; subst ht_
           refine q_do (.agg (bv a0)) (fun w'_ hc_ => by obtain ⟨n_, hn_⟩ := hc_; exact ex_load boardT gb1 0 (bv a0) (bv a0) (by rw [hn_]; exact BKb1.out.below n_.below BKb1.out.lt) (av_le LN_a0.out) (av_ex LN_a0.out) _ rfl rfl) rfl rfl ?_
           intro ts_ ht_; simp only [sI, sZ, sS] at ht_; subst ht_
           refine q_do (.pointer (some ⟨gb27, 0, none⟩)) (fun w'_ hc_ => by obtain ⟨n_, hn_⟩ := hc_; exact ex_field 117 0 (.pointer (some ⟨gb27, 0, none⟩)) (.pointer (some ⟨gb27, 0, none⟩)) (fa117_0_0 gb27) _ rfl rfl) rfl rfl ?_
           intro ts_ ht_; simp only [sI, sZ, sS] at ht_; subst ht_
           refine q_do (.int .i64 5) (fun w'_ hc_ => by obtain ⟨n_, hn_⟩ := hc_; exact ex_get sT3 gb27 (0) (.int .i64 5) (#[.int .i64 5, .int .i64 1]) (by rw [hn_]; exact BKb27.out.below n_.below BKb27.out.lt) rfl _ rfl rfl) rfl rfl ?_
           intro ts_ ht_; simp only [sI, sZ, sS] at ht_; subst ht_
           refine q_do (.int .i64 a1) (fun w'_ hc_ => ex_mv (.tmp 1) (.inl rfl) _ rfl) rfl rfl ?_
           intro ts_ ht_; simp only [sI, sZ, sS] at ht_; subst ht_
           refine q_call (.int .i64 t28) 61 #[.agg (bv a0), .int .i64 5, .int .i64 a1] (fun w'_ => by go_simp) (fun w'_ hc_ => (i_board_Many.calls k99 a0 5 a1 LN_a0.out t28 _ A120.out).mono fun e_ w2_ h_ => ⟨h_.1, up_below hc_ h_.2⟩) rfl rfl ?_
           intro ts_ ht_; simp only [sI, sZ, sS] at ht_; subst ht_
           refine q_do (.pointer (some ⟨gb27, 1, none⟩)) (fun w'_ hc_ => by obtain ⟨n_, hn_⟩ := hc_; exact ex_field 117 1 (.pointer (some ⟨gb27, 0, none⟩)) (.pointer (some ⟨gb27, 1, none⟩)) (fa117_1_0 gb27) _ rfl rfl) rfl rfl ?_
           intro ts_ ht_; simp only [sI, sZ, sS] at ht_; subst ht_
           refine q_do (.int .i64 1) (fun w'_ hc_ => by obtain ⟨n_, hn_⟩ := hc_; exact ex_get sT3 gb27 (1) (.int .i64 1) (#[.int .i64 5, .int .i64 1]) (by rw [hn_]; exact BKb27.out.below n_.below BKb27.out.lt) rfl _ rfl rfl) rfl rfl ?_
           intro ts_ ht_; simp only [sI, sZ, sS] at ht_; subst ht_
           refine q_do (.int .i64 (wrap64 (t28 - 1))) (fun w'_ hc_ => by go_simp <;> (unfold wrap64; omega)) rfl rfl ?_
           intro ts_ ht_; simp only [sI, sZ, sS] at ht_; subst ht_
           refine q_do (.int .i64 (wrap64 (t28 - 1))) (fun w'_ hc_ => by go_simp <;> (unfold wrap64; omega)) rfl rfl ?_
           intro ts_ ht_; simp only [sI, sZ, sS] at ht_; subst ht_
           refine q_do (.int .i64 (wrap64 (x5_1 + (wrap64 (t28 - 1))))) (fun w'_ hc_ => by go_simp <;> (unfold wrap64; omega)) rfl rfl ?_
           intro ts_ ht_; simp only [sI, sZ, sS] at ht_; subst ht_
           refine q_do (.int .i64 (wrap64 (x5_1 + (wrap64 (t28 - 1))))) (fun w'_ hc_ => ex_mv (.tmp 40) (.inr rfl) _ rfl) rfl rfl ?_
           intro ts_ ht_; simp only [sI, sZ, sS] at ht_; subst ht_
           refine q_end ?_
           rintro w8_ ⟨n_, rfl⟩
           replace BKb1 := hid (BKb1.out.below n_.below BKb1.out.lt)
           replace BKb27 := hid (BKb27.out.below n_.below BKb27.out.lt)
           replace HL := hid (HL.out.trans (n_.below.mono HL.out.size))
           generalize n_.world = w127 at *
           clear n_ WR64 WR32
           go_wp2_with fail
           (try simp only [Act.put, sI, sZ, sS])
           go_roundg k99
           case measure => have := HK98.out; omega
           case rel => exact ⟨wrap64 (x5_1 + (wrap64 (t28 - 1))), wrap64 (x27_1 + 1), (by first | rfl | (simp; done) | (simp [*]; done)), (by first | rfl | (simp; done) | (simp [*]; done)), H', (hid (by first | omega | (have := HK98.out; omega))), (hid (by exact BKb1.out)), HL⟩
         ·
          rw [if_neg c119] at H
          exact absurd H (by simp)
      ·
       rw [if_neg c100] at H
       have c100b0 : decide (x27_1 < 3) = false := decide_eq_false c100
       have hc100 := hid c100
       clear c100
       obtain rfl := Option.some.inj H
       clear H
       go_wp2_with fail
       (try simp only [Act.put, sI, sZ, sS])
       go_ret
       exact ⟨by first | rfl | (simp; done) | (simp [*]; done), HL.out⟩
  ·
   rw [if_neg c57] at H
   have c57b0 : decide ((wrap64 (t3 - 1)) < 0) = false := decide_eq_false c57
   have c57b1 : (if (wrap64 (t3 - 1)) < 0 then 0 else (wrap64 (t3 - 1))) = (wrap64 (t3 - 1)) := if_neg c57
   have c57b2 : max (wrap64 (t3 - 1)) 0 = (wrap64 (t3 - 1)) := by omega
   have hc57 := hid c57
   clear c57
   replace H := Option.bind_eq_some_iff.mp H
   obtain ⟨t29, A128_, H⟩ := H
   have A128 := hid A128_
   clear A128_
   by_cases c129 : (wrap64 (t29 - 1)) < 0
   ·
    rw [if_pos c129] at H
    have c129b0 : decide ((wrap64 (t29 - 1)) < 0) = true := decide_eq_true c129
    have c129b1 : (if (wrap64 (t29 - 1)) < 0 then 0 else (wrap64 (t29 - 1))) = 0 := if_pos c129
    have c129b2 : max (wrap64 (t29 - 1)) 0 = 0 := by omega
    have hc129 := hid c129
    clear c129
    have H' := hid H
    clear H
    go_enter Try.func41, Try.ntmps41
    have k131 := True.intro
    go_wp2_with (first
     | ((with_reducible refine gate_d (N := 2) rfl ?_); obtain ⟨gb1, hgb1⟩ : ∃ g_, w.heap.size = g_ := ⟨_, rfl⟩; refine ag_box (bv a0) gb1 hgb1 rfl _ rfl rfl ?_; intro w130 hb_ hB_ hs_; have GEb1 : Hid (w.heap.size ≤ gb1) := hid (by have := HL.out.size; omega); replace HL := hid (HL.out.trans (hb_.mono GEb1.out)); have BKb1 := hid hB_; clear hb_ hB_ hs_ hgb1)
     | ((with_reducible refine gate_d (N := 8) rfl ?_); refine ag_fix (.agg (bv a0)) (ex_load boardT gb1 0 (bv a0) (bv a0) BKb1.out (av_le LN_a0.out) (av_ex LN_a0.out) _ rfl rfl) rfl ?_)
     | (go_at_call 66; clear k131; refine (i_count_known.calls k a0 a1 LN_a0.out true _ A54.out).mono ?_; rintro e_ w132 ⟨rfl, hb_⟩; replace BKb1 := hid (BKb1.out.below hb_ BKb1.out.lt); replace HL := hid (HL.out.trans (hb_.mono HL.out.size)); clear hb_))
    (try simp only [Act.put, sI, sZ, sS])
    have WR64 := i64_w
    have WR32 := i32_w
    refine up_regionW (by kernel_rfl) (by kernel_rfl) ?_
    refine q_do (.agg (bv a0)) (fun w'_ hc_ => by obtain ⟨n_, hn_⟩ := hc_; exact ex_load boardT gb1 0 (bv a0) (bv a0) (by rw [hn_]; exact BKb1.out.below n_.below BKb1.out.lt) (av_le LN_a0.out) (av_ex LN_a0.out) _ rfl rfl) rfl rfl ?_
    intro ts_ ht_; simp only [sI, sZ, sS] at ht_; subst ht_
    refine q_do (.int .i64 a1) (fun w'_ hc_ => ex_mv (.tmp 1) (.inl rfl) _ rfl) rfl rfl ?_
    intro ts_ ht_; simp only [sI, sZ, sS] at ht_; subst ht_
    refine q_call (.int .i64 t3) 72 #[.agg (bv a0), .int .i64 a1, .bool true] (fun w'_ => by go_simp) (fun w'_ hc_ => (i_count_bishops.calls k a0 a1 true LN_a0.out t3 _ A56.out).mono fun e_ w2_ h_ => ⟨h_.1, up_below hc_ h_.2⟩) rfl rfl ?_
    intro ts_ ht_; simp only [sI, sZ, sS] at ht_; subst ht_
    refine q_do (.int .i64 (wrap64 (t3 - 1))) (fun w'_ hc_ => by go_simp <;> (unfold wrap64; omega)) rfl rfl ?_
    intro ts_ ht_; simp only [sI, sZ, sS] at ht_; subst ht_
    refine q_do (.int .i64 (wrap64 (t3 - 1))) (fun w'_ hc_ => by go_simp <;> (unfold wrap64; omega)) rfl rfl ?_
    intro ts_ ht_; simp only [sI, sZ, sS] at ht_; subst ht_
    refine q_do (.agg (bv a0)) (fun w'_ hc_ => by obtain ⟨n_, hn_⟩ := hc_; exact ex_load boardT gb1 0 (bv a0) (bv a0) (by rw [hn_]; exact BKb1.out.below n_.below BKb1.out.lt) (av_le LN_a0.out) (av_ex LN_a0.out) _ rfl rfl) rfl rfl ?_
    intro ts_ ht_; simp only [sI, sZ, sS] at ht_; subst ht_
    refine q_do (.int .i64 a1) (fun w'_ hc_ => ex_mv (.tmp 1) (.inl rfl) _ rfl) rfl rfl ?_
    intro ts_ ht_; simp only [sI, sZ, sS] at ht_; subst ht_
    refine q_call (.int .i64 t29) 72 #[.agg (bv a0), .int .i64 a1, .bool false] (fun w'_ => by go_simp) (fun w'_ hc_ => (i_count_bishops.calls k a0 a1 false LN_a0.out t29 _ A128.out).mono fun e_ w2_ h_ => ⟨h_.1, up_below hc_ h_.2⟩) rfl rfl ?_
    intro ts_ ht_; simp only [sI, sZ, sS] at ht_; subst ht_
    refine q_do (.int .i64 (wrap64 (t29 - 1))) (fun w'_ hc_ => by go_simp <;> (unfold wrap64; omega)) rfl rfl ?_
    intro ts_ ht_; simp only [sI, sZ, sS] at ht_; subst ht_
    refine q_do (.int .i64 0) (fun w'_ hc_ => by go_simp <;> (unfold wrap64; omega)) rfl rfl ?_
    intro ts_ ht_; simp only [sI, sZ, sS] at ht_; subst ht_
    refine q_do (.int .i64 (wrap64 ((wrap64 (t3 - 1)) + 0))) (fun w'_ hc_ => by go_simp <;> (unfold wrap64; omega)) rfl rfl ?_
    intro ts_ ht_; simp only [sI, sZ, sS] at ht_; subst ht_
    refine q_do (.int .i64 (wrap64 ((wrap64 (t3 - 1)) + 0))) (fun w'_ hc_ => ex_mv (.tmp 22) (.inr rfl) _ rfl) rfl rfl ?_
    intro ts_ ht_; simp only [sI, sZ, sS] at ht_; subst ht_
    refine q_end ?_
    rintro w8_ ⟨n_, rfl⟩
    replace BKb1 := hid (BKb1.out.below n_.below BKb1.out.lt)
    replace HL := hid (HL.out.trans (n_.below.mono HL.out.size))
    generalize n_.world = w133 at *
    clear n_ WR64 WR32
    go_wp2_with (first
     | ((with_reducible refine gate_d (N := 23) rfl ?_); refine ag_build (.agg #[.int .i64 2, .int .i64 2]) _ rfl rfl ?_ ?_; (intro ww_; simp only [List.map_toArray, List.map_cons, List.map_nil]; kernel_rfl))
     | ((with_reducible refine gate_d (N := 24) rfl ?_); refine ag_build (.agg #[.int .i64 4, .int .i64 2]) _ rfl rfl ?_ ?_; (intro ww_; simp only [List.map_toArray, List.map_cons, List.map_nil]; kernel_rfl))
     | ((with_reducible refine gate_d (N := 25) rfl ?_); refine ag_build (.agg #[.int .i64 5, .int .i64 1]) _ rfl rfl ?_ ?_; (intro ww_; simp only [List.map_toArray, List.map_cons, List.map_nil]; kernel_rfl))
     | ((with_reducible refine gate_d (N := 26) rfl ?_); refine ag_build (.agg #[.int .i64 2, .int .i64 2, .int .i64 4, .int .i64 2, .int .i64 5, .int .i64 1]) _ rfl rfl ?_ ?_; (intro ww_; simp only [List.map_toArray, List.map_cons, List.map_nil]; kernel_rfl)))
    (try simp only [Act.put, sI, sZ, sS])
    go_loopg [5, 27] k (fun kq v5 v27 w' => ∃ (x5_2 : Int) (x27_2 : Int), v5 = .int .i64 x5_2 ∧ v27 = .int .i64 x27_2 ∧ Hid (i_count_Promoted.l2 kq a0 a1 x5_2 x27_2 = some r1) ∧ Hid (kq ≤ k) ∧ Hid (Blk w' gb1 44 (bv a0)) ∧ Hid (Below w.heap.size w w'))
    case atStart => exact ⟨wrap64 ((wrap64 (t3 - 1)) + 0), (0 : Int), (by first | rfl | (simp; done) | (simp [*]; done)), (by first | rfl | (simp; done) | (simp [*]; done)), H', (hid (by first | omega | (omega))), (hid (by exact BKb1.out)), HL⟩
    case round =>
     clear H'
     clear HL BKb1
     obtain ⟨x5_2, x27_2, rfl, rfl, HA, HK134, BKb1, HL⟩ := hrel
     cases gk with
     | zero => exact absurd HA.out (by simp [i_count_Promoted.l2])
     | succ k135 =>
      have H := HA.out
      clear HA
      simp only [i_count_Promoted.l2] at H
      by_cases c136 : x27_2 < 3
      ·
       rw [if_pos c136] at H
       have c136b0 : decide (x27_2 < 3) = true := decide_eq_true c136
       have hc136 := hid c136
       clear c136
       by_cases c137 : x27_2 = 0
       ·
        rw [if_pos c137] at H
        have c137b0 : (x27_2 == 0) = true := beq_iff_eq.mpr c137
        have c137b1 : (x27_2 != 0) = false := bne_eq_false_iff_eq.mpr c137
        have hc137 := hid c137
        clear c137
        replace H := Option.bind_eq_some_iff.mp H
        obtain ⟨t37, A138_, H⟩ := H
        have A138 := hid A138_
        clear A138_
        by_cases c139 : (wrap64 (t37 - 2)) < 0
        ·
         rw [if_pos c139] at H
         have c139b0 : decide ((wrap64 (t37 - 2)) < 0) = true := decide_eq_true c139
         have c139b1 : (if (wrap64 (t37 - 2)) < 0 then 0 else (wrap64 (t37 - 2))) = 0 := if_pos c139
         have c139b2 : max (wrap64 (t37 - 2)) 0 = 0 := by omega
         have hc139 := hid c139
         clear c139
         have H' := hid H
         clear H
         go_wp2_with (first
          | ((with_reducible refine gate_d (N := 29) rfl ?_); refine ag_fix (.agg #[.int .i64 2, .int .i64 2]) (ex_ix 118 (.agg #[.int .i64 2, .int .i64 2, .int .i64 4, .int .i64 2, .int .i64 5, .int .i64 1]) (.int .i64 x27_2) (.agg #[.int .i64 2, .int .i64 2]) (fun w_ => by rw [hc137.out]; kernel_rfl) _ _ rfl rfl rfl) rfl ?_)
          | ((with_reducible refine gate_d (N := 7) rfl ?_); obtain ⟨gb36, hgb36⟩ : ∃ g_, wr.heap.size = g_ := ⟨_, rfl⟩; refine ag_alloc aT117 gb36 hgb36 rfl rfl ?_; intro w140 hb_ hB_ hs_; have GEb36 : Hid (w.heap.size ≤ gb36) := hid (by have := HL.out.size; omega); have NBb1_b36 : Hid (gb1 ≠ gb36) := hid (by have := BKb1.out.lt; omega); have NBb36_b1 : Hid (gb36 ≠ gb1) := hid (by have := NBb1_b36.out; omega); replace BKb1 := hid (BKb1.out.below hb_ (by rw [← hgb36]; exact BKb1.out.lt)); replace HL := hid (HL.out.trans (hb_.mono GEb36.out)); have BKb36 := hid hB_; clear hb_ hB_ hs_ hgb36)
          | ((with_reducible refine gate_s (t := 117) (p := 7) rfl ?_); refine ag_store aT117 gb36 0 #[.int .i64 0, .int .i64 0] #[.int .i64 2, .int .i64 2] #[.int .i64 2, .int .i64 2] BKb36.out rfl (by simp) (by intro v_ hv_; simp at hv_; rcases hv_ with rfl | rfl <;> first | rfl) rfl rfl _ _ rfl rfl rfl ?_; intro w141 ho_ hB_; replace BKb1 := hid (BKb1.out.off ho_ NBb1_b36.out); replace HL := hid (ho_.below HL.out GEb36.out); replace BKb36 := hid hB_; clear ho_ hB_))
         (try simp only [Act.put, sI, sZ, sS])
         have WR64 := i64_w
         have WR32 := i32_w
         refine up_regionW (by kernel_rfl) (by kernel_rfl) ?_
         refine q_do (.int .i64 x5_2) (fun w'_ hc_ => ex_mv (.tmp 5) (.inl rfl) _ rfl) rfl rfl ?_
         intro ts_ ht_; simp only [sI, sZ, sS] at ht_; subst ht_
         refine q_do (.agg (bv a0)) (fun w'_ hc_ => by obtain ⟨n_, hn_⟩ := hc_; exact ex_load boardT gb1 0 (bv a0) (bv a0) (by rw [hn_]; exact BKb1.out.below n_.below BKb1.out.lt) (av_le LN_a0.out) (av_ex LN_a0.out) _ rfl rfl) rfl rfl ?_
         intro ts_ ht_; simp only [sI, sZ, sS] at ht_; subst ht_
         refine q_do (.pointer (some ⟨gb36, 0, none⟩)) (fun w'_ hc_ => by obtain ⟨n_, hn_⟩ := hc_; exact ex_field 117 0 (.pointer (some ⟨gb36, 0, none⟩)) (.pointer (some ⟨gb36, 0, none⟩)) (fa117_0_0 gb36) _ rfl rfl) rfl rfl ?_
         intro ts_ ht_; simp only [sI, sZ, sS] at ht_; subst ht_
         refine q_do (.int .i64 2) (fun w'_ hc_ => by obtain ⟨n_, hn_⟩ := hc_; exact ex_get sT3 gb36 (0) (.int .i64 2) (#[.int .i64 2, .int .i64 2]) (by rw [hn_]; exact BKb36.out.below n_.below BKb36.out.lt) rfl _ rfl rfl) rfl rfl ?_
         intro ts_ ht_; simp only [sI, sZ, sS] at ht_; subst ht_
         refine q_do (.int .i64 a1) (fun w'_ hc_ => ex_mv (.tmp 1) (.inl rfl) _ rfl) rfl rfl ?_
         intro ts_ ht_; simp only [sI, sZ, sS] at ht_; subst ht_
         refine q_call (.int .i64 t37) 61 #[.agg (bv a0), .int .i64 2, .int .i64 a1] (fun w'_ => by go_simp) (fun w'_ hc_ => (i_board_Many.calls k135 a0 2 a1 LN_a0.out t37 _ A138.out).mono fun e_ w2_ h_ => ⟨h_.1, up_below hc_ h_.2⟩) rfl rfl ?_
         intro ts_ ht_; simp only [sI, sZ, sS] at ht_; subst ht_
         refine q_do (.pointer (some ⟨gb36, 1, none⟩)) (fun w'_ hc_ => by obtain ⟨n_, hn_⟩ := hc_; exact ex_field 117 1 (.pointer (some ⟨gb36, 0, none⟩)) (.pointer (some ⟨gb36, 1, none⟩)) (fa117_1_0 gb36) _ rfl rfl) rfl rfl ?_
         intro ts_ ht_; simp only [sI, sZ, sS] at ht_; subst ht_
         refine q_do (.int .i64 2) (fun w'_ hc_ => by obtain ⟨n_, hn_⟩ := hc_; exact ex_get sT3 gb36 (1) (.int .i64 2) (#[.int .i64 2, .int .i64 2]) (by rw [hn_]; exact BKb36.out.below n_.below BKb36.out.lt) rfl _ rfl rfl) rfl rfl ?_
         intro ts_ ht_; simp only [sI, sZ, sS] at ht_; subst ht_
         refine q_do (.int .i64 (wrap64 (t37 - 2))) (fun w'_ hc_ => by go_simp <;> (unfold wrap64; omega)) rfl rfl ?_
         intro ts_ ht_; simp only [sI, sZ, sS] at ht_; subst ht_
         refine q_do (.int .i64 0) (fun w'_ hc_ => by go_simp <;> (unfold wrap64; omega)) rfl rfl ?_
         intro ts_ ht_; simp only [sI, sZ, sS] at ht_; subst ht_
         refine q_do (.int .i64 (wrap64 (x5_2 + 0))) (fun w'_ hc_ => by go_simp <;> (unfold wrap64; omega)) rfl rfl ?_
         intro ts_ ht_; simp only [sI, sZ, sS] at ht_; subst ht_
         refine q_do (.int .i64 (wrap64 (x5_2 + 0))) (fun w'_ hc_ => ex_mv (.tmp 40) (.inr rfl) _ rfl) rfl rfl ?_
         intro ts_ ht_; simp only [sI, sZ, sS] at ht_; subst ht_
         refine q_end ?_
         rintro w8_ ⟨n_, rfl⟩
         replace BKb1 := hid (BKb1.out.below n_.below BKb1.out.lt)
         replace BKb36 := hid (BKb36.out.below n_.below BKb36.out.lt)
         replace HL := hid (HL.out.trans (n_.below.mono HL.out.size))
         generalize n_.world = w142 at *
         clear n_ WR64 WR32
         go_wp2_with fail
         (try simp only [Act.put, sI, sZ, sS])
         go_roundg k135
         case measure => have := HK134.out; omega
         case rel => exact ⟨wrap64 (x5_2 + 0), wrap64 (x27_2 + 1), (by first | rfl | (simp; done) | (simp [*]; done)), (by first | rfl | (simp; done) | (simp [*]; done)), H', (hid (by first | omega | (have := HK134.out; omega))), (hid (by exact BKb1.out)), HL⟩
        ·
         rw [if_neg c139] at H
         have c139b0 : decide ((wrap64 (t37 - 2)) < 0) = false := decide_eq_false c139
         have c139b1 : (if (wrap64 (t37 - 2)) < 0 then 0 else (wrap64 (t37 - 2))) = (wrap64 (t37 - 2)) := if_neg c139
         have c139b2 : max (wrap64 (t37 - 2)) 0 = (wrap64 (t37 - 2)) := by omega
         have hc139 := hid c139
         clear c139
         have H' := hid H
         clear H
         go_wp2_with (first
          | ((with_reducible refine gate_d (N := 29) rfl ?_); refine ag_fix (.agg #[.int .i64 2, .int .i64 2]) (ex_ix 118 (.agg #[.int .i64 2, .int .i64 2, .int .i64 4, .int .i64 2, .int .i64 5, .int .i64 1]) (.int .i64 x27_2) (.agg #[.int .i64 2, .int .i64 2]) (fun w_ => by rw [hc137.out]; kernel_rfl) _ _ rfl rfl rfl) rfl ?_)
          | ((with_reducible refine gate_d (N := 7) rfl ?_); obtain ⟨gb36, hgb36⟩ : ∃ g_, wr.heap.size = g_ := ⟨_, rfl⟩; refine ag_alloc aT117 gb36 hgb36 rfl rfl ?_; intro w143 hb_ hB_ hs_; have GEb36 : Hid (w.heap.size ≤ gb36) := hid (by have := HL.out.size; omega); have NBb1_b36 : Hid (gb1 ≠ gb36) := hid (by have := BKb1.out.lt; omega); have NBb36_b1 : Hid (gb36 ≠ gb1) := hid (by have := NBb1_b36.out; omega); replace BKb1 := hid (BKb1.out.below hb_ (by rw [← hgb36]; exact BKb1.out.lt)); replace HL := hid (HL.out.trans (hb_.mono GEb36.out)); have BKb36 := hid hB_; clear hb_ hB_ hs_ hgb36)
          | ((with_reducible refine gate_s (t := 117) (p := 7) rfl ?_); refine ag_store aT117 gb36 0 #[.int .i64 0, .int .i64 0] #[.int .i64 2, .int .i64 2] #[.int .i64 2, .int .i64 2] BKb36.out rfl (by simp) (by intro v_ hv_; simp at hv_; rcases hv_ with rfl | rfl <;> first | rfl) rfl rfl _ _ rfl rfl rfl ?_; intro w144 ho_ hB_; replace BKb1 := hid (BKb1.out.off ho_ NBb1_b36.out); replace HL := hid (ho_.below HL.out GEb36.out); replace BKb36 := hid hB_; clear ho_ hB_))
         (try simp only [Act.put, sI, sZ, sS])
         have WR64 := i64_w
         have WR32 := i32_w
         refine up_regionW (by kernel_rfl) (by kernel_rfl) ?_
         refine q_do (.int .i64 x5_2) (fun w'_ hc_ => ex_mv (.tmp 5) (.inl rfl) _ rfl) rfl rfl ?_
         intro ts_ ht_; simp only [sI, sZ, sS] at ht_; subst ht_
         refine q_do (.agg (bv a0)) (fun w'_ hc_ => by obtain ⟨n_, hn_⟩ := hc_; exact ex_load boardT gb1 0 (bv a0) (bv a0) (by rw [hn_]; exact BKb1.out.below n_.below BKb1.out.lt) (av_le LN_a0.out) (av_ex LN_a0.out) _ rfl rfl) rfl rfl ?_
         intro ts_ ht_; simp only [sI, sZ, sS] at ht_; subst ht_
         refine q_do (.pointer (some ⟨gb36, 0, none⟩)) (fun w'_ hc_ => by obtain ⟨n_, hn_⟩ := hc_; exact ex_field 117 0 (.pointer (some ⟨gb36, 0, none⟩)) (.pointer (some ⟨gb36, 0, none⟩)) (fa117_0_0 gb36) _ rfl rfl) rfl rfl ?_
         intro ts_ ht_; simp only [sI, sZ, sS] at ht_; subst ht_
         refine q_do (.int .i64 2) (fun w'_ hc_ => by obtain ⟨n_, hn_⟩ := hc_; exact ex_get sT3 gb36 (0) (.int .i64 2) (#[.int .i64 2, .int .i64 2]) (by rw [hn_]; exact BKb36.out.below n_.below BKb36.out.lt) rfl _ rfl rfl) rfl rfl ?_
         intro ts_ ht_; simp only [sI, sZ, sS] at ht_; subst ht_
         refine q_do (.int .i64 a1) (fun w'_ hc_ => ex_mv (.tmp 1) (.inl rfl) _ rfl) rfl rfl ?_
         intro ts_ ht_; simp only [sI, sZ, sS] at ht_; subst ht_
         refine q_call (.int .i64 t37) 61 #[.agg (bv a0), .int .i64 2, .int .i64 a1] (fun w'_ => by go_simp) (fun w'_ hc_ => (i_board_Many.calls k135 a0 2 a1 LN_a0.out t37 _ A138.out).mono fun e_ w2_ h_ => ⟨h_.1, up_below hc_ h_.2⟩) rfl rfl ?_
         intro ts_ ht_; simp only [sI, sZ, sS] at ht_; subst ht_
         refine q_do (.pointer (some ⟨gb36, 1, none⟩)) (fun w'_ hc_ => by obtain ⟨n_, hn_⟩ := hc_; exact ex_field 117 1 (.pointer (some ⟨gb36, 0, none⟩)) (.pointer (some ⟨gb36, 1, none⟩)) (fa117_1_0 gb36) _ rfl rfl) rfl rfl ?_
         intro ts_ ht_; simp only [sI, sZ, sS] at ht_; subst ht_
         refine q_do (.int .i64 2) (fun w'_ hc_ => by obtain ⟨n_, hn_⟩ := hc_; exact ex_get sT3 gb36 (1) (.int .i64 2) (#[.int .i64 2, .int .i64 2]) (by rw [hn_]; exact BKb36.out.below n_.below BKb36.out.lt) rfl _ rfl rfl) rfl rfl ?_
         intro ts_ ht_; simp only [sI, sZ, sS] at ht_; subst ht_
         refine q_do (.int .i64 (wrap64 (t37 - 2))) (fun w'_ hc_ => by go_simp <;> (unfold wrap64; omega)) rfl rfl ?_
         intro ts_ ht_; simp only [sI, sZ, sS] at ht_; subst ht_
         refine q_do (.int .i64 (wrap64 (t37 - 2))) (fun w'_ hc_ => by go_simp <;> (unfold wrap64; omega)) rfl rfl ?_
         intro ts_ ht_; simp only [sI, sZ, sS] at ht_; subst ht_
         refine q_do (.int .i64 (wrap64 (x5_2 + (wrap64 (t37 - 2))))) (fun w'_ hc_ => by go_simp <;> (unfold wrap64; omega)) rfl rfl ?_
         intro ts_ ht_; simp only [sI, sZ, sS] at ht_; subst ht_
         refine q_do (.int .i64 (wrap64 (x5_2 + (wrap64 (t37 - 2))))) (fun w'_ hc_ => ex_mv (.tmp 40) (.inr rfl) _ rfl) rfl rfl ?_
         intro ts_ ht_; simp only [sI, sZ, sS] at ht_; subst ht_
         refine q_end ?_
         rintro w8_ ⟨n_, rfl⟩
         replace BKb1 := hid (BKb1.out.below n_.below BKb1.out.lt)
         replace BKb36 := hid (BKb36.out.below n_.below BKb36.out.lt)
         replace HL := hid (HL.out.trans (n_.below.mono HL.out.size))
         generalize n_.world = w145 at *
         clear n_ WR64 WR32
         go_wp2_with fail
         (try simp only [Act.put, sI, sZ, sS])
         go_roundg k135
         case measure => have := HK134.out; omega
         case rel => exact ⟨wrap64 (x5_2 + (wrap64 (t37 - 2))), wrap64 (x27_2 + 1), (by first | rfl | (simp; done) | (simp [*]; done)), (by first | rfl | (simp; done) | (simp [*]; done)), H', (hid (by first | omega | (have := HK134.out; omega))), (hid (by exact BKb1.out)), HL⟩
       ·
        rw [if_neg c137] at H
        have c137b0 : (x27_2 == 0) = false := beq_eq_false_iff_ne.mpr c137
        have c137b1 : (x27_2 != 0) = true := bne_iff_ne.mpr c137
        have hc137 := hid c137
        clear c137
        by_cases c146 : x27_2 = 1
        ·
         rw [if_pos c146] at H
         have c146b0 : (x27_2 == 1) = true := beq_iff_eq.mpr c146
         have c146b1 : (x27_2 != 1) = false := bne_eq_false_iff_eq.mpr c146
         have hc146 := hid c146
         clear c146
         replace H := Option.bind_eq_some_iff.mp H
         obtain ⟨t39, A147_, H⟩ := H
         have A147 := hid A147_
         clear A147_
         by_cases c148 : (wrap64 (t39 - 2)) < 0
         ·
          rw [if_pos c148] at H
          have c148b0 : decide ((wrap64 (t39 - 2)) < 0) = true := decide_eq_true c148
          have c148b1 : (if (wrap64 (t39 - 2)) < 0 then 0 else (wrap64 (t39 - 2))) = 0 := if_pos c148
          have c148b2 : max (wrap64 (t39 - 2)) 0 = 0 := by omega
          have hc148 := hid c148
          clear c148
          have H' := hid H
          clear H
          go_wp2_with (first
           | ((with_reducible refine gate_d (N := 29) rfl ?_); refine ag_fix (.agg #[.int .i64 4, .int .i64 2]) (ex_ix 118 (.agg #[.int .i64 2, .int .i64 2, .int .i64 4, .int .i64 2, .int .i64 5, .int .i64 1]) (.int .i64 x27_2) (.agg #[.int .i64 4, .int .i64 2]) (fun w_ => by rw [hc146.out]; kernel_rfl) _ _ rfl rfl rfl) rfl ?_)
           | ((with_reducible refine gate_d (N := 7) rfl ?_); obtain ⟨gb38, hgb38⟩ : ∃ g_, wr.heap.size = g_ := ⟨_, rfl⟩; refine ag_alloc aT117 gb38 hgb38 rfl rfl ?_; intro w149 hb_ hB_ hs_; have GEb38 : Hid (w.heap.size ≤ gb38) := hid (by have := HL.out.size; omega); have NBb1_b38 : Hid (gb1 ≠ gb38) := hid (by have := BKb1.out.lt; omega); have NBb38_b1 : Hid (gb38 ≠ gb1) := hid (by have := NBb1_b38.out; omega); replace BKb1 := hid (BKb1.out.below hb_ (by rw [← hgb38]; exact BKb1.out.lt)); replace HL := hid (HL.out.trans (hb_.mono GEb38.out)); have BKb38 := hid hB_; clear hb_ hB_ hs_ hgb38)
           | ((with_reducible refine gate_s (t := 117) (p := 7) rfl ?_); refine ag_store aT117 gb38 0 #[.int .i64 0, .int .i64 0] #[.int .i64 4, .int .i64 2] #[.int .i64 4, .int .i64 2] BKb38.out rfl (by simp) (by intro v_ hv_; simp at hv_; rcases hv_ with rfl | rfl <;> first | rfl) rfl rfl _ _ rfl rfl rfl ?_; intro w150 ho_ hB_; replace BKb1 := hid (BKb1.out.off ho_ NBb1_b38.out); replace HL := hid (ho_.below HL.out GEb38.out); replace BKb38 := hid hB_; clear ho_ hB_))
          (try simp only [Act.put, sI, sZ, sS])
          have WR64 := i64_w
          have WR32 := i32_w
          refine up_regionW (by kernel_rfl) (by kernel_rfl) ?_
          refine q_do (.int .i64 x5_2) (fun w'_ hc_ => ex_mv (.tmp 5) (.inl rfl) _ rfl) rfl rfl ?_
          intro ts_ ht_; simp only [sI, sZ, sS] at ht_; subst ht_
          refine q_do (.agg (bv a0)) (fun w'_ hc_ => by obtain ⟨n_, hn_⟩ := hc_; exact ex_load boardT gb1 0 (bv a0) (bv a0) (by rw [hn_]; exact BKb1.out.below n_.below BKb1.out.lt) (av_le LN_a0.out) (av_ex LN_a0.out) _ rfl rfl) rfl rfl ?_
          intro ts_ ht_; simp only [sI, sZ, sS] at ht_; subst ht_
          refine q_do (.pointer (some ⟨gb38, 0, none⟩)) (fun w'_ hc_ => by obtain ⟨n_, hn_⟩ := hc_; exact ex_field 117 0 (.pointer (some ⟨gb38, 0, none⟩)) (.pointer (some ⟨gb38, 0, none⟩)) (fa117_0_0 gb38) _ rfl rfl) rfl rfl ?_
          intro ts_ ht_; simp only [sI, sZ, sS] at ht_; subst ht_
          refine q_do (.int .i64 4) (fun w'_ hc_ => by obtain ⟨n_, hn_⟩ := hc_; exact ex_get sT3 gb38 (0) (.int .i64 4) (#[.int .i64 4, .int .i64 2]) (by rw [hn_]; exact BKb38.out.below n_.below BKb38.out.lt) rfl _ rfl rfl) rfl rfl ?_
          intro ts_ ht_; simp only [sI, sZ, sS] at ht_; subst ht_
          refine q_do (.int .i64 a1) (fun w'_ hc_ => ex_mv (.tmp 1) (.inl rfl) _ rfl) rfl rfl ?_
          intro ts_ ht_; simp only [sI, sZ, sS] at ht_; subst ht_
          refine q_call (.int .i64 t39) 61 #[.agg (bv a0), .int .i64 4, .int .i64 a1] (fun w'_ => by go_simp) (fun w'_ hc_ => (i_board_Many.calls k135 a0 4 a1 LN_a0.out t39 _ A147.out).mono fun e_ w2_ h_ => ⟨h_.1, up_below hc_ h_.2⟩) rfl rfl ?_
          intro ts_ ht_; simp only [sI, sZ, sS] at ht_; subst ht_
          refine q_do (.pointer (some ⟨gb38, 1, none⟩)) (fun w'_ hc_ => by obtain ⟨n_, hn_⟩ := hc_; exact ex_field 117 1 (.pointer (some ⟨gb38, 0, none⟩)) (.pointer (some ⟨gb38, 1, none⟩)) (fa117_1_0 gb38) _ rfl rfl) rfl rfl ?_
          intro ts_ ht_; simp only [sI, sZ, sS] at ht_; subst ht_
          refine q_do (.int .i64 2) (fun w'_ hc_ => by obtain ⟨n_, hn_⟩ := hc_; exact ex_get sT3 gb38 (1) (.int .i64 2) (#[.int .i64 4, .int .i64 2]) (by rw [hn_]; exact BKb38.out.below n_.below BKb38.out.lt) rfl _ rfl rfl) rfl rfl ?_
          intro ts_ ht_; simp only [sI, sZ, sS] at ht_; subst ht_
          refine q_do (.int .i64 (wrap64 (t39 - 2))) (fun w'_ hc_ => by go_simp <;> (unfold wrap64; omega)) rfl rfl ?_
          intro ts_ ht_; simp only [sI, sZ, sS] at ht_; subst ht_
          refine q_do (.int .i64 0) (fun w'_ hc_ => by go_simp <;> (unfold wrap64; omega)) rfl rfl ?_
          intro ts_ ht_; simp only [sI, sZ, sS] at ht_; subst ht_
          refine q_do (.int .i64 (wrap64 (x5_2 + 0))) (fun w'_ hc_ => by go_simp <;> (unfold wrap64; omega)) rfl rfl ?_
          intro ts_ ht_; simp only [sI, sZ, sS] at ht_; subst ht_
          refine q_do (.int .i64 (wrap64 (x5_2 + 0))) (fun w'_ hc_ => ex_mv (.tmp 40) (.inr rfl) _ rfl) rfl rfl ?_
          intro ts_ ht_; simp only [sI, sZ, sS] at ht_; subst ht_
          refine q_end ?_
          rintro w8_ ⟨n_, rfl⟩
          replace BKb1 := hid (BKb1.out.below n_.below BKb1.out.lt)
          replace BKb38 := hid (BKb38.out.below n_.below BKb38.out.lt)
          replace HL := hid (HL.out.trans (n_.below.mono HL.out.size))
          generalize n_.world = w151 at *
          clear n_ WR64 WR32
          go_wp2_with fail
          (try simp only [Act.put, sI, sZ, sS])
          go_roundg k135
          case measure => have := HK134.out; omega
          case rel => exact ⟨wrap64 (x5_2 + 0), wrap64 (x27_2 + 1), (by first | rfl | (simp; done) | (simp [*]; done)), (by first | rfl | (simp; done) | (simp [*]; done)), H', (hid (by first | omega | (have := HK134.out; omega))), (hid (by exact BKb1.out)), HL⟩
         ·
          rw [if_neg c148] at H
          have c148b0 : decide ((wrap64 (t39 - 2)) < 0) = false := decide_eq_false c148
          have c148b1 : (if (wrap64 (t39 - 2)) < 0 then 0 else (wrap64 (t39 - 2))) = (wrap64 (t39 - 2)) := if_neg c148
          have c148b2 : max (wrap64 (t39 - 2)) 0 = (wrap64 (t39 - 2)) := by omega
          have hc148 := hid c148
          clear c148
          have H' := hid H
          clear H
          go_wp2_with (first
           | ((with_reducible refine gate_d (N := 29) rfl ?_); refine ag_fix (.agg #[.int .i64 4, .int .i64 2]) (ex_ix 118 (.agg #[.int .i64 2, .int .i64 2, .int .i64 4, .int .i64 2, .int .i64 5, .int .i64 1]) (.int .i64 x27_2) (.agg #[.int .i64 4, .int .i64 2]) (fun w_ => by rw [hc146.out]; kernel_rfl) _ _ rfl rfl rfl) rfl ?_)
           | ((with_reducible refine gate_d (N := 7) rfl ?_); obtain ⟨gb38, hgb38⟩ : ∃ g_, wr.heap.size = g_ := ⟨_, rfl⟩; refine ag_alloc aT117 gb38 hgb38 rfl rfl ?_; intro w152 hb_ hB_ hs_; have GEb38 : Hid (w.heap.size ≤ gb38) := hid (by have := HL.out.size; omega); have NBb1_b38 : Hid (gb1 ≠ gb38) := hid (by have := BKb1.out.lt; omega); have NBb38_b1 : Hid (gb38 ≠ gb1) := hid (by have := NBb1_b38.out; omega); replace BKb1 := hid (BKb1.out.below hb_ (by rw [← hgb38]; exact BKb1.out.lt)); replace HL := hid (HL.out.trans (hb_.mono GEb38.out)); have BKb38 := hid hB_; clear hb_ hB_ hs_ hgb38)
           | ((with_reducible refine gate_s (t := 117) (p := 7) rfl ?_); refine ag_store aT117 gb38 0 #[.int .i64 0, .int .i64 0] #[.int .i64 4, .int .i64 2] #[.int .i64 4, .int .i64 2] BKb38.out rfl (by simp) (by intro v_ hv_; simp at hv_; rcases hv_ with rfl | rfl <;> first | rfl) rfl rfl _ _ rfl rfl rfl ?_; intro w153 ho_ hB_; replace BKb1 := hid (BKb1.out.off ho_ NBb1_b38.out); replace HL := hid (ho_.below HL.out GEb38.out); replace BKb38 := hid hB_; clear ho_ hB_))
          (try simp only [Act.put, sI, sZ, sS])
          have WR64 := i64_w
          have WR32 := i32_w
          refine up_regionW (by kernel_rfl) (by kernel_rfl) ?_
          refine q_do (.int .i64 x5_2) (fun w'_ hc_ => ex_mv (.tmp 5) (.inl rfl) _ rfl) rfl rfl ?_
          intro ts_ ht_; simp only [sI, sZ, sS] at ht_; subst ht_
          refine q_do (.agg (bv a0)) (fun w'_ hc_ => by obtain ⟨n_, hn_⟩ := hc_; exact ex_load boardT gb1 0 (bv a0) (bv a0) (by rw [hn_]; exact BKb1.out.below n_.below BKb1.out.lt) (av_le LN_a0.out) (av_ex LN_a0.out) _ rfl rfl) rfl rfl ?_
          intro ts_ ht_; simp only [sI, sZ, sS] at ht_; subst ht_
          refine q_do (.pointer (some ⟨gb38, 0, none⟩)) (fun w'_ hc_ => by obtain ⟨n_, hn_⟩ := hc_; exact ex_field 117 0 (.pointer (some ⟨gb38, 0, none⟩)) (.pointer (some ⟨gb38, 0, none⟩)) (fa117_0_0 gb38) _ rfl rfl) rfl rfl ?_
          intro ts_ ht_; simp only [sI, sZ, sS] at ht_; subst ht_
          refine q_do (.int .i64 4) (fun w'_ hc_ => by obtain ⟨n_, hn_⟩ := hc_; exact ex_get sT3 gb38 (0) (.int .i64 4) (#[.int .i64 4, .int .i64 2]) (by rw [hn_]; exact BKb38.out.below n_.below BKb38.out.lt) rfl _ rfl rfl) rfl rfl ?_
          intro ts_ ht_; simp only [sI, sZ, sS] at ht_; subst ht_
          refine q_do (.int .i64 a1) (fun w'_ hc_ => ex_mv (.tmp 1) (.inl rfl) _ rfl) rfl rfl ?_
          intro ts_ ht_; simp only [sI, sZ, sS] at ht_; subst ht_
          refine q_call (.int .i64 t39) 61 #[.agg (bv a0), .int .i64 4, .int .i64 a1] (fun w'_ => by go_simp) (fun w'_ hc_ => (i_board_Many.calls k135 a0 4 a1 LN_a0.out t39 _ A147.out).mono fun e_ w2_ h_ => ⟨h_.1, up_below hc_ h_.2⟩) rfl rfl ?_
          intro ts_ ht_; simp only [sI, sZ, sS] at ht_; subst ht_
          refine q_do (.pointer (some ⟨gb38, 1, none⟩)) (fun w'_ hc_ => by obtain ⟨n_, hn_⟩ := hc_; exact ex_field 117 1 (.pointer (some ⟨gb38, 0, none⟩)) (.pointer (some ⟨gb38, 1, none⟩)) (fa117_1_0 gb38) _ rfl rfl) rfl rfl ?_
          intro ts_ ht_; simp only [sI, sZ, sS] at ht_; subst ht_
          refine q_do (.int .i64 2) (fun w'_ hc_ => by obtain ⟨n_, hn_⟩ := hc_; exact ex_get sT3 gb38 (1) (.int .i64 2) (#[.int .i64 4, .int .i64 2]) (by rw [hn_]; exact BKb38.out.below n_.below BKb38.out.lt) rfl _ rfl rfl) rfl rfl ?_
          intro ts_ ht_; simp only [sI, sZ, sS] at ht_; subst ht_
          refine q_do (.int .i64 (wrap64 (t39 - 2))) (fun w'_ hc_ => by go_simp <;> (unfold wrap64; omega)) rfl rfl ?_
          intro ts_ ht_; simp only [sI, sZ, sS] at ht_; subst ht_
          refine q_do (.int .i64 (wrap64 (t39 - 2))) (fun w'_ hc_ => by go_simp <;> (unfold wrap64; omega)) rfl rfl ?_
          intro ts_ ht_; simp only [sI, sZ, sS] at ht_; subst ht_
          refine q_do (.int .i64 (wrap64 (x5_2 + (wrap64 (t39 - 2))))) (fun w'_ hc_ => by go_simp <;> (unfold wrap64; omega)) rfl rfl ?_
          intro ts_ ht_; simp only [sI, sZ, sS] at ht_; subst ht_
          refine q_do (.int .i64 (wrap64 (x5_2 + (wrap64 (t39 - 2))))) (fun w'_ hc_ => ex_mv (.tmp 40) (.inr rfl) _ rfl) rfl rfl ?_
          intro ts_ ht_; simp only [sI, sZ, sS] at ht_; subst ht_
          refine q_end ?_
          rintro w8_ ⟨n_, rfl⟩
          replace BKb1 := hid (BKb1.out.below n_.below BKb1.out.lt)
          replace BKb38 := hid (BKb38.out.below n_.below BKb38.out.lt)
          replace HL := hid (HL.out.trans (n_.below.mono HL.out.size))
          generalize n_.world = w154 at *
          clear n_ WR64 WR32
          go_wp2_with fail
          (try simp only [Act.put, sI, sZ, sS])
          go_roundg k135
          case measure => have := HK134.out; omega
          case rel => exact ⟨wrap64 (x5_2 + (wrap64 (t39 - 2))), wrap64 (x27_2 + 1), (by first | rfl | (simp; done) | (simp [*]; done)), (by first | rfl | (simp; done) | (simp [*]; done)), H', (hid (by first | omega | (have := HK134.out; omega))), (hid (by exact BKb1.out)), HL⟩
        ·
         rw [if_neg c146] at H
         have c146b0 : (x27_2 == 1) = false := beq_eq_false_iff_ne.mpr c146
         have c146b1 : (x27_2 != 1) = true := bne_iff_ne.mpr c146
         have hc146 := hid c146
         clear c146
         by_cases c155 : x27_2 = 2
         ·
          rw [if_pos c155] at H
          have c155b0 : (x27_2 == 2) = true := beq_iff_eq.mpr c155
          have c155b1 : (x27_2 != 2) = false := bne_eq_false_iff_eq.mpr c155
          have hc155 := hid c155
          clear c155
          replace H := Option.bind_eq_some_iff.mp H
          obtain ⟨t41, A156_, H⟩ := H
          have A156 := hid A156_
          clear A156_
          by_cases c157 : (wrap64 (t41 - 1)) < 0
          ·
           rw [if_pos c157] at H
           have c157b0 : decide ((wrap64 (t41 - 1)) < 0) = true := decide_eq_true c157
           have c157b1 : (if (wrap64 (t41 - 1)) < 0 then 0 else (wrap64 (t41 - 1))) = 0 := if_pos c157
           have c157b2 : max (wrap64 (t41 - 1)) 0 = 0 := by omega
           have hc157 := hid c157
           clear c157
           have H' := hid H
           clear H
           go_wp2_with (first
            | ((with_reducible refine gate_d (N := 29) rfl ?_); refine ag_fix (.agg #[.int .i64 5, .int .i64 1]) (ex_ix 118 (.agg #[.int .i64 2, .int .i64 2, .int .i64 4, .int .i64 2, .int .i64 5, .int .i64 1]) (.int .i64 x27_2) (.agg #[.int .i64 5, .int .i64 1]) (fun w_ => by rw [hc155.out]; kernel_rfl) _ _ rfl rfl rfl) rfl ?_)
            | ((with_reducible refine gate_d (N := 7) rfl ?_); obtain ⟨gb40, hgb40⟩ : ∃ g_, wr.heap.size = g_ := ⟨_, rfl⟩; refine ag_alloc aT117 gb40 hgb40 rfl rfl ?_; intro w158 hb_ hB_ hs_; have GEb40 : Hid (w.heap.size ≤ gb40) := hid (by have := HL.out.size; omega); have NBb1_b40 : Hid (gb1 ≠ gb40) := hid (by have := BKb1.out.lt; omega); have NBb40_b1 : Hid (gb40 ≠ gb1) := hid (by have := NBb1_b40.out; omega); replace BKb1 := hid (BKb1.out.below hb_ (by rw [← hgb40]; exact BKb1.out.lt)); replace HL := hid (HL.out.trans (hb_.mono GEb40.out)); have BKb40 := hid hB_; clear hb_ hB_ hs_ hgb40)
            | ((with_reducible refine gate_s (t := 117) (p := 7) rfl ?_); refine ag_store aT117 gb40 0 #[.int .i64 0, .int .i64 0] #[.int .i64 5, .int .i64 1] #[.int .i64 5, .int .i64 1] BKb40.out rfl (by simp) (by intro v_ hv_; simp at hv_; rcases hv_ with rfl | rfl <;> first | rfl) rfl rfl _ _ rfl rfl rfl ?_; intro w159 ho_ hB_; replace BKb1 := hid (BKb1.out.off ho_ NBb1_b40.out); replace HL := hid (ho_.below HL.out GEb40.out); replace BKb40 := hid hB_; clear ho_ hB_))
           (try simp only [Act.put, sI, sZ, sS])
           have WR64 := i64_w
           have WR32 := i32_w
           refine up_regionW (by kernel_rfl) (by kernel_rfl) ?_
           refine q_do (.int .i64 x5_2) (fun w'_ hc_ => ex_mv (.tmp 5) (.inl rfl) _ rfl) rfl rfl ?_
           intro ts_ ht_; simp only [sI, sZ, sS] at ht_; subst ht_
           refine q_do (.agg (bv a0)) (fun w'_ hc_ => by obtain ⟨n_, hn_⟩ := hc_; exact ex_load boardT gb1 0 (bv a0) (bv a0) (by rw [hn_]; exact BKb1.out.below n_.below BKb1.out.lt) (av_le LN_a0.out) (av_ex LN_a0.out) _ rfl rfl) rfl rfl ?_
           intro ts_ ht_; simp only [sI, sZ, sS] at ht_; subst ht_
           refine q_do (.pointer (some ⟨gb40, 0, none⟩)) (fun w'_ hc_ => by obtain ⟨n_, hn_⟩ := hc_; exact ex_field 117 0 (.pointer (some ⟨gb40, 0, none⟩)) (.pointer (some ⟨gb40, 0, none⟩)) (fa117_0_0 gb40) _ rfl rfl) rfl rfl ?_
           intro ts_ ht_; simp only [sI, sZ, sS] at ht_; subst ht_
           refine q_do (.int .i64 5) (fun w'_ hc_ => by obtain ⟨n_, hn_⟩ := hc_; exact ex_get sT3 gb40 (0) (.int .i64 5) (#[.int .i64 5, .int .i64 1]) (by rw [hn_]; exact BKb40.out.below n_.below BKb40.out.lt) rfl _ rfl rfl) rfl rfl ?_
           intro ts_ ht_; simp only [sI, sZ, sS] at ht_; subst ht_
           refine q_do (.int .i64 a1) (fun w'_ hc_ => ex_mv (.tmp 1) (.inl rfl) _ rfl) rfl rfl ?_
           intro ts_ ht_; simp only [sI, sZ, sS] at ht_; subst ht_
           refine q_call (.int .i64 t41) 61 #[.agg (bv a0), .int .i64 5, .int .i64 a1] (fun w'_ => by go_simp) (fun w'_ hc_ => (i_board_Many.calls k135 a0 5 a1 LN_a0.out t41 _ A156.out).mono fun e_ w2_ h_ => ⟨h_.1, up_below hc_ h_.2⟩) rfl rfl ?_
           intro ts_ ht_; simp only [sI, sZ, sS] at ht_; subst ht_
           refine q_do (.pointer (some ⟨gb40, 1, none⟩)) (fun w'_ hc_ => by obtain ⟨n_, hn_⟩ := hc_; exact ex_field 117 1 (.pointer (some ⟨gb40, 0, none⟩)) (.pointer (some ⟨gb40, 1, none⟩)) (fa117_1_0 gb40) _ rfl rfl) rfl rfl ?_
           intro ts_ ht_; simp only [sI, sZ, sS] at ht_; subst ht_
           refine q_do (.int .i64 1) (fun w'_ hc_ => by obtain ⟨n_, hn_⟩ := hc_; exact ex_get sT3 gb40 (1) (.int .i64 1) (#[.int .i64 5, .int .i64 1]) (by rw [hn_]; exact BKb40.out.below n_.below BKb40.out.lt) rfl _ rfl rfl) rfl rfl ?_
           intro ts_ ht_; simp only [sI, sZ, sS] at ht_; subst ht_
           refine q_do (.int .i64 (wrap64 (t41 - 1))) (fun w'_ hc_ => by go_simp <;> (unfold wrap64; omega)) rfl rfl ?_
           intro ts_ ht_; simp only [sI, sZ, sS] at ht_; subst ht_
           refine q_do (.int .i64 0) (fun w'_ hc_ => by go_simp <;> (unfold wrap64; omega)) rfl rfl ?_
           intro ts_ ht_; simp only [sI, sZ, sS] at ht_; subst ht_
           refine q_do (.int .i64 (wrap64 (x5_2 + 0))) (fun w'_ hc_ => by go_simp <;> (unfold wrap64; omega)) rfl rfl ?_
           intro ts_ ht_; simp only [sI, sZ, sS] at ht_; subst ht_
           refine q_do (.int .i64 (wrap64 (x5_2 + 0))) (fun w'_ hc_ => ex_mv (.tmp 40) (.inr rfl) _ rfl) rfl rfl ?_
           intro ts_ ht_; simp only [sI, sZ, sS] at ht_; subst ht_
           refine q_end ?_
           rintro w8_ ⟨n_, rfl⟩
           replace BKb1 := hid (BKb1.out.below n_.below BKb1.out.lt)
           replace BKb40 := hid (BKb40.out.below n_.below BKb40.out.lt)
           replace HL := hid (HL.out.trans (n_.below.mono HL.out.size))
           generalize n_.world = w160 at *
           clear n_ WR64 WR32
           go_wp2_with fail
           (try simp only [Act.put, sI, sZ, sS])
           go_roundg k135
           case measure => have := HK134.out; omega
           case rel => exact ⟨wrap64 (x5_2 + 0), wrap64 (x27_2 + 1), (by first | rfl | (simp; done) | (simp [*]; done)), (by first | rfl | (simp; done) | (simp [*]; done)), H', (hid (by first | omega | (have := HK134.out; omega))), (hid (by exact BKb1.out)), HL⟩
          ·
           rw [if_neg c157] at H
           have c157b0 : decide ((wrap64 (t41 - 1)) < 0) = false := decide_eq_false c157
           have c157b1 : (if (wrap64 (t41 - 1)) < 0 then 0 else (wrap64 (t41 - 1))) = (wrap64 (t41 - 1)) := if_neg c157
           have c157b2 : max (wrap64 (t41 - 1)) 0 = (wrap64 (t41 - 1)) := by omega
           have hc157 := hid c157
           clear c157
           have H' := hid H
           clear H
           go_wp2_with (first
            | ((with_reducible refine gate_d (N := 29) rfl ?_); refine ag_fix (.agg #[.int .i64 5, .int .i64 1]) (ex_ix 118 (.agg #[.int .i64 2, .int .i64 2, .int .i64 4, .int .i64 2, .int .i64 5, .int .i64 1]) (.int .i64 x27_2) (.agg #[.int .i64 5, .int .i64 1]) (fun w_ => by rw [hc155.out]; kernel_rfl) _ _ rfl rfl rfl) rfl ?_)
            | ((with_reducible refine gate_d (N := 7) rfl ?_); obtain ⟨gb40, hgb40⟩ : ∃ g_, wr.heap.size = g_ := ⟨_, rfl⟩; refine ag_alloc aT117 gb40 hgb40 rfl rfl ?_; intro w161 hb_ hB_ hs_; have GEb40 : Hid (w.heap.size ≤ gb40) := hid (by have := HL.out.size; omega); have NBb1_b40 : Hid (gb1 ≠ gb40) := hid (by have := BKb1.out.lt; omega); have NBb40_b1 : Hid (gb40 ≠ gb1) := hid (by have := NBb1_b40.out; omega); replace BKb1 := hid (BKb1.out.below hb_ (by rw [← hgb40]; exact BKb1.out.lt)); replace HL := hid (HL.out.trans (hb_.mono GEb40.out)); have BKb40 := hid hB_; clear hb_ hB_ hs_ hgb40)
            | ((with_reducible refine gate_s (t := 117) (p := 7) rfl ?_); refine ag_store aT117 gb40 0 #[.int .i64 0, .int .i64 0] #[.int .i64 5, .int .i64 1] #[.int .i64 5, .int .i64 1] BKb40.out rfl (by simp) (by intro v_ hv_; simp at hv_; rcases hv_ with rfl | rfl <;> first | rfl) rfl rfl _ _ rfl rfl rfl ?_; intro w162 ho_ hB_; replace BKb1 := hid (BKb1.out.off ho_ NBb1_b40.out); replace HL := hid (ho_.below HL.out GEb40.out); replace BKb40 := hid hB_; clear ho_ hB_))
           (try simp only [Act.put, sI, sZ, sS])
           have WR64 := i64_w
           have WR32 := i32_w
           refine up_regionW (by kernel_rfl) (by kernel_rfl) ?_
           refine q_do (.int .i64 x5_2) (fun w'_ hc_ => ex_mv (.tmp 5) (.inl rfl) _ rfl) rfl rfl ?_
           intro ts_ ht_; simp only [sI, sZ, sS] at ht_; subst ht_
           refine q_do (.agg (bv a0)) (fun w'_ hc_ => by obtain ⟨n_, hn_⟩ := hc_; exact ex_load boardT gb1 0 (bv a0) (bv a0) (by rw [hn_]; exact BKb1.out.below n_.below BKb1.out.lt) (av_le LN_a0.out) (av_ex LN_a0.out) _ rfl rfl) rfl rfl ?_
           intro ts_ ht_; simp only [sI, sZ, sS] at ht_; subst ht_
           refine q_do (.pointer (some ⟨gb40, 0, none⟩)) (fun w'_ hc_ => by obtain ⟨n_, hn_⟩ := hc_; exact ex_field 117 0 (.pointer (some ⟨gb40, 0, none⟩)) (.pointer (some ⟨gb40, 0, none⟩)) (fa117_0_0 gb40) _ rfl rfl) rfl rfl ?_
           intro ts_ ht_; simp only [sI, sZ, sS] at ht_; subst ht_
           refine q_do (.int .i64 5) (fun w'_ hc_ => by obtain ⟨n_, hn_⟩ := hc_; exact ex_get sT3 gb40 (0) (.int .i64 5) (#[.int .i64 5, .int .i64 1]) (by rw [hn_]; exact BKb40.out.below n_.below BKb40.out.lt) rfl _ rfl rfl) rfl rfl ?_
           intro ts_ ht_; simp only [sI, sZ, sS] at ht_; subst ht_
           refine q_do (.int .i64 a1) (fun w'_ hc_ => ex_mv (.tmp 1) (.inl rfl) _ rfl) rfl rfl ?_
           intro ts_ ht_; simp only [sI, sZ, sS] at ht_; subst ht_
           refine q_call (.int .i64 t41) 61 #[.agg (bv a0), .int .i64 5, .int .i64 a1] (fun w'_ => by go_simp) (fun w'_ hc_ => (i_board_Many.calls k135 a0 5 a1 LN_a0.out t41 _ A156.out).mono fun e_ w2_ h_ => ⟨h_.1, up_below hc_ h_.2⟩) rfl rfl ?_
           intro ts_ ht_; simp only [sI, sZ, sS] at ht_; subst ht_
           refine q_do (.pointer (some ⟨gb40, 1, none⟩)) (fun w'_ hc_ => by obtain ⟨n_, hn_⟩ := hc_; exact ex_field 117 1 (.pointer (some ⟨gb40, 0, none⟩)) (.pointer (some ⟨gb40, 1, none⟩)) (fa117_1_0 gb40) _ rfl rfl) rfl rfl ?_
           intro ts_ ht_; simp only [sI, sZ, sS] at ht_; subst ht_
           refine q_do (.int .i64 1) (fun w'_ hc_ => by obtain ⟨n_, hn_⟩ := hc_; exact ex_get sT3 gb40 (1) (.int .i64 1) (#[.int .i64 5, .int .i64 1]) (by rw [hn_]; exact BKb40.out.below n_.below BKb40.out.lt) rfl _ rfl rfl) rfl rfl ?_
           intro ts_ ht_; simp only [sI, sZ, sS] at ht_; subst ht_
           refine q_do (.int .i64 (wrap64 (t41 - 1))) (fun w'_ hc_ => by go_simp <;> (unfold wrap64; omega)) rfl rfl ?_
           intro ts_ ht_; simp only [sI, sZ, sS] at ht_; subst ht_
           refine q_do (.int .i64 (wrap64 (t41 - 1))) (fun w'_ hc_ => by go_simp <;> (unfold wrap64; omega)) rfl rfl ?_
           intro ts_ ht_; simp only [sI, sZ, sS] at ht_; subst ht_
           refine q_do (.int .i64 (wrap64 (x5_2 + (wrap64 (t41 - 1))))) (fun w'_ hc_ => by go_simp <;> (unfold wrap64; omega)) rfl rfl ?_
           intro ts_ ht_; simp only [sI, sZ, sS] at ht_; subst ht_
           refine q_do (.int .i64 (wrap64 (x5_2 + (wrap64 (t41 - 1))))) (fun w'_ hc_ => ex_mv (.tmp 40) (.inr rfl) _ rfl) rfl rfl ?_
           intro ts_ ht_; simp only [sI, sZ, sS] at ht_; subst ht_
           refine q_end ?_
           rintro w8_ ⟨n_, rfl⟩
           replace BKb1 := hid (BKb1.out.below n_.below BKb1.out.lt)
           replace BKb40 := hid (BKb40.out.below n_.below BKb40.out.lt)
           replace HL := hid (HL.out.trans (n_.below.mono HL.out.size))
           generalize n_.world = w163 at *
           clear n_ WR64 WR32
           go_wp2_with fail
           (try simp only [Act.put, sI, sZ, sS])
           go_roundg k135
           case measure => have := HK134.out; omega
           case rel => exact ⟨wrap64 (x5_2 + (wrap64 (t41 - 1))), wrap64 (x27_2 + 1), (by first | rfl | (simp; done) | (simp [*]; done)), (by first | rfl | (simp; done) | (simp [*]; done)), H', (hid (by first | omega | (have := HK134.out; omega))), (hid (by exact BKb1.out)), HL⟩
         ·
          rw [if_neg c155] at H
          exact absurd H (by simp)
      ·
       rw [if_neg c136] at H
       have c136b0 : decide (x27_2 < 3) = false := decide_eq_false c136
       have hc136 := hid c136
       clear c136
       obtain rfl := Option.some.inj H
       clear H
       go_wp2_with fail
       (try simp only [Act.put, sI, sZ, sS])
       go_ret
       exact ⟨by first | rfl | (simp; done) | (simp [*]; done), HL.out⟩
   ·
    rw [if_neg c129] at H
    have c129b0 : decide ((wrap64 (t29 - 1)) < 0) = false := decide_eq_false c129
    have c129b1 : (if (wrap64 (t29 - 1)) < 0 then 0 else (wrap64 (t29 - 1))) = (wrap64 (t29 - 1)) := if_neg c129
    have c129b2 : max (wrap64 (t29 - 1)) 0 = (wrap64 (t29 - 1)) := by omega
    have hc129 := hid c129
    clear c129
    have H' := hid H
    clear H
    go_enter Try.func41, Try.ntmps41
    have k165 := True.intro
    go_wp2_with (first
     | ((with_reducible refine gate_d (N := 2) rfl ?_); obtain ⟨gb1, hgb1⟩ : ∃ g_, w.heap.size = g_ := ⟨_, rfl⟩; refine ag_box (bv a0) gb1 hgb1 rfl _ rfl rfl ?_; intro w164 hb_ hB_ hs_; have GEb1 : Hid (w.heap.size ≤ gb1) := hid (by have := HL.out.size; omega); replace HL := hid (HL.out.trans (hb_.mono GEb1.out)); have BKb1 := hid hB_; clear hb_ hB_ hs_ hgb1)
     | ((with_reducible refine gate_d (N := 8) rfl ?_); refine ag_fix (.agg (bv a0)) (ex_load boardT gb1 0 (bv a0) (bv a0) BKb1.out (av_le LN_a0.out) (av_ex LN_a0.out) _ rfl rfl) rfl ?_)
     | (go_at_call 66; clear k165; refine (i_count_known.calls k a0 a1 LN_a0.out true _ A54.out).mono ?_; rintro e_ w166 ⟨rfl, hb_⟩; replace BKb1 := hid (BKb1.out.below hb_ BKb1.out.lt); replace HL := hid (HL.out.trans (hb_.mono HL.out.size)); clear hb_))
    (try simp only [Act.put, sI, sZ, sS])
    have WR64 := i64_w
    have WR32 := i32_w
    refine up_regionW (by kernel_rfl) (by kernel_rfl) ?_
    refine q_do (.agg (bv a0)) (fun w'_ hc_ => by obtain ⟨n_, hn_⟩ := hc_; exact ex_load boardT gb1 0 (bv a0) (bv a0) (by rw [hn_]; exact BKb1.out.below n_.below BKb1.out.lt) (av_le LN_a0.out) (av_ex LN_a0.out) _ rfl rfl) rfl rfl ?_
    intro ts_ ht_; simp only [sI, sZ, sS] at ht_; subst ht_
    refine q_do (.int .i64 a1) (fun w'_ hc_ => ex_mv (.tmp 1) (.inl rfl) _ rfl) rfl rfl ?_
    intro ts_ ht_; simp only [sI, sZ, sS] at ht_; subst ht_
    refine q_call (.int .i64 t3) 72 #[.agg (bv a0), .int .i64 a1, .bool true] (fun w'_ => by go_simp) (fun w'_ hc_ => (i_count_bishops.calls k a0 a1 true LN_a0.out t3 _ A56.out).mono fun e_ w2_ h_ => ⟨h_.1, up_below hc_ h_.2⟩) rfl rfl ?_
    intro ts_ ht_; simp only [sI, sZ, sS] at ht_; subst ht_
    refine q_do (.int .i64 (wrap64 (t3 - 1))) (fun w'_ hc_ => by go_simp <;> (unfold wrap64; omega)) rfl rfl ?_
    intro ts_ ht_; simp only [sI, sZ, sS] at ht_; subst ht_
    refine q_do (.int .i64 (wrap64 (t3 - 1))) (fun w'_ hc_ => by go_simp <;> (unfold wrap64; omega)) rfl rfl ?_
    intro ts_ ht_; simp only [sI, sZ, sS] at ht_; subst ht_
    refine q_do (.agg (bv a0)) (fun w'_ hc_ => by obtain ⟨n_, hn_⟩ := hc_; exact ex_load boardT gb1 0 (bv a0) (bv a0) (by rw [hn_]; exact BKb1.out.below n_.below BKb1.out.lt) (av_le LN_a0.out) (av_ex LN_a0.out) _ rfl rfl) rfl rfl ?_
    intro ts_ ht_; simp only [sI, sZ, sS] at ht_; subst ht_
    refine q_do (.int .i64 a1) (fun w'_ hc_ => ex_mv (.tmp 1) (.inl rfl) _ rfl) rfl rfl ?_
    intro ts_ ht_; simp only [sI, sZ, sS] at ht_; subst ht_
    refine q_call (.int .i64 t29) 72 #[.agg (bv a0), .int .i64 a1, .bool false] (fun w'_ => by go_simp) (fun w'_ hc_ => (i_count_bishops.calls k a0 a1 false LN_a0.out t29 _ A128.out).mono fun e_ w2_ h_ => ⟨h_.1, up_below hc_ h_.2⟩) rfl rfl ?_
    intro ts_ ht_; simp only [sI, sZ, sS] at ht_; subst ht_
    refine q_do (.int .i64 (wrap64 (t29 - 1))) (fun w'_ hc_ => by go_simp <;> (unfold wrap64; omega)) rfl rfl ?_
    intro ts_ ht_; simp only [sI, sZ, sS] at ht_; subst ht_
    refine q_do (.int .i64 (wrap64 (t29 - 1))) (fun w'_ hc_ => by go_simp <;> (unfold wrap64; omega)) rfl rfl ?_
    intro ts_ ht_; simp only [sI, sZ, sS] at ht_; subst ht_
    refine q_do (.int .i64 (wrap64 ((wrap64 (t3 - 1)) + (wrap64 (t29 - 1))))) (fun w'_ hc_ => by go_simp <;> (unfold wrap64; omega)) rfl rfl ?_
    intro ts_ ht_; simp only [sI, sZ, sS] at ht_; subst ht_
    refine q_do (.int .i64 (wrap64 ((wrap64 (t3 - 1)) + (wrap64 (t29 - 1))))) (fun w'_ hc_ => ex_mv (.tmp 22) (.inr rfl) _ rfl) rfl rfl ?_
    intro ts_ ht_; simp only [sI, sZ, sS] at ht_; subst ht_
    refine q_end ?_
    rintro w8_ ⟨n_, rfl⟩
    replace BKb1 := hid (BKb1.out.below n_.below BKb1.out.lt)
    replace HL := hid (HL.out.trans (n_.below.mono HL.out.size))
    generalize n_.world = w167 at *
    clear n_ WR64 WR32
    go_wp2_with (first
     | ((with_reducible refine gate_d (N := 23) rfl ?_); refine ag_build (.agg #[.int .i64 2, .int .i64 2]) _ rfl rfl ?_ ?_; (intro ww_; simp only [List.map_toArray, List.map_cons, List.map_nil]; kernel_rfl))
     | ((with_reducible refine gate_d (N := 24) rfl ?_); refine ag_build (.agg #[.int .i64 4, .int .i64 2]) _ rfl rfl ?_ ?_; (intro ww_; simp only [List.map_toArray, List.map_cons, List.map_nil]; kernel_rfl))
     | ((with_reducible refine gate_d (N := 25) rfl ?_); refine ag_build (.agg #[.int .i64 5, .int .i64 1]) _ rfl rfl ?_ ?_; (intro ww_; simp only [List.map_toArray, List.map_cons, List.map_nil]; kernel_rfl))
     | ((with_reducible refine gate_d (N := 26) rfl ?_); refine ag_build (.agg #[.int .i64 2, .int .i64 2, .int .i64 4, .int .i64 2, .int .i64 5, .int .i64 1]) _ rfl rfl ?_ ?_; (intro ww_; simp only [List.map_toArray, List.map_cons, List.map_nil]; kernel_rfl)))
    (try simp only [Act.put, sI, sZ, sS])
    go_loopg [5, 27] k (fun kq v5 v27 w' => ∃ (x5_3 : Int) (x27_3 : Int), v5 = .int .i64 x5_3 ∧ v27 = .int .i64 x27_3 ∧ Hid (i_count_Promoted.l3 kq a0 a1 x5_3 x27_3 = some r1) ∧ Hid (kq ≤ k) ∧ Hid (Blk w' gb1 44 (bv a0)) ∧ Hid (Below w.heap.size w w'))
    case atStart => exact ⟨wrap64 ((wrap64 (t3 - 1)) + (wrap64 (t29 - 1))), (0 : Int), (by first | rfl | (simp; done) | (simp [*]; done)), (by first | rfl | (simp; done) | (simp [*]; done)), H', (hid (by first | omega | (omega))), (hid (by exact BKb1.out)), HL⟩
    case round =>
     clear H'
     clear HL BKb1
     obtain ⟨x5_3, x27_3, rfl, rfl, HA, HK168, BKb1, HL⟩ := hrel
     cases gk with
     | zero => exact absurd HA.out (by simp [i_count_Promoted.l3])
     | succ k169 =>
      have H := HA.out
      clear HA
      simp only [i_count_Promoted.l3] at H
      by_cases c170 : x27_3 < 3
      ·
       rw [if_pos c170] at H
       have c170b0 : decide (x27_3 < 3) = true := decide_eq_true c170
       have hc170 := hid c170
       clear c170
       by_cases c171 : x27_3 = 0
       ·
        rw [if_pos c171] at H
        have c171b0 : (x27_3 == 0) = true := beq_iff_eq.mpr c171
        have c171b1 : (x27_3 != 0) = false := bne_eq_false_iff_eq.mpr c171
        have hc171 := hid c171
        clear c171
        replace H := Option.bind_eq_some_iff.mp H
        obtain ⟨t49, A172_, H⟩ := H
        have A172 := hid A172_
        clear A172_
        by_cases c173 : (wrap64 (t49 - 2)) < 0
        ·
         rw [if_pos c173] at H
         have c173b0 : decide ((wrap64 (t49 - 2)) < 0) = true := decide_eq_true c173
         have c173b1 : (if (wrap64 (t49 - 2)) < 0 then 0 else (wrap64 (t49 - 2))) = 0 := if_pos c173
         have c173b2 : max (wrap64 (t49 - 2)) 0 = 0 := by omega
         have hc173 := hid c173
         clear c173
         have H' := hid H
         clear H
         go_wp2_with (first
          | ((with_reducible refine gate_d (N := 29) rfl ?_); refine ag_fix (.agg #[.int .i64 2, .int .i64 2]) (ex_ix 118 (.agg #[.int .i64 2, .int .i64 2, .int .i64 4, .int .i64 2, .int .i64 5, .int .i64 1]) (.int .i64 x27_3) (.agg #[.int .i64 2, .int .i64 2]) (fun w_ => by rw [hc171.out]; kernel_rfl) _ _ rfl rfl rfl) rfl ?_)
          | ((with_reducible refine gate_d (N := 7) rfl ?_); obtain ⟨gb48, hgb48⟩ : ∃ g_, wr.heap.size = g_ := ⟨_, rfl⟩; refine ag_alloc aT117 gb48 hgb48 rfl rfl ?_; intro w174 hb_ hB_ hs_; have GEb48 : Hid (w.heap.size ≤ gb48) := hid (by have := HL.out.size; omega); have NBb1_b48 : Hid (gb1 ≠ gb48) := hid (by have := BKb1.out.lt; omega); have NBb48_b1 : Hid (gb48 ≠ gb1) := hid (by have := NBb1_b48.out; omega); replace BKb1 := hid (BKb1.out.below hb_ (by rw [← hgb48]; exact BKb1.out.lt)); replace HL := hid (HL.out.trans (hb_.mono GEb48.out)); have BKb48 := hid hB_; clear hb_ hB_ hs_ hgb48)
          | ((with_reducible refine gate_s (t := 117) (p := 7) rfl ?_); refine ag_store aT117 gb48 0 #[.int .i64 0, .int .i64 0] #[.int .i64 2, .int .i64 2] #[.int .i64 2, .int .i64 2] BKb48.out rfl (by simp) (by intro v_ hv_; simp at hv_; rcases hv_ with rfl | rfl <;> first | rfl) rfl rfl _ _ rfl rfl rfl ?_; intro w175 ho_ hB_; replace BKb1 := hid (BKb1.out.off ho_ NBb1_b48.out); replace HL := hid (ho_.below HL.out GEb48.out); replace BKb48 := hid hB_; clear ho_ hB_))
         (try simp only [Act.put, sI, sZ, sS])
         have WR64 := i64_w
         have WR32 := i32_w
         refine up_regionW (by kernel_rfl) (by kernel_rfl) ?_
         refine q_do (.int .i64 x5_3) (fun w'_ hc_ => ex_mv (.tmp 5) (.inl rfl) _ rfl) rfl rfl ?_
         intro ts_ ht_; simp only [sI, sZ, sS] at ht_; subst ht_
         refine q_do (.agg (bv a0)) (fun w'_ hc_ => by obtain ⟨n_, hn_⟩ := hc_; exact ex_load boardT gb1 0 (bv a0) (bv a0) (by rw [hn_]; exact BKb1.out.below n_.below BKb1.out.lt) (av_le LN_a0.out) (av_ex LN_a0.out) _ rfl rfl) rfl rfl ?_
         intro ts_ ht_; simp only [sI, sZ, sS] at ht_; subst ht_
         refine q_do (.pointer (some ⟨gb48, 0, none⟩)) (fun w'_ hc_ => by obtain ⟨n_, hn_⟩ := hc_; exact ex_field 117 0 (.pointer (some ⟨gb48, 0, none⟩)) (.pointer (some ⟨gb48, 0, none⟩)) (fa117_0_0 gb48) _ rfl rfl) rfl rfl ?_
         intro ts_ ht_; simp only [sI, sZ, sS] at ht_; subst ht_
         refine q_do (.int .i64 2) (fun w'_ hc_ => by obtain ⟨n_, hn_⟩ := hc_; exact ex_get sT3 gb48 (0) (.int .i64 2) (#[.int .i64 2, .int .i64 2]) (by rw [hn_]; exact BKb48.out.below n_.below BKb48.out.lt) rfl _ rfl rfl) rfl rfl ?_
         intro ts_ ht_; simp only [sI, sZ, sS] at ht_; subst ht_
         refine q_do (.int .i64 a1) (fun w'_ hc_ => ex_mv (.tmp 1) (.inl rfl) _ rfl) rfl rfl ?_
         intro ts_ ht_; simp only [sI, sZ, sS] at ht_; subst ht_
         refine q_call (.int .i64 t49) 61 #[.agg (bv a0), .int .i64 2, .int .i64 a1] (fun w'_ => by go_simp) (fun w'_ hc_ => (i_board_Many.calls k169 a0 2 a1 LN_a0.out t49 _ A172.out).mono fun e_ w2_ h_ => ⟨h_.1, up_below hc_ h_.2⟩) rfl rfl ?_
         intro ts_ ht_; simp only [sI, sZ, sS] at ht_; subst ht_
         refine q_do (.pointer (some ⟨gb48, 1, none⟩)) (fun w'_ hc_ => by obtain ⟨n_, hn_⟩ := hc_; exact ex_field 117 1 (.pointer (some ⟨gb48, 0, none⟩)) (.pointer (some ⟨gb48, 1, none⟩)) (fa117_1_0 gb48) _ rfl rfl) rfl rfl ?_
         intro ts_ ht_; simp only [sI, sZ, sS] at ht_; subst ht_
         refine q_do (.int .i64 2) (fun w'_ hc_ => by obtain ⟨n_, hn_⟩ := hc_; exact ex_get sT3 gb48 (1) (.int .i64 2) (#[.int .i64 2, .int .i64 2]) (by rw [hn_]; exact BKb48.out.below n_.below BKb48.out.lt) rfl _ rfl rfl) rfl rfl ?_
         intro ts_ ht_; simp only [sI, sZ, sS] at ht_; subst ht_
         refine q_do (.int .i64 (wrap64 (t49 - 2))) (fun w'_ hc_ => by go_simp <;> (unfold wrap64; omega)) rfl rfl ?_
         intro ts_ ht_; simp only [sI, sZ, sS] at ht_; subst ht_
         refine q_do (.int .i64 0) (fun w'_ hc_ => by go_simp <;> (unfold wrap64; omega)) rfl rfl ?_
         intro ts_ ht_; simp only [sI, sZ, sS] at ht_; subst ht_
         refine q_do (.int .i64 (wrap64 (x5_3 + 0))) (fun w'_ hc_ => by go_simp <;> (unfold wrap64; omega)) rfl rfl ?_
         intro ts_ ht_; simp only [sI, sZ, sS] at ht_; subst ht_
         refine q_do (.int .i64 (wrap64 (x5_3 + 0))) (fun w'_ hc_ => ex_mv (.tmp 40) (.inr rfl) _ rfl) rfl rfl ?_
         intro ts_ ht_; simp only [sI, sZ, sS] at ht_; subst ht_
         refine q_end ?_
         rintro w8_ ⟨n_, rfl⟩
         replace BKb1 := hid (BKb1.out.below n_.below BKb1.out.lt)
         replace BKb48 := hid (BKb48.out.below n_.below BKb48.out.lt)
         replace HL := hid (HL.out.trans (n_.below.mono HL.out.size))
         generalize n_.world = w176 at *
         clear n_ WR64 WR32
         go_wp2_with fail
         (try simp only [Act.put, sI, sZ, sS])
         go_roundg k169
         case measure => have := HK168.out; omega
         case rel => exact ⟨wrap64 (x5_3 + 0), wrap64 (x27_3 + 1), (by first | rfl | (simp; done) | (simp [*]; done)), (by first | rfl | (simp; done) | (simp [*]; done)), H', (hid (by first | omega | (have := HK168.out; omega))), (hid (by exact BKb1.out)), HL⟩
        ·
         rw [if_neg c173] at H
         have c173b0 : decide ((wrap64 (t49 - 2)) < 0) = false := decide_eq_false c173
         have c173b1 : (if (wrap64 (t49 - 2)) < 0 then 0 else (wrap64 (t49 - 2))) = (wrap64 (t49 - 2)) := if_neg c173
         have c173b2 : max (wrap64 (t49 - 2)) 0 = (wrap64 (t49 - 2)) := by omega
         have hc173 := hid c173
         clear c173
         have H' := hid H
         clear H
         go_wp2_with (first
          | ((with_reducible refine gate_d (N := 29) rfl ?_); refine ag_fix (.agg #[.int .i64 2, .int .i64 2]) (ex_ix 118 (.agg #[.int .i64 2, .int .i64 2, .int .i64 4, .int .i64 2, .int .i64 5, .int .i64 1]) (.int .i64 x27_3) (.agg #[.int .i64 2, .int .i64 2]) (fun w_ => by rw [hc171.out]; kernel_rfl) _ _ rfl rfl rfl) rfl ?_)
          | ((with_reducible refine gate_d (N := 7) rfl ?_); obtain ⟨gb48, hgb48⟩ : ∃ g_, wr.heap.size = g_ := ⟨_, rfl⟩; refine ag_alloc aT117 gb48 hgb48 rfl rfl ?_; intro w177 hb_ hB_ hs_; have GEb48 : Hid (w.heap.size ≤ gb48) := hid (by have := HL.out.size; omega); have NBb1_b48 : Hid (gb1 ≠ gb48) := hid (by have := BKb1.out.lt; omega); have NBb48_b1 : Hid (gb48 ≠ gb1) := hid (by have := NBb1_b48.out; omega); replace BKb1 := hid (BKb1.out.below hb_ (by rw [← hgb48]; exact BKb1.out.lt)); replace HL := hid (HL.out.trans (hb_.mono GEb48.out)); have BKb48 := hid hB_; clear hb_ hB_ hs_ hgb48)
          | ((with_reducible refine gate_s (t := 117) (p := 7) rfl ?_); refine ag_store aT117 gb48 0 #[.int .i64 0, .int .i64 0] #[.int .i64 2, .int .i64 2] #[.int .i64 2, .int .i64 2] BKb48.out rfl (by simp) (by intro v_ hv_; simp at hv_; rcases hv_ with rfl | rfl <;> first | rfl) rfl rfl _ _ rfl rfl rfl ?_; intro w178 ho_ hB_; replace BKb1 := hid (BKb1.out.off ho_ NBb1_b48.out); replace HL := hid (ho_.below HL.out GEb48.out); replace BKb48 := hid hB_; clear ho_ hB_))
         (try simp only [Act.put, sI, sZ, sS])
         have WR64 := i64_w
         have WR32 := i32_w
         refine up_regionW (by kernel_rfl) (by kernel_rfl) ?_
         refine q_do (.int .i64 x5_3) (fun w'_ hc_ => ex_mv (.tmp 5) (.inl rfl) _ rfl) rfl rfl ?_
         intro ts_ ht_; simp only [sI, sZ, sS] at ht_; subst ht_
         refine q_do (.agg (bv a0)) (fun w'_ hc_ => by obtain ⟨n_, hn_⟩ := hc_; exact ex_load boardT gb1 0 (bv a0) (bv a0) (by rw [hn_]; exact BKb1.out.below n_.below BKb1.out.lt) (av_le LN_a0.out) (av_ex LN_a0.out) _ rfl rfl) rfl rfl ?_
         intro ts_ ht_; simp only [sI, sZ, sS] at ht_; subst ht_
         refine q_do (.pointer (some ⟨gb48, 0, none⟩)) (fun w'_ hc_ => by obtain ⟨n_, hn_⟩ := hc_; exact ex_field 117 0 (.pointer (some ⟨gb48, 0, none⟩)) (.pointer (some ⟨gb48, 0, none⟩)) (fa117_0_0 gb48) _ rfl rfl) rfl rfl ?_
         intro ts_ ht_; simp only [sI, sZ, sS] at ht_; subst ht_
         refine q_do (.int .i64 2) (fun w'_ hc_ => by obtain ⟨n_, hn_⟩ := hc_; exact ex_get sT3 gb48 (0) (.int .i64 2) (#[.int .i64 2, .int .i64 2]) (by rw [hn_]; exact BKb48.out.below n_.below BKb48.out.lt) rfl _ rfl rfl) rfl rfl ?_
         intro ts_ ht_; simp only [sI, sZ, sS] at ht_; subst ht_
         refine q_do (.int .i64 a1) (fun w'_ hc_ => ex_mv (.tmp 1) (.inl rfl) _ rfl) rfl rfl ?_
         intro ts_ ht_; simp only [sI, sZ, sS] at ht_; subst ht_
         refine q_call (.int .i64 t49) 61 #[.agg (bv a0), .int .i64 2, .int .i64 a1] (fun w'_ => by go_simp) (fun w'_ hc_ => (i_board_Many.calls k169 a0 2 a1 LN_a0.out t49 _ A172.out).mono fun e_ w2_ h_ => ⟨h_.1, up_below hc_ h_.2⟩) rfl rfl ?_
         intro ts_ ht_; simp only [sI, sZ, sS] at ht_; subst ht_
         refine q_do (.pointer (some ⟨gb48, 1, none⟩)) (fun w'_ hc_ => by obtain ⟨n_, hn_⟩ := hc_; exact ex_field 117 1 (.pointer (some ⟨gb48, 0, none⟩)) (.pointer (some ⟨gb48, 1, none⟩)) (fa117_1_0 gb48) _ rfl rfl) rfl rfl ?_
         intro ts_ ht_; simp only [sI, sZ, sS] at ht_; subst ht_
         refine q_do (.int .i64 2) (fun w'_ hc_ => by obtain ⟨n_, hn_⟩ := hc_; exact ex_get sT3 gb48 (1) (.int .i64 2) (#[.int .i64 2, .int .i64 2]) (by rw [hn_]; exact BKb48.out.below n_.below BKb48.out.lt) rfl _ rfl rfl) rfl rfl ?_
         intro ts_ ht_; simp only [sI, sZ, sS] at ht_; subst ht_
         refine q_do (.int .i64 (wrap64 (t49 - 2))) (fun w'_ hc_ => by go_simp <;> (unfold wrap64; omega)) rfl rfl ?_
         intro ts_ ht_; simp only [sI, sZ, sS] at ht_; subst ht_
         refine q_do (.int .i64 (wrap64 (t49 - 2))) (fun w'_ hc_ => by go_simp <;> (unfold wrap64; omega)) rfl rfl ?_
         intro ts_ ht_; simp only [sI, sZ, sS] at ht_; subst ht_
         refine q_do (.int .i64 (wrap64 (x5_3 + (wrap64 (t49 - 2))))) (fun w'_ hc_ => by go_simp <;> (unfold wrap64; omega)) rfl rfl ?_
         intro ts_ ht_; simp only [sI, sZ, sS] at ht_; subst ht_
         refine q_do (.int .i64 (wrap64 (x5_3 + (wrap64 (t49 - 2))))) (fun w'_ hc_ => ex_mv (.tmp 40) (.inr rfl) _ rfl) rfl rfl ?_
         intro ts_ ht_; simp only [sI, sZ, sS] at ht_; subst ht_
         refine q_end ?_
         rintro w8_ ⟨n_, rfl⟩
         replace BKb1 := hid (BKb1.out.below n_.below BKb1.out.lt)
         replace BKb48 := hid (BKb48.out.below n_.below BKb48.out.lt)
         replace HL := hid (HL.out.trans (n_.below.mono HL.out.size))
         generalize n_.world = w179 at *
         clear n_ WR64 WR32
         go_wp2_with fail
         (try simp only [Act.put, sI, sZ, sS])
         go_roundg k169
         case measure => have := HK168.out; omega
         case rel => exact ⟨wrap64 (x5_3 + (wrap64 (t49 - 2))), wrap64 (x27_3 + 1), (by first | rfl | (simp; done) | (simp [*]; done)), (by first | rfl | (simp; done) | (simp [*]; done)), H', (hid (by first | omega | (have := HK168.out; omega))), (hid (by exact BKb1.out)), HL⟩
       ·
        rw [if_neg c171] at H
        have c171b0 : (x27_3 == 0) = false := beq_eq_false_iff_ne.mpr c171
        have c171b1 : (x27_3 != 0) = true := bne_iff_ne.mpr c171
        have hc171 := hid c171
        clear c171
        by_cases c180 : x27_3 = 1
        ·
         rw [if_pos c180] at H
         have c180b0 : (x27_3 == 1) = true := beq_iff_eq.mpr c180
         have c180b1 : (x27_3 != 1) = false := bne_eq_false_iff_eq.mpr c180
         have hc180 := hid c180
         clear c180
         replace H := Option.bind_eq_some_iff.mp H
         obtain ⟨t51, A181_, H⟩ := H
         have A181 := hid A181_
         clear A181_
         by_cases c182 : (wrap64 (t51 - 2)) < 0
         ·
          rw [if_pos c182] at H
          have c182b0 : decide ((wrap64 (t51 - 2)) < 0) = true := decide_eq_true c182
          have c182b1 : (if (wrap64 (t51 - 2)) < 0 then 0 else (wrap64 (t51 - 2))) = 0 := if_pos c182
          have c182b2 : max (wrap64 (t51 - 2)) 0 = 0 := by omega
          have hc182 := hid c182
          clear c182
          have H' := hid H
          clear H
          go_wp2_with (first
           | ((with_reducible refine gate_d (N := 29) rfl ?_); refine ag_fix (.agg #[.int .i64 4, .int .i64 2]) (ex_ix 118 (.agg #[.int .i64 2, .int .i64 2, .int .i64 4, .int .i64 2, .int .i64 5, .int .i64 1]) (.int .i64 x27_3) (.agg #[.int .i64 4, .int .i64 2]) (fun w_ => by rw [hc180.out]; kernel_rfl) _ _ rfl rfl rfl) rfl ?_)
           | ((with_reducible refine gate_d (N := 7) rfl ?_); obtain ⟨gb50, hgb50⟩ : ∃ g_, wr.heap.size = g_ := ⟨_, rfl⟩; refine ag_alloc aT117 gb50 hgb50 rfl rfl ?_; intro w183 hb_ hB_ hs_; have GEb50 : Hid (w.heap.size ≤ gb50) := hid (by have := HL.out.size; omega); have NBb1_b50 : Hid (gb1 ≠ gb50) := hid (by have := BKb1.out.lt; omega); have NBb50_b1 : Hid (gb50 ≠ gb1) := hid (by have := NBb1_b50.out; omega); replace BKb1 := hid (BKb1.out.below hb_ (by rw [← hgb50]; exact BKb1.out.lt)); replace HL := hid (HL.out.trans (hb_.mono GEb50.out)); have BKb50 := hid hB_; clear hb_ hB_ hs_ hgb50)
           | ((with_reducible refine gate_s (t := 117) (p := 7) rfl ?_); refine ag_store aT117 gb50 0 #[.int .i64 0, .int .i64 0] #[.int .i64 4, .int .i64 2] #[.int .i64 4, .int .i64 2] BKb50.out rfl (by simp) (by intro v_ hv_; simp at hv_; rcases hv_ with rfl | rfl <;> first | rfl) rfl rfl _ _ rfl rfl rfl ?_; intro w184 ho_ hB_; replace BKb1 := hid (BKb1.out.off ho_ NBb1_b50.out); replace HL := hid (ho_.below HL.out GEb50.out); replace BKb50 := hid hB_; clear ho_ hB_))
          (try simp only [Act.put, sI, sZ, sS])
          have WR64 := i64_w
          have WR32 := i32_w
          refine up_regionW (by kernel_rfl) (by kernel_rfl) ?_
          refine q_do (.int .i64 x5_3) (fun w'_ hc_ => ex_mv (.tmp 5) (.inl rfl) _ rfl) rfl rfl ?_
          intro ts_ ht_; simp only [sI, sZ, sS] at ht_; subst ht_
          refine q_do (.agg (bv a0)) (fun w'_ hc_ => by obtain ⟨n_, hn_⟩ := hc_; exact ex_load boardT gb1 0 (bv a0) (bv a0) (by rw [hn_]; exact BKb1.out.below n_.below BKb1.out.lt) (av_le LN_a0.out) (av_ex LN_a0.out) _ rfl rfl) rfl rfl ?_
          intro ts_ ht_; simp only [sI, sZ, sS] at ht_; subst ht_
          refine q_do (.pointer (some ⟨gb50, 0, none⟩)) (fun w'_ hc_ => by obtain ⟨n_, hn_⟩ := hc_; exact ex_field 117 0 (.pointer (some ⟨gb50, 0, none⟩)) (.pointer (some ⟨gb50, 0, none⟩)) (fa117_0_0 gb50) _ rfl rfl) rfl rfl ?_
          intro ts_ ht_; simp only [sI, sZ, sS] at ht_; subst ht_
          refine q_do (.int .i64 4) (fun w'_ hc_ => by obtain ⟨n_, hn_⟩ := hc_; exact ex_get sT3 gb50 (0) (.int .i64 4) (#[.int .i64 4, .int .i64 2]) (by rw [hn_]; exact BKb50.out.below n_.below BKb50.out.lt) rfl _ rfl rfl) rfl rfl ?_
          intro ts_ ht_; simp only [sI, sZ, sS] at ht_; subst ht_
          refine q_do (.int .i64 a1) (fun w'_ hc_ => ex_mv (.tmp 1) (.inl rfl) _ rfl) rfl rfl ?_
          intro ts_ ht_; simp only [sI, sZ, sS] at ht_; subst ht_
          refine q_call (.int .i64 t51) 61 #[.agg (bv a0), .int .i64 4, .int .i64 a1] (fun w'_ => by go_simp) (fun w'_ hc_ => (i_board_Many.calls k169 a0 4 a1 LN_a0.out t51 _ A181.out).mono fun e_ w2_ h_ => ⟨h_.1, up_below hc_ h_.2⟩) rfl rfl ?_
          intro ts_ ht_; simp only [sI, sZ, sS] at ht_; subst ht_
          refine q_do (.pointer (some ⟨gb50, 1, none⟩)) (fun w'_ hc_ => by obtain ⟨n_, hn_⟩ := hc_; exact ex_field 117 1 (.pointer (some ⟨gb50, 0, none⟩)) (.pointer (some ⟨gb50, 1, none⟩)) (fa117_1_0 gb50) _ rfl rfl) rfl rfl ?_
          intro ts_ ht_; simp only [sI, sZ, sS] at ht_; subst ht_
          refine q_do (.int .i64 2) (fun w'_ hc_ => by obtain ⟨n_, hn_⟩ := hc_; exact ex_get sT3 gb50 (1) (.int .i64 2) (#[.int .i64 4, .int .i64 2]) (by rw [hn_]; exact BKb50.out.below n_.below BKb50.out.lt) rfl _ rfl rfl) rfl rfl ?_
          intro ts_ ht_; simp only [sI, sZ, sS] at ht_; subst ht_
          refine q_do (.int .i64 (wrap64 (t51 - 2))) (fun w'_ hc_ => by go_simp <;> (unfold wrap64; omega)) rfl rfl ?_
          intro ts_ ht_; simp only [sI, sZ, sS] at ht_; subst ht_
          refine q_do (.int .i64 0) (fun w'_ hc_ => by go_simp <;> (unfold wrap64; omega)) rfl rfl ?_
          intro ts_ ht_; simp only [sI, sZ, sS] at ht_; subst ht_
          refine q_do (.int .i64 (wrap64 (x5_3 + 0))) (fun w'_ hc_ => by go_simp <;> (unfold wrap64; omega)) rfl rfl ?_
          intro ts_ ht_; simp only [sI, sZ, sS] at ht_; subst ht_
          refine q_do (.int .i64 (wrap64 (x5_3 + 0))) (fun w'_ hc_ => ex_mv (.tmp 40) (.inr rfl) _ rfl) rfl rfl ?_
          intro ts_ ht_; simp only [sI, sZ, sS] at ht_; subst ht_
          refine q_end ?_
          rintro w8_ ⟨n_, rfl⟩
          replace BKb1 := hid (BKb1.out.below n_.below BKb1.out.lt)
          replace BKb50 := hid (BKb50.out.below n_.below BKb50.out.lt)
          replace HL := hid (HL.out.trans (n_.below.mono HL.out.size))
          generalize n_.world = w185 at *
          clear n_ WR64 WR32
          go_wp2_with fail
          (try simp only [Act.put, sI, sZ, sS])
          go_roundg k169
          case measure => have := HK168.out; omega
          case rel => exact ⟨wrap64 (x5_3 + 0), wrap64 (x27_3 + 1), (by first | rfl | (simp; done) | (simp [*]; done)), (by first | rfl | (simp; done) | (simp [*]; done)), H', (hid (by first | omega | (have := HK168.out; omega))), (hid (by exact BKb1.out)), HL⟩
         ·
          rw [if_neg c182] at H
          have c182b0 : decide ((wrap64 (t51 - 2)) < 0) = false := decide_eq_false c182
          have c182b1 : (if (wrap64 (t51 - 2)) < 0 then 0 else (wrap64 (t51 - 2))) = (wrap64 (t51 - 2)) := if_neg c182
          have c182b2 : max (wrap64 (t51 - 2)) 0 = (wrap64 (t51 - 2)) := by omega
          have hc182 := hid c182
          clear c182
          have H' := hid H
          clear H
          go_wp2_with (first
           | ((with_reducible refine gate_d (N := 29) rfl ?_); refine ag_fix (.agg #[.int .i64 4, .int .i64 2]) (ex_ix 118 (.agg #[.int .i64 2, .int .i64 2, .int .i64 4, .int .i64 2, .int .i64 5, .int .i64 1]) (.int .i64 x27_3) (.agg #[.int .i64 4, .int .i64 2]) (fun w_ => by rw [hc180.out]; kernel_rfl) _ _ rfl rfl rfl) rfl ?_)
           | ((with_reducible refine gate_d (N := 7) rfl ?_); obtain ⟨gb50, hgb50⟩ : ∃ g_, wr.heap.size = g_ := ⟨_, rfl⟩; refine ag_alloc aT117 gb50 hgb50 rfl rfl ?_; intro w186 hb_ hB_ hs_; have GEb50 : Hid (w.heap.size ≤ gb50) := hid (by have := HL.out.size; omega); have NBb1_b50 : Hid (gb1 ≠ gb50) := hid (by have := BKb1.out.lt; omega); have NBb50_b1 : Hid (gb50 ≠ gb1) := hid (by have := NBb1_b50.out; omega); replace BKb1 := hid (BKb1.out.below hb_ (by rw [← hgb50]; exact BKb1.out.lt)); replace HL := hid (HL.out.trans (hb_.mono GEb50.out)); have BKb50 := hid hB_; clear hb_ hB_ hs_ hgb50)
           | ((with_reducible refine gate_s (t := 117) (p := 7) rfl ?_); refine ag_store aT117 gb50 0 #[.int .i64 0, .int .i64 0] #[.int .i64 4, .int .i64 2] #[.int .i64 4, .int .i64 2] BKb50.out rfl (by simp) (by intro v_ hv_; simp at hv_; rcases hv_ with rfl | rfl <;> first | rfl) rfl rfl _ _ rfl rfl rfl ?_; intro w187 ho_ hB_; replace BKb1 := hid (BKb1.out.off ho_ NBb1_b50.out); replace HL := hid (ho_.below HL.out GEb50.out); replace BKb50 := hid hB_; clear ho_ hB_))
          (try simp only [Act.put, sI, sZ, sS])
          have WR64 := i64_w
          have WR32 := i32_w
          refine up_regionW (by kernel_rfl) (by kernel_rfl) ?_
          refine q_do (.int .i64 x5_3) (fun w'_ hc_ => ex_mv (.tmp 5) (.inl rfl) _ rfl) rfl rfl ?_
          intro ts_ ht_; simp only [sI, sZ, sS] at ht_; subst ht_
          refine q_do (.agg (bv a0)) (fun w'_ hc_ => by obtain ⟨n_, hn_⟩ := hc_; exact ex_load boardT gb1 0 (bv a0) (bv a0) (by rw [hn_]; exact BKb1.out.below n_.below BKb1.out.lt) (av_le LN_a0.out) (av_ex LN_a0.out) _ rfl rfl) rfl rfl ?_
          intro ts_ ht_; simp only [sI, sZ, sS] at ht_; subst ht_
          refine q_do (.pointer (some ⟨gb50, 0, none⟩)) (fun w'_ hc_ => by obtain ⟨n_, hn_⟩ := hc_; exact ex_field 117 0 (.pointer (some ⟨gb50, 0, none⟩)) (.pointer (some ⟨gb50, 0, none⟩)) (fa117_0_0 gb50) _ rfl rfl) rfl rfl ?_
          intro ts_ ht_; simp only [sI, sZ, sS] at ht_; subst ht_
          refine q_do (.int .i64 4) (fun w'_ hc_ => by obtain ⟨n_, hn_⟩ := hc_; exact ex_get sT3 gb50 (0) (.int .i64 4) (#[.int .i64 4, .int .i64 2]) (by rw [hn_]; exact BKb50.out.below n_.below BKb50.out.lt) rfl _ rfl rfl) rfl rfl ?_
          intro ts_ ht_; simp only [sI, sZ, sS] at ht_; subst ht_
          refine q_do (.int .i64 a1) (fun w'_ hc_ => ex_mv (.tmp 1) (.inl rfl) _ rfl) rfl rfl ?_
          intro ts_ ht_; simp only [sI, sZ, sS] at ht_; subst ht_
          refine q_call (.int .i64 t51) 61 #[.agg (bv a0), .int .i64 4, .int .i64 a1] (fun w'_ => by go_simp) (fun w'_ hc_ => (i_board_Many.calls k169 a0 4 a1 LN_a0.out t51 _ A181.out).mono fun e_ w2_ h_ => ⟨h_.1, up_below hc_ h_.2⟩) rfl rfl ?_
          intro ts_ ht_; simp only [sI, sZ, sS] at ht_; subst ht_
          refine q_do (.pointer (some ⟨gb50, 1, none⟩)) (fun w'_ hc_ => by obtain ⟨n_, hn_⟩ := hc_; exact ex_field 117 1 (.pointer (some ⟨gb50, 0, none⟩)) (.pointer (some ⟨gb50, 1, none⟩)) (fa117_1_0 gb50) _ rfl rfl) rfl rfl ?_
          intro ts_ ht_; simp only [sI, sZ, sS] at ht_; subst ht_
          refine q_do (.int .i64 2) (fun w'_ hc_ => by obtain ⟨n_, hn_⟩ := hc_; exact ex_get sT3 gb50 (1) (.int .i64 2) (#[.int .i64 4, .int .i64 2]) (by rw [hn_]; exact BKb50.out.below n_.below BKb50.out.lt) rfl _ rfl rfl) rfl rfl ?_
          intro ts_ ht_; simp only [sI, sZ, sS] at ht_; subst ht_
          refine q_do (.int .i64 (wrap64 (t51 - 2))) (fun w'_ hc_ => by go_simp <;> (unfold wrap64; omega)) rfl rfl ?_
          intro ts_ ht_; simp only [sI, sZ, sS] at ht_; subst ht_
          refine q_do (.int .i64 (wrap64 (t51 - 2))) (fun w'_ hc_ => by go_simp <;> (unfold wrap64; omega)) rfl rfl ?_
          intro ts_ ht_; simp only [sI, sZ, sS] at ht_; subst ht_
          refine q_do (.int .i64 (wrap64 (x5_3 + (wrap64 (t51 - 2))))) (fun w'_ hc_ => by go_simp <;> (unfold wrap64; omega)) rfl rfl ?_
          intro ts_ ht_; simp only [sI, sZ, sS] at ht_; subst ht_
          refine q_do (.int .i64 (wrap64 (x5_3 + (wrap64 (t51 - 2))))) (fun w'_ hc_ => ex_mv (.tmp 40) (.inr rfl) _ rfl) rfl rfl ?_
          intro ts_ ht_; simp only [sI, sZ, sS] at ht_; subst ht_
          refine q_end ?_
          rintro w8_ ⟨n_, rfl⟩
          replace BKb1 := hid (BKb1.out.below n_.below BKb1.out.lt)
          replace BKb50 := hid (BKb50.out.below n_.below BKb50.out.lt)
          replace HL := hid (HL.out.trans (n_.below.mono HL.out.size))
          generalize n_.world = w188 at *
          clear n_ WR64 WR32
          go_wp2_with fail
          (try simp only [Act.put, sI, sZ, sS])
          go_roundg k169
          case measure => have := HK168.out; omega
          case rel => exact ⟨wrap64 (x5_3 + (wrap64 (t51 - 2))), wrap64 (x27_3 + 1), (by first | rfl | (simp; done) | (simp [*]; done)), (by first | rfl | (simp; done) | (simp [*]; done)), H', (hid (by first | omega | (have := HK168.out; omega))), (hid (by exact BKb1.out)), HL⟩
        ·
         rw [if_neg c180] at H
         have c180b0 : (x27_3 == 1) = false := beq_eq_false_iff_ne.mpr c180
         have c180b1 : (x27_3 != 1) = true := bne_iff_ne.mpr c180
         have hc180 := hid c180
         clear c180
         by_cases c189 : x27_3 = 2
         ·
          rw [if_pos c189] at H
          have c189b0 : (x27_3 == 2) = true := beq_iff_eq.mpr c189
          have c189b1 : (x27_3 != 2) = false := bne_eq_false_iff_eq.mpr c189
          have hc189 := hid c189
          clear c189
          replace H := Option.bind_eq_some_iff.mp H
          obtain ⟨t53, A190_, H⟩ := H
          have A190 := hid A190_
          clear A190_
          by_cases c191 : (wrap64 (t53 - 1)) < 0
          ·
           rw [if_pos c191] at H
           have c191b0 : decide ((wrap64 (t53 - 1)) < 0) = true := decide_eq_true c191
           have c191b1 : (if (wrap64 (t53 - 1)) < 0 then 0 else (wrap64 (t53 - 1))) = 0 := if_pos c191
           have c191b2 : max (wrap64 (t53 - 1)) 0 = 0 := by omega
           have hc191 := hid c191
           clear c191
           have H' := hid H
           clear H
           go_wp2_with (first
            | ((with_reducible refine gate_d (N := 29) rfl ?_); refine ag_fix (.agg #[.int .i64 5, .int .i64 1]) (ex_ix 118 (.agg #[.int .i64 2, .int .i64 2, .int .i64 4, .int .i64 2, .int .i64 5, .int .i64 1]) (.int .i64 x27_3) (.agg #[.int .i64 5, .int .i64 1]) (fun w_ => by rw [hc189.out]; kernel_rfl) _ _ rfl rfl rfl) rfl ?_)
            | ((with_reducible refine gate_d (N := 7) rfl ?_); obtain ⟨gb52, hgb52⟩ : ∃ g_, wr.heap.size = g_ := ⟨_, rfl⟩; refine ag_alloc aT117 gb52 hgb52 rfl rfl ?_; intro w192 hb_ hB_ hs_; have GEb52 : Hid (w.heap.size ≤ gb52) := hid (by have := HL.out.size; omega); have NBb1_b52 : Hid (gb1 ≠ gb52) := hid (by have := BKb1.out.lt; omega); have NBb52_b1 : Hid (gb52 ≠ gb1) := hid (by have := NBb1_b52.out; omega); replace BKb1 := hid (BKb1.out.below hb_ (by rw [← hgb52]; exact BKb1.out.lt)); replace HL := hid (HL.out.trans (hb_.mono GEb52.out)); have BKb52 := hid hB_; clear hb_ hB_ hs_ hgb52)
            | ((with_reducible refine gate_s (t := 117) (p := 7) rfl ?_); refine ag_store aT117 gb52 0 #[.int .i64 0, .int .i64 0] #[.int .i64 5, .int .i64 1] #[.int .i64 5, .int .i64 1] BKb52.out rfl (by simp) (by intro v_ hv_; simp at hv_; rcases hv_ with rfl | rfl <;> first | rfl) rfl rfl _ _ rfl rfl rfl ?_; intro w193 ho_ hB_; replace BKb1 := hid (BKb1.out.off ho_ NBb1_b52.out); replace HL := hid (ho_.below HL.out GEb52.out); replace BKb52 := hid hB_; clear ho_ hB_))
           (try simp only [Act.put, sI, sZ, sS])
           have WR64 := i64_w
           have WR32 := i32_w
           refine up_regionW (by kernel_rfl) (by kernel_rfl) ?_
           refine q_do (.int .i64 x5_3) (fun w'_ hc_ => ex_mv (.tmp 5) (.inl rfl) _ rfl) rfl rfl ?_
           intro ts_ ht_; simp only [sI, sZ, sS] at ht_; subst ht_
           refine q_do (.agg (bv a0)) (fun w'_ hc_ => by obtain ⟨n_, hn_⟩ := hc_; exact ex_load boardT gb1 0 (bv a0) (bv a0) (by rw [hn_]; exact BKb1.out.below n_.below BKb1.out.lt) (av_le LN_a0.out) (av_ex LN_a0.out) _ rfl rfl) rfl rfl ?_
           intro ts_ ht_; simp only [sI, sZ, sS] at ht_; subst ht_
           refine q_do (.pointer (some ⟨gb52, 0, none⟩)) (fun w'_ hc_ => by obtain ⟨n_, hn_⟩ := hc_; exact ex_field 117 0 (.pointer (some ⟨gb52, 0, none⟩)) (.pointer (some ⟨gb52, 0, none⟩)) (fa117_0_0 gb52) _ rfl rfl) rfl rfl ?_
           intro ts_ ht_; simp only [sI, sZ, sS] at ht_; subst ht_
           refine q_do (.int .i64 5) (fun w'_ hc_ => by obtain ⟨n_, hn_⟩ := hc_; exact ex_get sT3 gb52 (0) (.int .i64 5) (#[.int .i64 5, .int .i64 1]) (by rw [hn_]; exact BKb52.out.below n_.below BKb52.out.lt) rfl _ rfl rfl) rfl rfl ?_
           intro ts_ ht_; simp only [sI, sZ, sS] at ht_; subst ht_
           refine q_do (.int .i64 a1) (fun w'_ hc_ => ex_mv (.tmp 1) (.inl rfl) _ rfl) rfl rfl ?_
           intro ts_ ht_; simp only [sI, sZ, sS] at ht_; subst ht_
           refine q_call (.int .i64 t53) 61 #[.agg (bv a0), .int .i64 5, .int .i64 a1] (fun w'_ => by go_simp) (fun w'_ hc_ => (i_board_Many.calls k169 a0 5 a1 LN_a0.out t53 _ A190.out).mono fun e_ w2_ h_ => ⟨h_.1, up_below hc_ h_.2⟩) rfl rfl ?_
           intro ts_ ht_; simp only [sI, sZ, sS] at ht_; subst ht_
           refine q_do (.pointer (some ⟨gb52, 1, none⟩)) (fun w'_ hc_ => by obtain ⟨n_, hn_⟩ := hc_; exact ex_field 117 1 (.pointer (some ⟨gb52, 0, none⟩)) (.pointer (some ⟨gb52, 1, none⟩)) (fa117_1_0 gb52) _ rfl rfl) rfl rfl ?_
           intro ts_ ht_; simp only [sI, sZ, sS] at ht_; subst ht_
           refine q_do (.int .i64 1) (fun w'_ hc_ => by obtain ⟨n_, hn_⟩ := hc_; exact ex_get sT3 gb52 (1) (.int .i64 1) (#[.int .i64 5, .int .i64 1]) (by rw [hn_]; exact BKb52.out.below n_.below BKb52.out.lt) rfl _ rfl rfl) rfl rfl ?_
           intro ts_ ht_; simp only [sI, sZ, sS] at ht_; subst ht_
           refine q_do (.int .i64 (wrap64 (t53 - 1))) (fun w'_ hc_ => by go_simp <;> (unfold wrap64; omega)) rfl rfl ?_
           intro ts_ ht_; simp only [sI, sZ, sS] at ht_; subst ht_
           refine q_do (.int .i64 0) (fun w'_ hc_ => by go_simp <;> (unfold wrap64; omega)) rfl rfl ?_
           intro ts_ ht_; simp only [sI, sZ, sS] at ht_; subst ht_
           refine q_do (.int .i64 (wrap64 (x5_3 + 0))) (fun w'_ hc_ => by go_simp <;> (unfold wrap64; omega)) rfl rfl ?_
           intro ts_ ht_; simp only [sI, sZ, sS] at ht_; subst ht_
           refine q_do (.int .i64 (wrap64 (x5_3 + 0))) (fun w'_ hc_ => ex_mv (.tmp 40) (.inr rfl) _ rfl) rfl rfl ?_
           intro ts_ ht_; simp only [sI, sZ, sS] at ht_; subst ht_
           refine q_end ?_
           rintro w8_ ⟨n_, rfl⟩
           replace BKb1 := hid (BKb1.out.below n_.below BKb1.out.lt)
           replace BKb52 := hid (BKb52.out.below n_.below BKb52.out.lt)
           replace HL := hid (HL.out.trans (n_.below.mono HL.out.size))
           generalize n_.world = w194 at *
           clear n_ WR64 WR32
           go_wp2_with fail
           (try simp only [Act.put, sI, sZ, sS])
           go_roundg k169
           case measure => have := HK168.out; omega
           case rel => exact ⟨wrap64 (x5_3 + 0), wrap64 (x27_3 + 1), (by first | rfl | (simp; done) | (simp [*]; done)), (by first | rfl | (simp; done) | (simp [*]; done)), H', (hid (by first | omega | (have := HK168.out; omega))), (hid (by exact BKb1.out)), HL⟩
          ·
           rw [if_neg c191] at H
           have c191b0 : decide ((wrap64 (t53 - 1)) < 0) = false := decide_eq_false c191
           have c191b1 : (if (wrap64 (t53 - 1)) < 0 then 0 else (wrap64 (t53 - 1))) = (wrap64 (t53 - 1)) := if_neg c191
           have c191b2 : max (wrap64 (t53 - 1)) 0 = (wrap64 (t53 - 1)) := by omega
           have hc191 := hid c191
           clear c191
           have H' := hid H
           clear H
           go_wp2_with (first
            | ((with_reducible refine gate_d (N := 29) rfl ?_); refine ag_fix (.agg #[.int .i64 5, .int .i64 1]) (ex_ix 118 (.agg #[.int .i64 2, .int .i64 2, .int .i64 4, .int .i64 2, .int .i64 5, .int .i64 1]) (.int .i64 x27_3) (.agg #[.int .i64 5, .int .i64 1]) (fun w_ => by rw [hc189.out]; kernel_rfl) _ _ rfl rfl rfl) rfl ?_)
            | ((with_reducible refine gate_d (N := 7) rfl ?_); obtain ⟨gb52, hgb52⟩ : ∃ g_, wr.heap.size = g_ := ⟨_, rfl⟩; refine ag_alloc aT117 gb52 hgb52 rfl rfl ?_; intro w195 hb_ hB_ hs_; have GEb52 : Hid (w.heap.size ≤ gb52) := hid (by have := HL.out.size; omega); have NBb1_b52 : Hid (gb1 ≠ gb52) := hid (by have := BKb1.out.lt; omega); have NBb52_b1 : Hid (gb52 ≠ gb1) := hid (by have := NBb1_b52.out; omega); replace BKb1 := hid (BKb1.out.below hb_ (by rw [← hgb52]; exact BKb1.out.lt)); replace HL := hid (HL.out.trans (hb_.mono GEb52.out)); have BKb52 := hid hB_; clear hb_ hB_ hs_ hgb52)
            | ((with_reducible refine gate_s (t := 117) (p := 7) rfl ?_); refine ag_store aT117 gb52 0 #[.int .i64 0, .int .i64 0] #[.int .i64 5, .int .i64 1] #[.int .i64 5, .int .i64 1] BKb52.out rfl (by simp) (by intro v_ hv_; simp at hv_; rcases hv_ with rfl | rfl <;> first | rfl) rfl rfl _ _ rfl rfl rfl ?_; intro w196 ho_ hB_; replace BKb1 := hid (BKb1.out.off ho_ NBb1_b52.out); replace HL := hid (ho_.below HL.out GEb52.out); replace BKb52 := hid hB_; clear ho_ hB_))
           (try simp only [Act.put, sI, sZ, sS])
           have WR64 := i64_w
           have WR32 := i32_w
           refine up_regionW (by kernel_rfl) (by kernel_rfl) ?_
           refine q_do (.int .i64 x5_3) (fun w'_ hc_ => ex_mv (.tmp 5) (.inl rfl) _ rfl) rfl rfl ?_
           intro ts_ ht_; simp only [sI, sZ, sS] at ht_; subst ht_
           refine q_do (.agg (bv a0)) (fun w'_ hc_ => by obtain ⟨n_, hn_⟩ := hc_; exact ex_load boardT gb1 0 (bv a0) (bv a0) (by rw [hn_]; exact BKb1.out.below n_.below BKb1.out.lt) (av_le LN_a0.out) (av_ex LN_a0.out) _ rfl rfl) rfl rfl ?_
           intro ts_ ht_; simp only [sI, sZ, sS] at ht_; subst ht_
           refine q_do (.pointer (some ⟨gb52, 0, none⟩)) (fun w'_ hc_ => by obtain ⟨n_, hn_⟩ := hc_; exact ex_field 117 0 (.pointer (some ⟨gb52, 0, none⟩)) (.pointer (some ⟨gb52, 0, none⟩)) (fa117_0_0 gb52) _ rfl rfl) rfl rfl ?_
           intro ts_ ht_; simp only [sI, sZ, sS] at ht_; subst ht_
           refine q_do (.int .i64 5) (fun w'_ hc_ => by obtain ⟨n_, hn_⟩ := hc_; exact ex_get sT3 gb52 (0) (.int .i64 5) (#[.int .i64 5, .int .i64 1]) (by rw [hn_]; exact BKb52.out.below n_.below BKb52.out.lt) rfl _ rfl rfl) rfl rfl ?_
           intro ts_ ht_; simp only [sI, sZ, sS] at ht_; subst ht_
           refine q_do (.int .i64 a1) (fun w'_ hc_ => ex_mv (.tmp 1) (.inl rfl) _ rfl) rfl rfl ?_
           intro ts_ ht_; simp only [sI, sZ, sS] at ht_; subst ht_
           refine q_call (.int .i64 t53) 61 #[.agg (bv a0), .int .i64 5, .int .i64 a1] (fun w'_ => by go_simp) (fun w'_ hc_ => (i_board_Many.calls k169 a0 5 a1 LN_a0.out t53 _ A190.out).mono fun e_ w2_ h_ => ⟨h_.1, up_below hc_ h_.2⟩) rfl rfl ?_
           intro ts_ ht_; simp only [sI, sZ, sS] at ht_; subst ht_
           refine q_do (.pointer (some ⟨gb52, 1, none⟩)) (fun w'_ hc_ => by obtain ⟨n_, hn_⟩ := hc_; exact ex_field 117 1 (.pointer (some ⟨gb52, 0, none⟩)) (.pointer (some ⟨gb52, 1, none⟩)) (fa117_1_0 gb52) _ rfl rfl) rfl rfl ?_
           intro ts_ ht_; simp only [sI, sZ, sS] at ht_; subst ht_
           refine q_do (.int .i64 1) (fun w'_ hc_ => by obtain ⟨n_, hn_⟩ := hc_; exact ex_get sT3 gb52 (1) (.int .i64 1) (#[.int .i64 5, .int .i64 1]) (by rw [hn_]; exact BKb52.out.below n_.below BKb52.out.lt) rfl _ rfl rfl) rfl rfl ?_
           intro ts_ ht_; simp only [sI, sZ, sS] at ht_; subst ht_
           refine q_do (.int .i64 (wrap64 (t53 - 1))) (fun w'_ hc_ => by go_simp <;> (unfold wrap64; omega)) rfl rfl ?_
           intro ts_ ht_; simp only [sI, sZ, sS] at ht_; subst ht_
           refine q_do (.int .i64 (wrap64 (t53 - 1))) (fun w'_ hc_ => by go_simp <;> (unfold wrap64; omega)) rfl rfl ?_
           intro ts_ ht_; simp only [sI, sZ, sS] at ht_; subst ht_
           refine q_do (.int .i64 (wrap64 (x5_3 + (wrap64 (t53 - 1))))) (fun w'_ hc_ => by go_simp <;> (unfold wrap64; omega)) rfl rfl ?_
           intro ts_ ht_; simp only [sI, sZ, sS] at ht_; subst ht_
           refine q_do (.int .i64 (wrap64 (x5_3 + (wrap64 (t53 - 1))))) (fun w'_ hc_ => ex_mv (.tmp 40) (.inr rfl) _ rfl) rfl rfl ?_
           intro ts_ ht_; simp only [sI, sZ, sS] at ht_; subst ht_
           refine q_end ?_
           rintro w8_ ⟨n_, rfl⟩
           replace BKb1 := hid (BKb1.out.below n_.below BKb1.out.lt)
           replace BKb52 := hid (BKb52.out.below n_.below BKb52.out.lt)
           replace HL := hid (HL.out.trans (n_.below.mono HL.out.size))
           generalize n_.world = w197 at *
           clear n_ WR64 WR32
           go_wp2_with fail
           (try simp only [Act.put, sI, sZ, sS])
           go_roundg k169
           case measure => have := HK168.out; omega
           case rel => exact ⟨wrap64 (x5_3 + (wrap64 (t53 - 1))), wrap64 (x27_3 + 1), (by first | rfl | (simp; done) | (simp [*]; done)), (by first | rfl | (simp; done) | (simp [*]; done)), H', (hid (by first | omega | (have := HK168.out; omega))), (hid (by exact BKb1.out)), HL⟩
         ·
          rw [if_neg c189] at H
          exact absurd H (by simp)
      ·
       rw [if_neg c170] at H
       have c170b0 : decide (x27_3 < 3) = false := decide_eq_false c170
       have hc170 := hid c170
       clear c170
       obtain rfl := Option.some.inj H
       clear H
       go_wp2_with fail
       (try simp only [Act.put, sI, sZ, sS])
       go_ret
       exact ⟨by first | rfl | (simp; done) | (simp [*]; done), HL.out⟩
 | false =>
  rw [if_neg (show ¬ (false = true) by decide)] at H
  obtain rfl := Option.some.inj H
  clear H
  go_enter Try.func41, Try.ntmps41
  have k199 := True.intro
  go_wp2_with (first
   | ((with_reducible refine gate_d (N := 2) rfl ?_); obtain ⟨gb1, hgb1⟩ : ∃ g_, w.heap.size = g_ := ⟨_, rfl⟩; refine ag_box (bv a0) gb1 hgb1 rfl _ rfl rfl ?_; intro w198 hb_ hB_ hs_; have GEb1 : Hid (w.heap.size ≤ gb1) := hid (by have := HL.out.size; omega); replace HL := hid (HL.out.trans (hb_.mono GEb1.out)); have BKb1 := hid hB_; clear hb_ hB_ hs_ hgb1)
   | ((with_reducible refine gate_d (N := 8) rfl ?_); refine ag_fix (.agg (bv a0)) (ex_load boardT gb1 0 (bv a0) (bv a0) BKb1.out (av_le LN_a0.out) (av_ex LN_a0.out) _ rfl rfl) rfl ?_)
   | (go_at_call 66; clear k199; refine (i_count_known.calls k a0 a1 LN_a0.out false _ A54.out).mono ?_; rintro e_ w200 ⟨rfl, hb_⟩; replace BKb1 := hid (BKb1.out.below hb_ BKb1.out.lt); replace HL := hid (HL.out.trans (hb_.mono HL.out.size)); clear hb_))
  (try simp only [Act.put, sI, sZ, sS])
  go_ret
  exact ⟨by first | rfl | (simp; done) | (simp [*]; done), HL.out⟩
end Go.Proofs.Ytpjocgebnodnoaa
