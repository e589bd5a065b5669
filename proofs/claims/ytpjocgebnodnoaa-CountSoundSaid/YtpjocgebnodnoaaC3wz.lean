import Derived.Test.YtpjocgebnodnoaaProg
import Derived.Test.YtpjocgebnodnoaaC1wz
namespace Go.Proofs.Ytpjocgebnodnoaa
open Go.RowKit
set_option linter.unusedVariables false
set_option linter.unusedSimpArgs false
set_option maxRecDepth 100000
theorem sT4 : ScT Try.prog 4 := ⟨fun w => by kernel_rfl, fun w => by kernel_rfl⟩
def i_alfilref03_Where.l0 : Nat → List Int → Int → List Int → Int → Option ((List Int))
  | 0, _, _, _, _ => none
  | k + 1, a0, a1, x5_0, x6_0 => if x6_0 < 64 then (if 0 ≤ x6_0 then (if (wrap64 (nt a0 x6_0.toNat 0)) = a1 then (if x5_0.length < 17592186044416 then (i_alfilref03_Where.l0 k a0 a1 (x5_0 ++ [x6_0]) (wrap64 (x6_0 + 1))) else (none)) else (i_alfilref03_Where.l0 k a0 a1 x5_0 (wrap64 (x6_0 + 1)))) else (none)) else (some x5_0)
def i_alfilref03_Where.f (k : Nat) (a0 : List Int) (a1 : Int) : Option ((List Int)) := i_alfilref03_Where.l0 k a0 a1 ([] : List Int) 0
def i_alfilref03_Where.post (r1 : List Int) (w : World) (e : Ending) (w' : World) : Prop := ∃ (u_r1 : Value), e = .returned (u_r1) ∧ Own w' w.heap.size 3 (u_r1) (r1.map (Value.int .i64)) ∧ Below w.heap.size w w'
set_option maxHeartbeats 40000000 in
set_option maxRecDepth 100000 in
theorem i_alfilref03_Where.calls (k : Nat) (a0 : List Int) (a1 : Int) (hla0 : a0.length = 64) (r1 : List Int) (w : World) (h : i_alfilref03_Where.f k a0 a1 = some r1) :
    Calls Try.prog 73 #[.agg (bv a0), .int .i64 a1] w (i_alfilref03_Where.post r1 w) := by
 have LN_a0 := hid hla0
 clear hla0
 have HL := hid (Below.refl w.heap.size w)
 have H : (i_alfilref03_Where.l0 k a0 a1 ([] : List Int) 0) = some r1 := h
 clear h
 have H' := hid H
 clear H
 go_enter Try.func73, Try.ntmps73
 go_wp2_with (first
  | ((with_reducible refine gate_d (N := 2) rfl ?_); obtain ⟨gb1, hgb1⟩ : ∃ g_, w.heap.size = g_ := ⟨_, rfl⟩; refine ag_box (bv a0) gb1 hgb1 rfl _ rfl rfl ?_; intro w6 hb_ hB_ hs_; have GEb1 : Hid (w.heap.size ≤ gb1) := hid (by have := HL.out.size; omega); replace HL := hid (HL.out.trans (hb_.mono GEb1.out)); have BKb1 := hid hB_; clear hb_ hB_ hs_ hgb1))
 (try simp only [Act.put, sI, sZ, sS])
 go_loopg [5, 6] k (fun kq v5 v6 w' => ∃ (x5_0 : List Int) (ux5_0 : Value) (x6_0 : Int), ux5_0 = v5 ∧ v6 = .int .i64 x6_0 ∧ Hid (i_alfilref03_Where.l0 kq a0 a1 x5_0 x6_0 = some r1) ∧ Hid (kq ≤ k) ∧ Hid (Blk w' gb1 44 (bv a0)) ∧ Hid (Own w' w.heap.size 3 (ux5_0) (x5_0.map (Value.int .i64))) ∧ Hid (Below w.heap.size w w'))
 case atStart => exact ⟨([] : List Int), (.slice none 0 0), (0 : Int), (by first | rfl | (simp; done) | (simp [*]; done)), (by first | rfl | (simp; done) | (simp [*]; done)), H', (hid (by first | omega | (omega))), (hid (by exact BKb1.out)), (hid (Own.nil _ _ _)), HL⟩
 case round =>
  clear H'
  clear HL BKb1
  obtain ⟨x5_0, ux5_0, x6_0, rfl, rfl, HA, HK7, BKb1, SWx5_0, HL⟩ := hrel
  cases gk with
  | zero => exact absurd HA.out (by simp [i_alfilref03_Where.l0])
  | succ k8 =>
   have H := HA.out
   clear HA
   simp only [i_alfilref03_Where.l0] at H
   by_cases c9 : x6_0 < 64
   ·
    rw [if_pos c9] at H
    have c9b0 : decide (x6_0 < 64) = true := decide_eq_true c9
    have hc9 := hid c9
    clear c9
    by_cases c10 : 0 ≤ x6_0
    ·
     rw [if_pos c10] at H
     have c10b0 : decide (0 ≤ x6_0) = true := decide_eq_true c10
     have hc10 := hid c10
     clear c10
     by_cases c11 : (wrap64 (nt a0 x6_0.toNat 0)) = a1
     ·
      rw [if_pos c11] at H
      have c11b0 : ((wrap64 (nt a0 x6_0.toNat 0)) == a1) = true := beq_iff_eq.mpr c11
      have c11b1 : ((wrap64 (nt a0 x6_0.toNat 0)) != a1) = false := bne_eq_false_iff_eq.mpr c11
      have hc11 := hid c11
      clear c11
      by_cases c12 : x5_0.length < 17592186044416
      ·
       rw [if_pos c12] at H
       have c12b0 : decide (x5_0.length < 17592186044416) = true := decide_eq_true c12
       have hc12 := hid c12
       clear c12
       have H' := hid H
       clear H
       have k15 := True.intro
       go_wp2_with (first
        | ((with_reducible refine gate_d (N := 12) rfl ?_); refine ag_fix (.pointer (some ⟨gb1, x6_0.toNat, none⟩)) (ex_at 44 (.pointer (some ⟨gb1, 0, none⟩)) (.int .i64 x6_0) (.pointer (some ⟨gb1, x6_0.toNat, none⟩)) (fun w_ => (run_atv 42 uT44 sT42.size gb1 0 x6_0 hc10.out hc9.out w_).trans (by simp)) _ _ rfl rfl rfl) rfl ?_)
        | ((with_reducible refine gate_d (N := 13) rfl ?_); refine ag_fix (.int .i8 (nt a0 x6_0.toNat 0)) (ex_get sT42 gb1 (x6_0.toNat) (.int .i8 (nt a0 x6_0.toNat 0)) ((bv a0)) BKb1.out (av_get 0 (by have h_ : a0.length = 64 := LN_a0.out; have h1_ := hc10.out; have h2_ := hc9.out; omega)) _ rfl rfl) rfl ?_)
        | ((with_reducible refine gate_d (N := 19) rfl ?_); obtain ⟨gb4, hgb4⟩ : ∃ g_, wr.heap.size = g_ := ⟨_, rfl⟩; refine ag_lit sT3 (.int .i64 x6_0) gb4 hgb4 rfl _ rfl rfl (fun w_ => by kernel_rfl) ?_; intro w13 hb_ hB_ hs_; have GEb4 : Hid (w.heap.size ≤ gb4) := hid (by have := HL.out.size; omega); have NBb1_b4 : Hid (gb1 ≠ gb4) := hid (by have := BKb1.out.lt; omega); have NBb4_b1 : Hid (gb4 ≠ gb1) := hid (by have := NBb1_b4.out; omega); replace BKb1 := hid (BKb1.out.below hb_ (by rw [← hgb4]; exact BKb1.out.lt)); replace SWx5_0 := hid (SWx5_0.out.below (by rw [hgb4]; exact hb_)); replace HL := hid (HL.out.trans (hb_.mono GEb4.out)); have BKb4 := hid hB_; clear hb_ hB_ hs_ hgb4)
        | (at_builtin; clear k15; refine app_one eT27 w.heap.size (ux5_0) (x5_0.map (Value.int .i64)) (.int .i64 x6_0) gb4 1 SWx5_0.out BKb4.out rfl (by have h_ := hc12.out; rw [List.length_map]; omega) (by have h_ := hc12.out; rw [List.length_map]; unfold maxLen; omega) HL.out.size rfl _ _ rfl rfl rfl ?_; intro uo5 w14 ho_ hb_ hk_ hi_; clear SWx5_0; have SWo5 : Hid (Own w14 w.heap.size 3 (uo5) ((x5_0 ++ [x6_0]).map (Value.int .i64))) := hid (by rw [List.map_append]; exact ho_); replace BKb1 := hid (hk_ _ _ _ (by decide) BKb1.out); replace HL := hid (HL.out.trans hb_); clear ho_ hb_ hk_ hi_ BKb4))
       (try simp only [Act.put, sI, sZ, sS])
       go_roundg k8
       case measure => have := HK7.out; omega
       case rel => exact ⟨x5_0 ++ [x6_0], (uo5), wrap64 (x6_0 + 1), (by first | rfl | (simp; done) | (simp [*]; done)), (by first | rfl | (simp; done) | (simp [*]; done)), H', (hid (by first | omega | (have := HK7.out; omega))), (hid (by exact BKb1.out)), SWo5, HL⟩
      ·
       rw [if_neg c12] at H
       exact absurd H (by simp)
     ·
      rw [if_neg c11] at H
      have c11b0 : ((wrap64 (nt a0 x6_0.toNat 0)) == a1) = false := beq_eq_false_iff_ne.mpr c11
      have c11b1 : ((wrap64 (nt a0 x6_0.toNat 0)) != a1) = true := bne_iff_ne.mpr c11
      have hc11 := hid c11
      clear c11
      have H' := hid H
      clear H
      go_wp2_with (first
       | ((with_reducible refine gate_d (N := 12) rfl ?_); refine ag_fix (.pointer (some ⟨gb1, x6_0.toNat, none⟩)) (ex_at 44 (.pointer (some ⟨gb1, 0, none⟩)) (.int .i64 x6_0) (.pointer (some ⟨gb1, x6_0.toNat, none⟩)) (fun w_ => (run_atv 42 uT44 sT42.size gb1 0 x6_0 hc10.out hc9.out w_).trans (by simp)) _ _ rfl rfl rfl) rfl ?_)
       | ((with_reducible refine gate_d (N := 13) rfl ?_); refine ag_fix (.int .i8 (nt a0 x6_0.toNat 0)) (ex_get sT42 gb1 (x6_0.toNat) (.int .i8 (nt a0 x6_0.toNat 0)) ((bv a0)) BKb1.out (av_get 0 (by have h_ : a0.length = 64 := LN_a0.out; have h1_ := hc10.out; have h2_ := hc9.out; omega)) _ rfl rfl) rfl ?_))
      (try simp only [Act.put, sI, sZ, sS])
      go_roundg k8
      case measure => have := HK7.out; omega
      case rel => exact ⟨x5_0, (ux5_0), wrap64 (x6_0 + 1), (by first | rfl | (simp; done) | (simp [*]; done)), (by first | rfl | (simp; done) | (simp [*]; done)), H', (hid (by first | omega | (have := HK7.out; omega))), (hid (by exact BKb1.out)), SWx5_0, HL⟩
    ·
     rw [if_neg c10] at H
     exact absurd H (by simp)
   ·
    rw [if_neg c9] at H
    have c9b0 : decide (x6_0 < 64) = false := decide_eq_false c9
    have hc9 := hid c9
    clear c9
    obtain rfl := Option.some.inj H
    clear H
    go_wp2_with fail
    (try simp only [Act.put, sI, sZ, sS])
    go_ret
    exact ⟨_, rfl, (by exact SWx5_0.out), HL.out⟩
def i_alfilref02_Kind.l0 : Nat → Int → Int → Option (Int)
  | 0, _, _ => none
  | k + 1, a0, x3_0 => if x3_0 ≤ 6 then (if a0 = x3_0 then (some x3_0) else (if a0 = (wrap64 (-x3_0)) then (some x3_0) else (i_alfilref02_Kind.l0 k a0 (wrap64 (x3_0 + 1))))) else (some 0)
def i_alfilref02_Kind.f (k : Nat) (a0 : Int) : Option (Int) := i_alfilref02_Kind.l0 k a0 1
set_option maxHeartbeats 40000000 in
set_option maxRecDepth 100000 in
theorem i_alfilref02_Kind.calls (k : Nat) (a0 : Int) (r1 : Int) (w : World) (h : i_alfilref02_Kind.f k a0 = some r1) :
    Calls Try.prog 64 #[.int .i64 a0] w fun e w' => e = .returned (.int .i64 r1) ∧ w = w' := by
 have H : (i_alfilref02_Kind.l0 k a0 1) = some r1 := h
 clear h
 have H' := hid H
 clear H
 go_enter Try.func64, Try.ntmps64
 go_wp2_with fail
 (try simp only [Act.put, sI, sZ, sS])
 go_loopg [3] k (fun kq v3 w' => ∃ (x3_0 : Int), v3 = .int .i64 x3_0 ∧ Hid (i_alfilref02_Kind.l0 kq a0 x3_0 = some r1) ∧ Hid (kq ≤ k) ∧ w = w')
 case atStart => exact ⟨(1 : Int), (by first | rfl | (simp; done) | (simp [*]; done)), H', (hid (by first | omega | (omega))), rfl⟩
 case round =>
  clear H'
  skip
  obtain ⟨x3_0, rfl, HA, HK1, rfl⟩ := hrel
  cases gk with
  | zero => exact absurd HA.out (by simp [i_alfilref02_Kind.l0])
  | succ k2 =>
   have H := HA.out
   clear HA
   simp only [i_alfilref02_Kind.l0] at H
   by_cases c3 : x3_0 ≤ 6
   ·
    rw [if_pos c3] at H
    have c3b0 : decide (x3_0 ≤ 6) = true := decide_eq_true c3
    have hc3 := hid c3
    clear c3
    by_cases c4 : a0 = x3_0
    ·
     rw [if_pos c4] at H
     have c4b0 : (a0 == x3_0) = true := beq_iff_eq.mpr c4
     have c4b1 : (a0 != x3_0) = false := bne_eq_false_iff_eq.mpr c4
     have hc4 := hid c4
     clear c4
     obtain rfl := Option.some.inj H
     clear H
     go_wp2_with fail
     (try simp only [Act.put, sI, sZ, sS])
     go_ret
     exact ⟨by first | rfl | (simp; done) | (simp [*]; done), rfl⟩
    ·
     rw [if_neg c4] at H
     have c4b0 : (a0 == x3_0) = false := beq_eq_false_iff_ne.mpr c4
     have c4b1 : (a0 != x3_0) = true := bne_iff_ne.mpr c4
     have hc4 := hid c4
     clear c4
     by_cases c5 : a0 = (wrap64 (-x3_0))
     ·
      rw [if_pos c5] at H
      have c5b0 : (a0 == (wrap64 (-x3_0))) = true := beq_iff_eq.mpr c5
      have c5b1 : (a0 != (wrap64 (-x3_0))) = false := bne_eq_false_iff_eq.mpr c5
      have hc5 := hid c5
      clear c5
      obtain rfl := Option.some.inj H
      clear H
      go_wp2_with fail
      (try simp only [Act.put, sI, sZ, sS])
      go_ret
      exact ⟨by first | rfl | (simp; done) | (simp [*]; done), rfl⟩
     ·
      rw [if_neg c5] at H
      have c5b0 : (a0 == (wrap64 (-x3_0))) = false := beq_eq_false_iff_ne.mpr c5
      have c5b1 : (a0 != (wrap64 (-x3_0))) = true := bne_iff_ne.mpr c5
      have hc5 := hid c5
      clear c5
      have H' := hid H
      clear H
      go_wp2_with fail
      (try simp only [Act.put, sI, sZ, sS])
      go_roundg k2
      case measure => have := HK1.out; omega
      case rel => exact ⟨wrap64 (x3_0 + 1), (by first | rfl | (simp; done) | (simp [*]; done)), H', (hid (by first | omega | (have := HK1.out; omega))), rfl⟩
   ·
    rw [if_neg c3] at H
    have c3b0 : decide (x3_0 ≤ 6) = false := decide_eq_false c3
    have hc3 := hid c3
    clear c3
    obtain rfl := Option.some.inj H
    clear H
    go_wp2_with fail
    (try simp only [Act.put, sI, sZ, sS])
    go_ret
    exact ⟨by first | rfl | (simp; done) | (simp [*]; done), rfl⟩
def i_alfilref03_Right.l0 : Nat → List Int → Int → Option (Bool)
  | 0, _, _ => none
  | k + 1, a0, x3_0 => if x3_0 < 64 then (if 0 ≤ x3_0 then (if (nt a0 x3_0.toNat 0) = 0 then (i_alfilref03_Right.l0 k a0 (wrap64 (x3_0 + 1))) else ((i_alfilref02_Kind.f k (wrap64 (nt a0 x3_0.toNat 0))).bind fun t3 => (if t3 = 0 then (some false) else (i_alfilref03_Right.l0 k a0 (wrap64 (x3_0 + 1)))))) else (none)) else (some true)
def i_alfilref03_Right.f (k : Nat) (a0 : List Int) : Option (Bool) := i_alfilref03_Right.l0 k a0 0
set_option maxHeartbeats 40000000 in
set_option maxRecDepth 100000 in
theorem i_alfilref03_Right.calls (k : Nat) (a0 : List Int) (hla0 : a0.length = 64) (r1 : Bool) (w : World) (h : i_alfilref03_Right.f k a0 = some r1) :
    Calls Try.prog 37 #[.agg (bv a0)] w fun e w' => e = .returned (.bool r1) ∧ Below w.heap.size w w' := by
 have LN_a0 := hid hla0
 clear hla0
 have HL := hid (Below.refl w.heap.size w)
 have H : (i_alfilref03_Right.l0 k a0 0) = some r1 := h
 clear h
 have H' := hid H
 clear H
 go_enter Try.func37, Try.ntmps37
 go_wp2_with (first
  | ((with_reducible refine gate_d (N := 1) rfl ?_); obtain ⟨gb1, hgb1⟩ : ∃ g_, w.heap.size = g_ := ⟨_, rfl⟩; refine ag_box (bv a0) gb1 hgb1 rfl _ rfl rfl ?_; intro w4 hb_ hB_ hs_; have GEb1 : Hid (w.heap.size ≤ gb1) := hid (by have := HL.out.size; omega); replace HL := hid (HL.out.trans (hb_.mono GEb1.out)); have BKb1 := hid hB_; clear hb_ hB_ hs_ hgb1))
 (try simp only [Act.put, sI, sZ, sS])
 go_loopg [3] k (fun kq v3 w' => ∃ (x3_0 : Int), v3 = .int .i64 x3_0 ∧ Hid (i_alfilref03_Right.l0 kq a0 x3_0 = some r1) ∧ Hid (kq ≤ k) ∧ Hid (Blk w' gb1 44 (bv a0)) ∧ Hid (Below w.heap.size w w'))
 case atStart => exact ⟨(0 : Int), (by first | rfl | (simp; done) | (simp [*]; done)), H', (hid (by first | omega | (omega))), (hid (by exact BKb1.out)), HL⟩
 case round =>
  clear H'
  clear HL BKb1
  obtain ⟨x3_0, rfl, HA, HK5, BKb1, HL⟩ := hrel
  cases gk with
  | zero => exact absurd HA.out (by simp [i_alfilref03_Right.l0])
  | succ k6 =>
   have H := HA.out
   clear HA
   simp only [i_alfilref03_Right.l0] at H
   by_cases c7 : x3_0 < 64
   ·
    rw [if_pos c7] at H
    have c7b0 : decide (x3_0 < 64) = true := decide_eq_true c7
    have hc7 := hid c7
    clear c7
    by_cases c8 : 0 ≤ x3_0
    ·
     rw [if_pos c8] at H
     have c8b0 : decide (0 ≤ x3_0) = true := decide_eq_true c8
     have hc8 := hid c8
     clear c8
     by_cases c9 : (nt a0 x3_0.toNat 0) = 0
     ·
      rw [if_pos c9] at H
      have c9b0 : ((nt a0 x3_0.toNat 0) == 0) = true := beq_iff_eq.mpr c9
      have c9b1 : ((nt a0 x3_0.toNat 0) != 0) = false := bne_eq_false_iff_eq.mpr c9
      have hc9 := hid c9
      clear c9
      have H' := hid H
      clear H
      go_wp2_with (first
       | ((with_reducible refine gate_d (N := 9) rfl ?_); refine ag_fix (.pointer (some ⟨gb1, x3_0.toNat, none⟩)) (ex_at 44 (.pointer (some ⟨gb1, 0, none⟩)) (.int .i64 x3_0) (.pointer (some ⟨gb1, x3_0.toNat, none⟩)) (fun w_ => (run_atv 42 uT44 sT42.size gb1 0 x3_0 hc8.out hc7.out w_).trans (by simp)) _ _ rfl rfl rfl) rfl ?_)
       | ((with_reducible refine gate_d (N := 10) rfl ?_); refine ag_fix (.int .i8 (nt a0 x3_0.toNat 0)) (ex_get sT42 gb1 (x3_0.toNat) (.int .i8 (nt a0 x3_0.toNat 0)) ((bv a0)) BKb1.out (av_get 0 (by have h_ : a0.length = 64 := LN_a0.out; have h1_ := hc8.out; have h2_ := hc7.out; omega)) _ rfl rfl) rfl ?_))
      (try simp only [Act.put, sI, sZ, sS])
      go_roundg k6
      case measure => have := HK5.out; omega
      case rel => exact ⟨wrap64 (x3_0 + 1), (by first | rfl | (simp; done) | (simp [*]; done)), H', (hid (by first | omega | (have := HK5.out; omega))), (hid (by exact BKb1.out)), HL⟩
     ·
      rw [if_neg c9] at H
      have c9b0 : ((nt a0 x3_0.toNat 0) == 0) = false := beq_eq_false_iff_ne.mpr c9
      have c9b1 : ((nt a0 x3_0.toNat 0) != 0) = true := bne_iff_ne.mpr c9
      have hc9 := hid c9
      clear c9
      replace H := Option.bind_eq_some_iff.mp H
      obtain ⟨t3, A10_, H⟩ := H
      have A10 := hid A10_
      clear A10_
      by_cases c11 : t3 = 0
      ·
       rw [if_pos c11] at H
       have c11b0 : (t3 == 0) = true := beq_iff_eq.mpr c11
       have c11b1 : (t3 != 0) = false := bne_eq_false_iff_eq.mpr c11
       have hc11 := hid c11
       clear c11
       obtain rfl := Option.some.inj H
       clear H
       have k12 := True.intro
       go_wp2_with (first
        | ((with_reducible refine gate_d (N := 9) rfl ?_); refine ag_fix (.pointer (some ⟨gb1, x3_0.toNat, none⟩)) (ex_at 44 (.pointer (some ⟨gb1, 0, none⟩)) (.int .i64 x3_0) (.pointer (some ⟨gb1, x3_0.toNat, none⟩)) (fun w_ => (run_atv 42 uT44 sT42.size gb1 0 x3_0 hc8.out hc7.out w_).trans (by simp)) _ _ rfl rfl rfl) rfl ?_)
        | ((with_reducible refine gate_d (N := 10) rfl ?_); refine ag_fix (.int .i8 (nt a0 x3_0.toNat 0)) (ex_get sT42 gb1 (x3_0.toNat) (.int .i8 (nt a0 x3_0.toNat 0)) ((bv a0)) BKb1.out (av_get 0 (by have h_ : a0.length = 64 := LN_a0.out; have h1_ := hc8.out; have h2_ := hc7.out; omega)) _ rfl rfl) rfl ?_)
        | ((with_reducible refine gate_d (N := 14) rfl ?_); refine ag_fix (.pointer (some ⟨gb1, x3_0.toNat, none⟩)) (ex_at 44 (.pointer (some ⟨gb1, 0, none⟩)) (.int .i64 x3_0) (.pointer (some ⟨gb1, x3_0.toNat, none⟩)) (fun w_ => (run_atv 42 uT44 sT42.size gb1 0 x3_0 hc8.out hc7.out w_).trans (by simp)) _ _ rfl rfl rfl) rfl ?_)
        | ((with_reducible refine gate_d (N := 15) rfl ?_); refine ag_fix (.int .i8 (nt a0 x3_0.toNat 0)) (ex_get sT42 gb1 (x3_0.toNat) (.int .i8 (nt a0 x3_0.toNat 0)) ((bv a0)) BKb1.out (av_get 0 (by have h_ : a0.length = 64 := LN_a0.out; have h1_ := hc8.out; have h2_ := hc7.out; omega)) _ rfl rfl) rfl ?_)
        | (go_at_call 64; clear k12; refine (i_alfilref02_Kind.calls k6 (wrap64 (nt a0 x3_0.toNat 0)) t3 _ A10.out).mono ?_; rintro e_ w' ⟨rfl, rfl⟩))
       (try simp only [Act.put, sI, sZ, sS])
       go_ret
       exact ⟨by first | rfl | (simp; done) | (simp [*]; done), HL.out⟩
      ·
       rw [if_neg c11] at H
       have c11b0 : (t3 == 0) = false := beq_eq_false_iff_ne.mpr c11
       have c11b1 : (t3 != 0) = true := bne_iff_ne.mpr c11
       have hc11 := hid c11
       clear c11
       have H' := hid H
       clear H
       have k13 := True.intro
       go_wp2_with (first
        | ((with_reducible refine gate_d (N := 9) rfl ?_); refine ag_fix (.pointer (some ⟨gb1, x3_0.toNat, none⟩)) (ex_at 44 (.pointer (some ⟨gb1, 0, none⟩)) (.int .i64 x3_0) (.pointer (some ⟨gb1, x3_0.toNat, none⟩)) (fun w_ => (run_atv 42 uT44 sT42.size gb1 0 x3_0 hc8.out hc7.out w_).trans (by simp)) _ _ rfl rfl rfl) rfl ?_)
        | ((with_reducible refine gate_d (N := 10) rfl ?_); refine ag_fix (.int .i8 (nt a0 x3_0.toNat 0)) (ex_get sT42 gb1 (x3_0.toNat) (.int .i8 (nt a0 x3_0.toNat 0)) ((bv a0)) BKb1.out (av_get 0 (by have h_ : a0.length = 64 := LN_a0.out; have h1_ := hc8.out; have h2_ := hc7.out; omega)) _ rfl rfl) rfl ?_)
        | ((with_reducible refine gate_d (N := 14) rfl ?_); refine ag_fix (.pointer (some ⟨gb1, x3_0.toNat, none⟩)) (ex_at 44 (.pointer (some ⟨gb1, 0, none⟩)) (.int .i64 x3_0) (.pointer (some ⟨gb1, x3_0.toNat, none⟩)) (fun w_ => (run_atv 42 uT44 sT42.size gb1 0 x3_0 hc8.out hc7.out w_).trans (by simp)) _ _ rfl rfl rfl) rfl ?_)
        | ((with_reducible refine gate_d (N := 15) rfl ?_); refine ag_fix (.int .i8 (nt a0 x3_0.toNat 0)) (ex_get sT42 gb1 (x3_0.toNat) (.int .i8 (nt a0 x3_0.toNat 0)) ((bv a0)) BKb1.out (av_get 0 (by have h_ : a0.length = 64 := LN_a0.out; have h1_ := hc8.out; have h2_ := hc7.out; omega)) _ rfl rfl) rfl ?_)
        | (go_at_call 64; clear k13; refine (i_alfilref02_Kind.calls k6 (wrap64 (nt a0 x3_0.toNat 0)) t3 _ A10.out).mono ?_; rintro e_ w' ⟨rfl, rfl⟩))
       (try simp only [Act.put, sI, sZ, sS])
       go_roundg k6
       case measure => have := HK5.out; omega
       case rel => exact ⟨wrap64 (x3_0 + 1), (by first | rfl | (simp; done) | (simp [*]; done)), H', (hid (by first | omega | (have := HK5.out; omega))), (hid (by exact BKb1.out)), HL⟩
    ·
     rw [if_neg c8] at H
     exact absurd H (by simp)
   ·
    rw [if_neg c7] at H
    have c7b0 : decide (x3_0 < 64) = false := decide_eq_false c7
    have hc7 := hid c7
    clear c7
    obtain rfl := Option.some.inj H
    clear H
    go_wp2_with fail
    (try simp only [Act.put, sI, sZ, sS])
    go_ret
    exact ⟨by first | rfl | (simp; done) | (simp [*]; done), HL.out⟩
def i_alfilref01_Right.f (a0 : Int) : Option (Bool) := if 0 ≤ a0 then (some (decide (a0 ≤ 63))) else (some false)
set_option maxHeartbeats 40000000 in
set_option maxRecDepth 100000 in
theorem i_alfilref01_Right.calls (a0 : Int) (r1 : Bool) (w : World) (h : i_alfilref01_Right.f a0 = some r1) :
    Calls Try.prog 94 #[.int .i64 a0] w fun e w' => e = .returned (.bool r1) ∧ w = w' := by
 have H : (if 0 ≤ a0 then (some (decide (a0 ≤ 63))) else (some false)) = some r1 := h
 clear h
 by_cases c1 : 0 ≤ a0
 ·
  rw [if_pos c1] at H
  have c1b0 : decide (0 ≤ a0) = true := decide_eq_true c1
  have hc1 := hid c1
  clear c1
  obtain rfl := Option.some.inj H
  clear H
  go_enter Try.func94, Try.ntmps94
  go_wp2_with fail
  (try simp only [Act.put, sI, sZ, sS])
  go_ret
  exact ⟨by first | rfl | (simp; done) | (simp [*]; done), rfl⟩
 ·
  rw [if_neg c1] at H
  have c1b0 : decide (0 ≤ a0) = false := decide_eq_false c1
  have hc1 := hid c1
  clear c1
  obtain rfl := Option.some.inj H
  clear H
  go_enter Try.func94, Try.ntmps94
  go_wp2_with fail
  (try simp only [Act.put, sI, sZ, sS])
  go_ret
  exact ⟨by first | rfl | (simp; done) | (simp [*]; done), rfl⟩
def i_alfilref01_File.l0 : Nat → Int → Option (Int)
  | 0, _ => none
  | k + 1, x0_0 => if x0_0 ≥ 8 then (i_alfilref01_File.l0 k (wrap64 (x0_0 - 8))) else (some x0_0)
def i_alfilref01_File.f (k : Nat) (a0 : Int) : Option (Int) := (i_alfilref01_Right.f a0).bind fun t1 => (if t1 = true then (i_alfilref01_File.l0 k a0) else (some (-1)))
set_option maxHeartbeats 40000000 in
set_option maxRecDepth 100000 in
theorem i_alfilref01_File.calls (k : Nat) (a0 : Int) (r1 : Int) (w : World) (h : i_alfilref01_File.f k a0 = some r1) :
    Calls Try.prog 76 #[.int .i64 a0] w fun e w' => e = .returned (.int .i64 r1) ∧ w = w' := by
 have H : ((i_alfilref01_Right.f a0).bind fun t1 => (if t1 = true then (i_alfilref01_File.l0 k a0) else (some (-1)))) = some r1 := h
 clear h
 replace H := Option.bind_eq_some_iff.mp H
 obtain ⟨t1, A2_, H⟩ := H
 have A2 := hid A2_
 clear A2_
 cases t1 with
 | true =>
  rw [if_pos rfl] at H
  have H' := hid H
  clear H
  go_enter Try.func76, Try.ntmps76
  have k4 := True.intro
  go_wp2_with (first
   | (go_at_call 94; clear k4; refine (i_alfilref01_Right.calls a0 true _ A2.out).mono ?_; rintro e_ w' ⟨rfl, rfl⟩))
  (try simp only [Act.put, sI, sZ, sS])
  go_loopg [0] k (fun kq v0 w' => ∃ (x0_0 : Int), v0 = .int .i64 x0_0 ∧ Hid (i_alfilref01_File.l0 kq x0_0 = some r1) ∧ Hid (kq ≤ k) ∧ w = w')
  case atStart => exact ⟨a0, (by first | rfl | (simp; done) | (simp [*]; done)), H', (hid (by first | omega | (omega))), rfl⟩
  case round =>
   clear H'
   skip
   obtain ⟨x0_0, rfl, HA, HK5, rfl⟩ := hrel
   cases gk with
   | zero => exact absurd HA.out (by simp [i_alfilref01_File.l0])
   | succ k6 =>
    have H := HA.out
    clear HA
    simp only [i_alfilref01_File.l0] at H
    by_cases c7 : x0_0 ≥ 8
    ·
     rw [if_pos c7] at H
     have c7b0 : decide (8 ≤ x0_0) = true := decide_eq_true c7
     have hc7 := hid c7
     clear c7
     have H' := hid H
     clear H
     go_wp2_with fail
     (try simp only [Act.put, sI, sZ, sS])
     go_roundg k6
     case measure => have := HK5.out; omega
     case rel => exact ⟨wrap64 (x0_0 - 8), (by first | rfl | (simp; done) | (simp [*]; done)), H', (hid (by first | omega | (have := HK5.out; omega))), rfl⟩
    ·
     rw [if_neg c7] at H
     have c7b0 : decide (8 ≤ x0_0) = false := decide_eq_false c7
     have hc7 := hid c7
     clear c7
     obtain rfl := Option.some.inj H
     clear H
     go_wp2_with fail
     (try simp only [Act.put, sI, sZ, sS])
     go_ret
     exact ⟨by first | rfl | (simp; done) | (simp [*]; done), rfl⟩
 | false =>
  rw [if_neg (show ¬ (false = true) by decide)] at H
  obtain rfl := Option.some.inj H
  clear H
  go_enter Try.func76, Try.ntmps76
  have k8 := True.intro
  go_wp2_with (first
   | (go_at_call 94; clear k8; refine (i_alfilref01_Right.calls a0 false _ A2.out).mono ?_; rintro e_ w' ⟨rfl, rfl⟩))
  (try simp only [Act.put, sI, sZ, sS])
  go_ret
  exact ⟨by first | rfl | (simp; done) | (simp [*]; done), rfl⟩
def i_alfilref01_Rank.l0 : Nat → Int → Int → Option (Int)
  | 0, _, _ => none
  | k + 1, x0_0, x3_0 => if x0_0 ≥ 8 then (i_alfilref01_Rank.l0 k (wrap64 (x0_0 - 8)) (wrap64 (x3_0 + 1))) else (some x3_0)
def i_alfilref01_Rank.f (k : Nat) (a0 : Int) : Option (Int) := (i_alfilref01_Right.f a0).bind fun t1 => (if t1 = true then (i_alfilref01_Rank.l0 k a0 0) else (some (-1)))
set_option maxHeartbeats 40000000 in
set_option maxRecDepth 100000 in
theorem i_alfilref01_Rank.calls (k : Nat) (a0 : Int) (r1 : Int) (w : World) (h : i_alfilref01_Rank.f k a0 = some r1) :
    Calls Try.prog 77 #[.int .i64 a0] w fun e w' => e = .returned (.int .i64 r1) ∧ w = w' := by
 have H : ((i_alfilref01_Right.f a0).bind fun t1 => (if t1 = true then (i_alfilref01_Rank.l0 k a0 0) else (some (-1)))) = some r1 := h
 clear h
 replace H := Option.bind_eq_some_iff.mp H
 obtain ⟨t1, A2_, H⟩ := H
 have A2 := hid A2_
 clear A2_
 cases t1 with
 | true =>
  rw [if_pos rfl] at H
  have H' := hid H
  clear H
  go_enter Try.func77, Try.ntmps77
  have k4 := True.intro
  go_wp2_with (first
   | (go_at_call 94; clear k4; refine (i_alfilref01_Right.calls a0 true _ A2.out).mono ?_; rintro e_ w' ⟨rfl, rfl⟩))
  (try simp only [Act.put, sI, sZ, sS])
  go_loopg [0, 3] k (fun kq v0 v3 w' => ∃ (x0_0 : Int) (x3_0 : Int), v0 = .int .i64 x0_0 ∧ v3 = .int .i64 x3_0 ∧ Hid (i_alfilref01_Rank.l0 kq x0_0 x3_0 = some r1) ∧ Hid (kq ≤ k) ∧ w = w')
  case atStart => exact ⟨a0, (0 : Int), (by first | rfl | (simp; done) | (simp [*]; done)), (by first | rfl | (simp; done) | (simp [*]; done)), H', (hid (by first | omega | (omega))), rfl⟩
  case round =>
   clear H'
   skip
   obtain ⟨x0_0, x3_0, rfl, rfl, HA, HK5, rfl⟩ := hrel
   cases gk with
   | zero => exact absurd HA.out (by simp [i_alfilref01_Rank.l0])
   | succ k6 =>
    have H := HA.out
    clear HA
    simp only [i_alfilref01_Rank.l0] at H
    by_cases c7 : x0_0 ≥ 8
    ·
     rw [if_pos c7] at H
     have c7b0 : decide (8 ≤ x0_0) = true := decide_eq_true c7
     have hc7 := hid c7
     clear c7
     have H' := hid H
     clear H
     go_wp2_with fail
     (try simp only [Act.put, sI, sZ, sS])
     go_roundg k6
     case measure => have := HK5.out; omega
     case rel => exact ⟨wrap64 (x0_0 - 8), wrap64 (x3_0 + 1), (by first | rfl | (simp; done) | (simp [*]; done)), (by first | rfl | (simp; done) | (simp [*]; done)), H', (hid (by first | omega | (have := HK5.out; omega))), rfl⟩
    ·
     rw [if_neg c7] at H
     have c7b0 : decide (8 ≤ x0_0) = false := decide_eq_false c7
     have hc7 := hid c7
     clear c7
     obtain rfl := Option.some.inj H
     clear H
     go_wp2_with fail
     (try simp only [Act.put, sI, sZ, sS])
     go_ret
     exact ⟨by first | rfl | (simp; done) | (simp [*]; done), rfl⟩
 | false =>
  rw [if_neg (show ¬ (false = true) by decide)] at H
  obtain rfl := Option.some.inj H
  clear H
  go_enter Try.func77, Try.ntmps77
  have k8 := True.intro
  go_wp2_with (first
   | (go_at_call 94; clear k8; refine (i_alfilref01_Right.calls a0 false _ A2.out).mono ?_; rintro e_ w' ⟨rfl, rfl⟩))
  (try simp only [Act.put, sI, sZ, sS])
  go_ret
  exact ⟨by first | rfl | (simp; done) | (simp [*]; done), rfl⟩
end Go.Proofs.Ytpjocgebnodnoaa
