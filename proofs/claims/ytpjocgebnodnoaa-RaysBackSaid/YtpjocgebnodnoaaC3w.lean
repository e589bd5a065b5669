/- The walks of the reference of counting. -/
import Derived.Test.YtpjocgebnodnoaaProg
import Derived.Test.YtpjocgebnodnoaaC1w
namespace Go.Proofs.Ytpjocgebnodnoaa
open Go.RowKit
set_option linter.unusedVariables false
set_option linter.unusedSimpArgs false
set_option maxRecDepth 100000
theorem us119 : Try.prog.underlying 119 = some (.slice 4) := by kernel_rfl
theorem sT4 : ScT Try.prog 4 := ⟨fun w => by kernel_rfl, fun w => by kernel_rfl⟩
theorem eT119_info : (Try.prog.info? 4).map (fun i => (i.zero, i.size, i.bytes)) = some (some (.bool false), 1, 1) := by kernel_rfl
theorem eT119 : ElemT Try.prog 119 4 1 := ⟨by kernel_rfl, by
  obtain ⟨i, h1, h2, h3, h4⟩ := info_parts eT119_info
  exact ⟨i, _, h1, h2, h3, h4, rfl⟩⟩
/-! i_alfilref03_Where: function 73 -/
def i_alfilref03_Where.l0 : Nat → List Int → Int → List Int → Int → Option ((List Int))
  | 0, _, _, _, _ => none
  | k + 1, a0, a1, x5_0, x6_0 => if x6_0 < 64 then (if 0 ≤ x6_0 then (if (wrap64 (nt a0 x6_0.toNat 0)) = a1 then (if x5_0.length < 17592186044416 then (i_alfilref03_Where.l0 k a0 a1 (x5_0 ++ [x6_0]) (wrap64 (x6_0 + 1))) else (none)) else (i_alfilref03_Where.l0 k a0 a1 x5_0 (wrap64 (x6_0 + 1)))) else (none)) else (some x5_0)
def i_alfilref03_Where.f (k : Nat) (a0 : List Int) (a1 : Int) : Option ((List Int)) := i_alfilref03_Where.l0 k a0 a1 ([] : List Int) 0
def i_alfilref03_Where.post (r1 : List Int) (w : World) (e : Ending) (w' : World) : Prop := ∃ (u_r1 : Value), e = .returned (u_r1) ∧ Own w' w.heap.size 3 (u_r1) (r1.map (Value.int .i64)) ∧ Below w.heap.size w w'
set_option maxHeartbeats 40000000 in
set_option maxRecDepth 100000 in
theorem i_alfilref03_Where.calls (k : Nat) (a0 : List Int) (a1 : Int) (hla0 : a0.length = 64) (r1 : List Int) (w : World) (h : i_alfilref03_Where.f k a0 a1 = some r1) :
    Calls Try.prog 73 #[.agg (bv a0), .int .i64 a1] w (i_alfilref03_Where.post r1 w) := by
 have LN_a0 := hid hla0
 clear hla0
 have HL := hid (Below.refl w.heap.size w)
 have H : (i_alfilref03_Where.l0 k a0 a1 ([] : List Int) 0) = some r1 := h
 clear h
 have H' := hid H
 clear H
 go_enter Try.func73, Try.ntmps73
 go_wp2_with (first
  | ((with_reducible refine gate_d (N := 2) rfl ?_); obtain ⟨gb1, hgb1⟩ : ∃ g_, w.heap.size = g_ := ⟨_, rfl⟩; refine ag_box (bv a0) gb1 hgb1 rfl _ rfl rfl ?_; intro w6 hb_ hB_ hs_; have GEb1 : Hid (w.heap.size ≤ gb1) := hid (by have := HL.out.size; omega); replace HL := hid (HL.out.trans (hb_.mono GEb1.out)); have BKb1 := hid hB_; clear hb_ hB_ hs_ hgb1))
 (try simp only [Act.put, sI, sZ, sS])
 go_loopg [5, 6] k (fun kq v5 v6 w' => ∃ (x5_0 : List Int) (ux5_0 : Value) (x6_0 : Int), ux5_0 = v5 ∧ v6 = .int .i64 x6_0 ∧ Hid (i_alfilref03_Where.l0 kq a0 a1 x5_0 x6_0 = some r1) ∧ Hid (kq ≤ k) ∧ Hid (Blk w' gb1 44 (bv a0)) ∧ Hid (Own w' w.heap.size 3 (ux5_0) (x5_0.map (Value.int .i64))) ∧ Hid (Below w.heap.size w w'))
 case atStart => exact ⟨([] : List Int), (.slice none 0 0), (0 : Int), (by first | rfl | (simp; done) | (simp [*]; done)), (by first | rfl | (simp; done) | (simp [*]; done)), H', (hid (by first | omega | (omega))), (hid (by exact BKb1.out)), (hid (Own.nil _ _ _)), HL⟩
 case round =>
  clear H'
  clear HL BKb1
  obtain ⟨x5_0, ux5_0, x6_0, rfl, rfl, HA, HK7, BKb1, SWx5_0, HL⟩ := hrel
  cases gk with
  | zero => exact absurd HA.out (by simp [i_alfilref03_Where.l0])
  | succ k8 =>
   have H := HA.out
   clear HA
   simp only [i_alfilref03_Where.l0] at H
   by_cases c9 : x6_0 < 64
   ·
    rw [if_pos c9] at H
    have c9b0 : decide (x6_0 < 64) = true := decide_eq_true c9
    have hc9 := hid c9
    clear c9
    by_cases c10 : 0 ≤ x6_0
    ·
     rw [if_pos c10] at H
     have c10b0 : decide (0 ≤ x6_0) = true := decide_eq_true c10
     have hc10 := hid c10
     clear c10
     by_cases c11 : (wrap64 (nt a0 x6_0.toNat 0)) = a1
     ·
      rw [if_pos c11] at H
      have c11b0 : ((wrap64 (nt a0 x6_0.toNat 0)) == a1) = true := beq_iff_eq.mpr c11
      have c11b1 : ((wrap64 (nt a0 x6_0.toNat 0)) != a1) = false := bne_eq_false_iff_eq.mpr c11
      have hc11 := hid c11
      clear c11
      by_cases c12 : x5_0.length < 17592186044416
      ·
       rw [if_pos c12] at H
       have c12b0 : decide (x5_0.length < 17592186044416) = true := decide_eq_true c12
       have hc12 := hid c12
       clear c12
       have H' := hid H
       clear H
       have k15 := True.intro
       go_wp2_with (first
        | ((with_reducible refine gate_d (N := 12) rfl ?_); refine ag_fix (.pointer (some ⟨gb1, x6_0.toNat, none⟩)) (ex_at 44 (.pointer (some ⟨gb1, 0, none⟩)) (.int .i64 x6_0) (.pointer (some ⟨gb1, x6_0.toNat, none⟩)) (fun w_ => (run_atv 42 uT44 sT42.size gb1 0 x6_0 hc10.out hc9.out w_).trans (by simp)) _ _ rfl rfl rfl) rfl ?_)
        | ((with_reducible refine gate_d (N := 13) rfl ?_); refine ag_fix (.int .i8 (nt a0 x6_0.toNat 0)) (ex_get sT42 gb1 (x6_0.toNat) (.int .i8 (nt a0 x6_0.toNat 0)) ((bv a0)) BKb1.out (av_get 0 (by have h_ : a0.length = 64 := LN_a0.out; have h1_ := hc10.out; have h2_ := hc9.out; omega)) _ rfl rfl) rfl ?_)
        | ((with_reducible refine gate_d (N := 19) rfl ?_); obtain ⟨gb4, hgb4⟩ : ∃ g_, wr.heap.size = g_ := ⟨_, rfl⟩; refine ag_lit sT3 (.int .i64 x6_0) gb4 hgb4 rfl _ rfl rfl (fun w_ => by kernel_rfl) ?_; intro w13 hb_ hB_ hs_; have GEb4 : Hid (w.heap.size ≤ gb4) := hid (by have := HL.out.size; omega); have NBb1_b4 : Hid (gb1 ≠ gb4) := hid (by have := BKb1.out.lt; omega); have NBb4_b1 : Hid (gb4 ≠ gb1) := hid (by have := NBb1_b4.out; omega); replace BKb1 := hid (BKb1.out.below hb_ (by rw [← hgb4]; exact BKb1.out.lt)); replace SWx5_0 := hid (SWx5_0.out.below (by rw [hgb4]; exact hb_)); replace HL := hid (HL.out.trans (hb_.mono GEb4.out)); have BKb4 := hid hB_; clear hb_ hB_ hs_ hgb4)
        | (at_builtin; clear k15; refine app_one eT27 w.heap.size (ux5_0) (x5_0.map (Value.int .i64)) (.int .i64 x6_0) gb4 1 SWx5_0.out BKb4.out rfl (by have h_ := hc12.out; rw [List.length_map]; omega) (by have h_ := hc12.out; rw [List.length_map]; unfold maxLen; omega) HL.out.size rfl _ _ rfl rfl rfl ?_; intro uo5 w14 ho_ hb_ hk_ hi_; clear SWx5_0; have SWo5 : Hid (Own w14 w.heap.size 3 (uo5) ((x5_0 ++ [x6_0]).map (Value.int .i64))) := hid (by rw [List.map_append]; exact ho_); replace BKb1 := hid (hk_ _ _ _ (by decide) BKb1.out); replace HL := hid (HL.out.trans hb_); clear ho_ hb_ hk_ hi_ BKb4))
       (try simp only [Act.put, sI, sZ, sS])
       go_roundg k8
       case measure => have := HK7.out; omega
       case rel => exact ⟨x5_0 ++ [x6_0], (uo5), wrap64 (x6_0 + 1), (by first | rfl | (simp; done) | (simp [*]; done)), (by first | rfl | (simp; done) | (simp [*]; done)), H', (hid (by first | omega | (have := HK7.out; omega))), (hid (by exact BKb1.out)), SWo5, HL⟩
      ·
       rw [if_neg c12] at H
       exact absurd H (by simp)
     ·
      rw [if_neg c11] at H
      have c11b0 : ((wrap64 (nt a0 x6_0.toNat 0)) == a1) = false := beq_eq_false_iff_ne.mpr c11
      have c11b1 : ((wrap64 (nt a0 x6_0.toNat 0)) != a1) = true := bne_iff_ne.mpr c11
      have hc11 := hid c11
      clear c11
      have H' := hid H
      clear H
      go_wp2_with (first
       | ((with_reducible refine gate_d (N := 12) rfl ?_); refine ag_fix (.pointer (some ⟨gb1, x6_0.toNat, none⟩)) (ex_at 44 (.pointer (some ⟨gb1, 0, none⟩)) (.int .i64 x6_0) (.pointer (some ⟨gb1, x6_0.toNat, none⟩)) (fun w_ => (run_atv 42 uT44 sT42.size gb1 0 x6_0 hc10.out hc9.out w_).trans (by simp)) _ _ rfl rfl rfl) rfl ?_)
       | ((with_reducible refine gate_d (N := 13) rfl ?_); refine ag_fix (.int .i8 (nt a0 x6_0.toNat 0)) (ex_get sT42 gb1 (x6_0.toNat) (.int .i8 (nt a0 x6_0.toNat 0)) ((bv a0)) BKb1.out (av_get 0 (by have h_ : a0.length = 64 := LN_a0.out; have h1_ := hc10.out; have h2_ := hc9.out; omega)) _ rfl rfl) rfl ?_))
      (try simp only [Act.put, sI, sZ, sS])
      go_roundg k8
      case measure => have := HK7.out; omega
      case rel => exact ⟨x5_0, (ux5_0), wrap64 (x6_0 + 1), (by first | rfl | (simp; done) | (simp [*]; done)), (by first | rfl | (simp; done) | (simp [*]; done)), H', (hid (by first | omega | (have := HK7.out; omega))), (hid (by exact BKb1.out)), SWx5_0, HL⟩
    ·
     rw [if_neg c10] at H
     exact absurd H (by simp)
   ·
    rw [if_neg c9] at H
    have c9b0 : decide (x6_0 < 64) = false := decide_eq_false c9
    have hc9 := hid c9
    clear c9
    obtain rfl := Option.some.inj H
    clear H
    go_wp2_with fail
    (try simp only [Act.put, sI, sZ, sS])
    go_ret
    exact ⟨_, rfl, (by exact SWx5_0.out), HL.out⟩
/-! i_alfilref03_Many: function 63 -/
def i_alfilref03_Many.l0 : Nat → List Int → Int → Int → Int → Int → Option (Int)
  | 0, _, _, _, _, _ => none
  | k + 1, a0, a1, a2, x7_0, x8_0 => if x8_0 ≤ 6 then (if a1 = 0 then (if a2 = 0 then ((i_alfilref03_Where.f k a0 x8_0).bind fun t8 => (if a2 = 1 then ((i_alfilref03_Where.f k a0 (wrap64 (-x8_0))).bind fun t9 => (i_alfilref03_Many.l0 k a0 a1 a2 (wrap64 ((wrap64 (x7_0 + (t8.length : Int))) + (t9.length : Int))) (wrap64 (x8_0 + 1)))) else (i_alfilref03_Many.l0 k a0 a1 a2 (wrap64 (x7_0 + (t8.length : Int))) (wrap64 (x8_0 + 1))))) else (if a2 = 1 then ((i_alfilref03_Where.f k a0 (wrap64 (-x8_0))).bind fun t10 => (i_alfilref03_Many.l0 k a0 a1 a2 (wrap64 (x7_0 + (t10.length : Int))) (wrap64 (x8_0 + 1)))) else (i_alfilref03_Many.l0 k a0 a1 a2 x7_0 (wrap64 (x8_0 + 1))))) else (if a1 = x8_0 then (if a2 = 0 then ((i_alfilref03_Where.f k a0 x8_0).bind fun t11 => (if a2 = 1 then ((i_alfilref03_Where.f k a0 (wrap64 (-x8_0))).bind fun t12 => (i_alfilref03_Many.l0 k a0 a1 a2 (wrap64 ((wrap64 (x7_0 + (t11.length : Int))) + (t12.length : Int))) (wrap64 (x8_0 + 1)))) else (i_alfilref03_Many.l0 k a0 a1 a2 (wrap64 (x7_0 + (t11.length : Int))) (wrap64 (x8_0 + 1))))) else (if a2 = 1 then ((i_alfilref03_Where.f k a0 (wrap64 (-x8_0))).bind fun t13 => (i_alfilref03_Many.l0 k a0 a1 a2 (wrap64 (x7_0 + (t13.length : Int))) (wrap64 (x8_0 + 1)))) else (i_alfilref03_Many.l0 k a0 a1 a2 x7_0 (wrap64 (x8_0 + 1))))) else (i_alfilref03_Many.l0 k a0 a1 a2 x7_0 (wrap64 (x8_0 + 1))))) else (some x7_0)
def i_alfilref03_Many.f (k : Nat) (a0 : List Int) (a1 : Int) (a2 : Int) : Option (Int) := i_alfilref03_Many.l0 k a0 a1 a2 0 1
set_option maxHeartbeats 40000000 in
set_option maxRecDepth 100000 in
theorem i_alfilref03_Many.calls (k : Nat) (a0 : List Int) (a1 : Int) (a2 : Int) (hla0 : a0.length = 64) (r1 : Int) (w : World) (h : i_alfilref03_Many.f k a0 a1 a2 = some r1) :
    Calls Try.prog 63 #[.agg (bv a0), .int .i64 a1, .int .i64 a2] w fun e w' => e = .returned (.int .i64 r1) ∧ Below w.heap.size w w' := by
 have LN_a0 := hid hla0
 clear hla0
 have HL := hid (Below.refl w.heap.size w)
 have H : (i_alfilref03_Many.l0 k a0 a1 a2 0 1) = some r1 := h
 clear h
 have H' := hid H
 clear H
 go_enter Try.func63, Try.ntmps63
 go_wp2_with (first
  | ((with_reducible refine gate_d (N := 3) rfl ?_); obtain ⟨gb1, hgb1⟩ : ∃ g_, w.heap.size = g_ := ⟨_, rfl⟩; refine ag_box (bv a0) gb1 hgb1 rfl _ rfl rfl ?_; intro w14 hb_ hB_ hs_; have GEb1 : Hid (w.heap.size ≤ gb1) := hid (by have := HL.out.size; omega); replace HL := hid (HL.out.trans (hb_.mono GEb1.out)); have BKb1 := hid hB_; clear hb_ hB_ hs_ hgb1))
 (try simp only [Act.put, sI, sZ, sS])
 go_loopg [7, 8] k (fun kq v7 v8 w' => ∃ (x7_0 : Int) (x8_0 : Int), v7 = .int .i64 x7_0 ∧ v8 = .int .i64 x8_0 ∧ Hid (i_alfilref03_Many.l0 kq a0 a1 a2 x7_0 x8_0 = some r1) ∧ Hid (kq ≤ k) ∧ Hid (Blk w' gb1 44 (bv a0)) ∧ Hid (Below w.heap.size w w'))
 case atStart => exact ⟨(0 : Int), (1 : Int), (by first | rfl | (simp; done) | (simp [*]; done)), (by first | rfl | (simp; done) | (simp [*]; done)), H', (hid (by first | omega | (omega))), (hid (by exact BKb1.out)), HL⟩
 case round =>
  clear H'
  clear HL BKb1
  obtain ⟨x7_0, x8_0, rfl, rfl, HA, HK15, BKb1, HL⟩ := hrel
  cases gk with
  | zero => exact absurd HA.out (by simp [i_alfilref03_Many.l0])
  | succ k16 =>
   have H := HA.out
   clear HA
   simp only [i_alfilref03_Many.l0] at H
   by_cases c17 : x8_0 ≤ 6
   ·
    rw [if_pos c17] at H
    have c17b0 : decide (x8_0 ≤ 6) = true := decide_eq_true c17
    have hc17 := hid c17
    clear c17
    by_cases c18 : a1 = 0
    ·
     rw [if_pos c18] at H
     have c18b0 : (a1 == 0) = true := beq_iff_eq.mpr c18
     have c18b1 : (a1 != 0) = false := bne_eq_false_iff_eq.mpr c18
     have hc18 := hid c18
     clear c18
     by_cases c19 : a2 = 0
     ·
      rw [if_pos c19] at H
      have c19b0 : (a2 == 0) = true := beq_iff_eq.mpr c19
      have c19b1 : (a2 != 0) = false := bne_eq_false_iff_eq.mpr c19
      have hc19 := hid c19
      clear c19
      replace H := Option.bind_eq_some_iff.mp H
      obtain ⟨t8, A20_, H⟩ := H
      have A20 := hid A20_
      clear A20_
      by_cases c21 : a2 = 1
      ·
       rw [if_pos c21] at H
       exfalso
       clear H
       have := hc19.out; omega
      ·
       rw [if_neg c21] at H
       have c21b0 : (a2 == 1) = false := beq_eq_false_iff_ne.mpr c21
       have c21b1 : (a2 != 1) = true := bne_iff_ne.mpr c21
       have hc21 := hid c21
       clear c21
       have H' := hid H
       clear H
       have k22 := True.intro
       go_wp2_with (first
        | ((with_reducible refine gate_d (N := 23) rfl ?_); refine ag_fix (.agg (bv a0)) (ex_load boardT gb1 0 (bv a0) (bv a0) BKb1.out (av_le LN_a0.out) (av_ex LN_a0.out) _ rfl rfl) rfl ?_)
        | (go_at_call 73; clear k22; refine (i_alfilref03_Where.calls k16 a0 x8_0 LN_a0.out t8 _ A20.out).mono ?_; rintro e_ w23 ⟨ut8, rfl, so_t8, hb_⟩; replace so_t8 := so_t8.mono HL.out.size; have SWn_t8 := hid so_t8; clear so_t8; replace BKb1 := hid (BKb1.out.below hb_ BKb1.out.lt); replace HL := hid (HL.out.trans (hb_.mono HL.out.size)); clear hb_; have SWt8 := SWn_t8; clear SWn_t8)
        | ((with_reducible refine gate_d (N := 26) rfl ?_); obtain ⟨A24, c25, hv26⟩ := SWt8.out.sl.shape; rw [List.length_map] at hv26; refine ag_fix (.int .i64 (t8.length : Int)) (ex_len us27 _ _ _ _ hv26 _ rfl rfl) rfl ?_; clear hv26))
       (try simp only [Act.put, sI, sZ, sS])
       go_roundg k16
       case measure => have := HK15.out; omega
       case rel => exact ⟨wrap64 (x7_0 + (t8.length : Int)), wrap64 (x8_0 + 1), (by first | rfl | (simp; done) | (simp [*]; done)), (by first | rfl | (simp; done) | (simp [*]; done)), H', (hid (by first | omega | (have := HK15.out; omega))), (hid (by exact BKb1.out)), HL⟩
     ·
      rw [if_neg c19] at H
      have c19b0 : (a2 == 0) = false := beq_eq_false_iff_ne.mpr c19
      have c19b1 : (a2 != 0) = true := bne_iff_ne.mpr c19
      have hc19 := hid c19
      clear c19
      by_cases c27 : a2 = 1
      ·
       rw [if_pos c27] at H
       have c27b0 : (a2 == 1) = true := beq_iff_eq.mpr c27
       have c27b1 : (a2 != 1) = false := bne_eq_false_iff_eq.mpr c27
       have hc27 := hid c27
       clear c27
       replace H := Option.bind_eq_some_iff.mp H
       obtain ⟨t10, A28_, H⟩ := H
       have A28 := hid A28_
       clear A28_
       have H' := hid H
       clear H
       have k29 := True.intro
       go_wp2_with (first
        | ((with_reducible refine gate_d (N := 31) rfl ?_); refine ag_fix (.agg (bv a0)) (ex_load boardT gb1 0 (bv a0) (bv a0) BKb1.out (av_le LN_a0.out) (av_ex LN_a0.out) _ rfl rfl) rfl ?_)
        | (go_at_call 73; clear k29; refine (i_alfilref03_Where.calls k16 a0 (wrap64 (-x8_0)) LN_a0.out t10 _ A28.out).mono ?_; rintro e_ w30 ⟨ut10, rfl, so_t10, hb_⟩; replace so_t10 := so_t10.mono HL.out.size; have SWn_t10 := hid so_t10; clear so_t10; replace BKb1 := hid (BKb1.out.below hb_ BKb1.out.lt); replace HL := hid (HL.out.trans (hb_.mono HL.out.size)); clear hb_; have SWt10 := SWn_t10; clear SWn_t10)
        | ((with_reducible refine gate_d (N := 35) rfl ?_); obtain ⟨A31, c32, hv33⟩ := SWt10.out.sl.shape; rw [List.length_map] at hv33; refine ag_fix (.int .i64 (t10.length : Int)) (ex_len us27 _ _ _ _ hv33 _ rfl rfl) rfl ?_; clear hv33))
       (try simp only [Act.put, sI, sZ, sS])
       go_roundg k16
       case measure => have := HK15.out; omega
       case rel => exact ⟨wrap64 (x7_0 + (t10.length : Int)), wrap64 (x8_0 + 1), (by first | rfl | (simp; done) | (simp [*]; done)), (by first | rfl | (simp; done) | (simp [*]; done)), H', (hid (by first | omega | (have := HK15.out; omega))), (hid (by exact BKb1.out)), HL⟩
      ·
       rw [if_neg c27] at H
       have c27b0 : (a2 == 1) = false := beq_eq_false_iff_ne.mpr c27
       have c27b1 : (a2 != 1) = true := bne_iff_ne.mpr c27
       have hc27 := hid c27
       clear c27
       have H' := hid H
       clear H
       go_wp2_with fail
       (try simp only [Act.put, sI, sZ, sS])
       go_roundg k16
       case measure => have := HK15.out; omega
       case rel => exact ⟨x7_0, wrap64 (x8_0 + 1), (by first | rfl | (simp; done) | (simp [*]; done)), (by first | rfl | (simp; done) | (simp [*]; done)), H', (hid (by first | omega | (have := HK15.out; omega))), (hid (by exact BKb1.out)), HL⟩
    ·
     rw [if_neg c18] at H
     have c18b0 : (a1 == 0) = false := beq_eq_false_iff_ne.mpr c18
     have c18b1 : (a1 != 0) = true := bne_iff_ne.mpr c18
     have hc18 := hid c18
     clear c18
     by_cases c34 : a1 = x8_0
     ·
      rw [if_pos c34] at H
      have c34b0 : (a1 == x8_0) = true := beq_iff_eq.mpr c34
      have c34b1 : (a1 != x8_0) = false := bne_eq_false_iff_eq.mpr c34
      have hc34 := hid c34
      clear c34
      by_cases c35 : a2 = 0
      ·
       rw [if_pos c35] at H
       have c35b0 : (a2 == 0) = true := beq_iff_eq.mpr c35
       have c35b1 : (a2 != 0) = false := bne_eq_false_iff_eq.mpr c35
       have hc35 := hid c35
       clear c35
       replace H := Option.bind_eq_some_iff.mp H
       obtain ⟨t11, A36_, H⟩ := H
       have A36 := hid A36_
       clear A36_
       by_cases c37 : a2 = 1
       ·
        rw [if_pos c37] at H
        exfalso
        clear H
        have := hc35.out; omega
       ·
        rw [if_neg c37] at H
        have c37b0 : (a2 == 1) = false := beq_eq_false_iff_ne.mpr c37
        have c37b1 : (a2 != 1) = true := bne_iff_ne.mpr c37
        have hc37 := hid c37
        clear c37
        have H' := hid H
        clear H
        have k38 := True.intro
        go_wp2_with (first
         | ((with_reducible refine gate_d (N := 23) rfl ?_); refine ag_fix (.agg (bv a0)) (ex_load boardT gb1 0 (bv a0) (bv a0) BKb1.out (av_le LN_a0.out) (av_ex LN_a0.out) _ rfl rfl) rfl ?_)
         | (go_at_call 73; clear k38; refine (i_alfilref03_Where.calls k16 a0 x8_0 LN_a0.out t11 _ A36.out).mono ?_; rintro e_ w39 ⟨ut11, rfl, so_t11, hb_⟩; replace so_t11 := so_t11.mono HL.out.size; have SWn_t11 := hid so_t11; clear so_t11; replace BKb1 := hid (BKb1.out.below hb_ BKb1.out.lt); replace HL := hid (HL.out.trans (hb_.mono HL.out.size)); clear hb_; have SWt11 := SWn_t11; clear SWn_t11)
         | ((with_reducible refine gate_d (N := 26) rfl ?_); obtain ⟨A40, c41, hv42⟩ := SWt11.out.sl.shape; rw [List.length_map] at hv42; refine ag_fix (.int .i64 (t11.length : Int)) (ex_len us27 _ _ _ _ hv42 _ rfl rfl) rfl ?_; clear hv42))
        (try simp only [Act.put, sI, sZ, sS])
        go_roundg k16
        case measure => have := HK15.out; omega
        case rel => exact ⟨wrap64 (x7_0 + (t11.length : Int)), wrap64 (x8_0 + 1), (by first | rfl | (simp; done) | (simp [*]; done)), (by first | rfl | (simp; done) | (simp [*]; done)), H', (hid (by first | omega | (have := HK15.out; omega))), (hid (by exact BKb1.out)), HL⟩
      ·
       rw [if_neg c35] at H
       have c35b0 : (a2 == 0) = false := beq_eq_false_iff_ne.mpr c35
       have c35b1 : (a2 != 0) = true := bne_iff_ne.mpr c35
       have hc35 := hid c35
       clear c35
       by_cases c43 : a2 = 1
       ·
        rw [if_pos c43] at H
        have c43b0 : (a2 == 1) = true := beq_iff_eq.mpr c43
        have c43b1 : (a2 != 1) = false := bne_eq_false_iff_eq.mpr c43
        have hc43 := hid c43
        clear c43
        replace H := Option.bind_eq_some_iff.mp H
        obtain ⟨t13, A44_, H⟩ := H
        have A44 := hid A44_
        clear A44_
        have H' := hid H
        clear H
        have k45 := True.intro
        go_wp2_with (first
         | ((with_reducible refine gate_d (N := 31) rfl ?_); refine ag_fix (.agg (bv a0)) (ex_load boardT gb1 0 (bv a0) (bv a0) BKb1.out (av_le LN_a0.out) (av_ex LN_a0.out) _ rfl rfl) rfl ?_)
         | (go_at_call 73; clear k45; refine (i_alfilref03_Where.calls k16 a0 (wrap64 (-x8_0)) LN_a0.out t13 _ A44.out).mono ?_; rintro e_ w46 ⟨ut13, rfl, so_t13, hb_⟩; replace so_t13 := so_t13.mono HL.out.size; have SWn_t13 := hid so_t13; clear so_t13; replace BKb1 := hid (BKb1.out.below hb_ BKb1.out.lt); replace HL := hid (HL.out.trans (hb_.mono HL.out.size)); clear hb_; have SWt13 := SWn_t13; clear SWn_t13)
         | ((with_reducible refine gate_d (N := 35) rfl ?_); obtain ⟨A47, c48, hv49⟩ := SWt13.out.sl.shape; rw [List.length_map] at hv49; refine ag_fix (.int .i64 (t13.length : Int)) (ex_len us27 _ _ _ _ hv49 _ rfl rfl) rfl ?_; clear hv49))
        (try simp only [Act.put, sI, sZ, sS])
        go_roundg k16
        case measure => have := HK15.out; omega
        case rel => exact ⟨wrap64 (x7_0 + (t13.length : Int)), wrap64 (x8_0 + 1), (by first | rfl | (simp; done) | (simp [*]; done)), (by first | rfl | (simp; done) | (simp [*]; done)), H', (hid (by first | omega | (have := HK15.out; omega))), (hid (by exact BKb1.out)), HL⟩
       ·
        rw [if_neg c43] at H
        have c43b0 : (a2 == 1) = false := beq_eq_false_iff_ne.mpr c43
        have c43b1 : (a2 != 1) = true := bne_iff_ne.mpr c43
        have hc43 := hid c43
        clear c43
        have H' := hid H
        clear H
        go_wp2_with fail
        (try simp only [Act.put, sI, sZ, sS])
        go_roundg k16
        case measure => have := HK15.out; omega
        case rel => exact ⟨x7_0, wrap64 (x8_0 + 1), (by first | rfl | (simp; done) | (simp [*]; done)), (by first | rfl | (simp; done) | (simp [*]; done)), H', (hid (by first | omega | (have := HK15.out; omega))), (hid (by exact BKb1.out)), HL⟩
     ·
      rw [if_neg c34] at H
      have c34b0 : (a1 == x8_0) = false := beq_eq_false_iff_ne.mpr c34
      have c34b1 : (a1 != x8_0) = true := bne_iff_ne.mpr c34
      have hc34 := hid c34
      clear c34
      have H' := hid H
      clear H
      go_wp2_with fail
      (try simp only [Act.put, sI, sZ, sS])
      go_roundg k16
      case measure => have := HK15.out; omega
      case rel => exact ⟨x7_0, wrap64 (x8_0 + 1), (by first | rfl | (simp; done) | (simp [*]; done)), (by first | rfl | (simp; done) | (simp [*]; done)), H', (hid (by first | omega | (have := HK15.out; omega))), (hid (by exact BKb1.out)), HL⟩
   ·
    rw [if_neg c17] at H
    have c17b0 : decide (x8_0 ≤ 6) = false := decide_eq_false c17
    have hc17 := hid c17
    clear c17
    obtain rfl := Option.some.inj H
    clear H
    go_wp2_with fail
    (try simp only [Act.put, sI, sZ, sS])
    go_ret
    exact ⟨by first | rfl | (simp; done) | (simp [*]; done), HL.out⟩
/-! i_alfillaw24_pawns: function 36 -/
def i_alfillaw24_pawns.f (k : Nat) (a0 : List Int) (a1 : Int) : Option (Int) := (i_alfilref03_Many.f k a0 1 a1).bind fun t2 => (some t2)
set_option maxHeartbeats 40000000 in
set_option maxRecDepth 100000 in
theorem i_alfillaw24_pawns.calls (k : Nat) (a0 : List Int) (a1 : Int) (hla0 : a0.length = 64) (r1 : Int) (w : World) (h : i_alfillaw24_pawns.f k a0 a1 = some r1) :
    Calls Try.prog 36 #[.agg (bv a0), .int .i64 a1] w fun e w' => e = .returned (.int .i64 r1) ∧ Below w.heap.size w w' := by
 have LN_a0 := hid hla0
 clear hla0
 have HL := hid (Below.refl w.heap.size w)
 have H : ((i_alfilref03_Many.f k a0 1 a1).bind fun t2 => (some t2)) = some r1 := h
 clear h
 replace H := Option.bind_eq_some_iff.mp H
 obtain ⟨t2, A3_, H⟩ := H
 have A3 := hid A3_
 clear A3_
 obtain rfl := Option.some.inj H
 clear H
 go_enter Try.func36, Try.ntmps36
 have k5 := True.intro
 go_wp2_with (first
  | ((with_reducible refine gate_d (N := 2) rfl ?_); obtain ⟨gb1, hgb1⟩ : ∃ g_, w.heap.size = g_ := ⟨_, rfl⟩; refine ag_box (bv a0) gb1 hgb1 rfl _ rfl rfl ?_; intro w4 hb_ hB_ hs_; have GEb1 : Hid (w.heap.size ≤ gb1) := hid (by have := HL.out.size; omega); replace HL := hid (HL.out.trans (hb_.mono GEb1.out)); have BKb1 := hid hB_; clear hb_ hB_ hs_ hgb1)
  | ((with_reducible refine gate_d (N := 5) rfl ?_); refine ag_fix (.agg (bv a0)) (ex_load boardT gb1 0 (bv a0) (bv a0) BKb1.out (av_le LN_a0.out) (av_ex LN_a0.out) _ rfl rfl) rfl ?_)
  | (go_at_call 63; clear k5; refine (i_alfilref03_Many.calls k a0 1 a1 LN_a0.out t2 _ A3.out).mono ?_; rintro e_ w6 ⟨rfl, hb_⟩; replace BKb1 := hid (BKb1.out.below hb_ BKb1.out.lt); replace HL := hid (HL.out.trans (hb_.mono HL.out.size)); clear hb_))
 (try simp only [Act.put, sI, sZ, sS])
 go_ret
 exact ⟨by first | rfl | (simp; done) | (simp [*]; done), HL.out⟩
/-! i_alfilref02_Kind: function 64 -/
def i_alfilref02_Kind.l0 : Nat → Int → Int → Option (Int)
  | 0, _, _ => none
  | k + 1, a0, x3_0 => if x3_0 ≤ 6 then (if a0 = x3_0 then (some x3_0) else (if a0 = (wrap64 (-x3_0)) then (some x3_0) else (i_alfilref02_Kind.l0 k a0 (wrap64 (x3_0 + 1))))) else (some 0)
def i_alfilref02_Kind.f (k : Nat) (a0 : Int) : Option (Int) := i_alfilref02_Kind.l0 k a0 1
set_option maxHeartbeats 40000000 in
set_option maxRecDepth 100000 in
theorem i_alfilref02_Kind.calls (k : Nat) (a0 : Int) (r1 : Int) (w : World) (h : i_alfilref02_Kind.f k a0 = some r1) :
    Calls Try.prog 64 #[.int .i64 a0] w fun e w' => e = .returned (.int .i64 r1) ∧ w = w' := by
 have H : (i_alfilref02_Kind.l0 k a0 1) = some r1 := h
 clear h
 have H' := hid H
 clear H
 go_enter Try.func64, Try.ntmps64
 go_wp2_with fail
 (try simp only [Act.put, sI, sZ, sS])
 go_loopg [3] k (fun kq v3 w' => ∃ (x3_0 : Int), v3 = .int .i64 x3_0 ∧ Hid (i_alfilref02_Kind.l0 kq a0 x3_0 = some r1) ∧ Hid (kq ≤ k) ∧ w = w')
 case atStart => exact ⟨(1 : Int), (by first | rfl | (simp; done) | (simp [*]; done)), H', (hid (by first | omega | (omega))), rfl⟩
 case round =>
  clear H'
  skip
  obtain ⟨x3_0, rfl, HA, HK1, rfl⟩ := hrel
  cases gk with
  | zero => exact absurd HA.out (by simp [i_alfilref02_Kind.l0])
  | succ k2 =>
   have H := HA.out
   clear HA
   simp only [i_alfilref02_Kind.l0] at H
   by_cases c3 : x3_0 ≤ 6
   ·
    rw [if_pos c3] at H
    have c3b0 : decide (x3_0 ≤ 6) = true := decide_eq_true c3
    have hc3 := hid c3
    clear c3
    by_cases c4 : a0 = x3_0
    ·
     rw [if_pos c4] at H
     have c4b0 : (a0 == x3_0) = true := beq_iff_eq.mpr c4
     have c4b1 : (a0 != x3_0) = false := bne_eq_false_iff_eq.mpr c4
     have hc4 := hid c4
     clear c4
     obtain rfl := Option.some.inj H
     clear H
     go_wp2_with fail
     (try simp only [Act.put, sI, sZ, sS])
     go_ret
     exact ⟨by first | rfl | (simp; done) | (simp [*]; done), rfl⟩
    ·
     rw [if_neg c4] at H
     have c4b0 : (a0 == x3_0) = false := beq_eq_false_iff_ne.mpr c4
     have c4b1 : (a0 != x3_0) = true := bne_iff_ne.mpr c4
     have hc4 := hid c4
     clear c4
     by_cases c5 : a0 = (wrap64 (-x3_0))
     ·
      rw [if_pos c5] at H
      have c5b0 : (a0 == (wrap64 (-x3_0))) = true := beq_iff_eq.mpr c5
      have c5b1 : (a0 != (wrap64 (-x3_0))) = false := bne_eq_false_iff_eq.mpr c5
      have hc5 := hid c5
      clear c5
      obtain rfl := Option.some.inj H
      clear H
      go_wp2_with fail
      (try simp only [Act.put, sI, sZ, sS])
      go_ret
      exact ⟨by first | rfl | (simp; done) | (simp [*]; done), rfl⟩
     ·
      rw [if_neg c5] at H
      have c5b0 : (a0 == (wrap64 (-x3_0))) = false := beq_eq_false_iff_ne.mpr c5
      have c5b1 : (a0 != (wrap64 (-x3_0))) = true := bne_iff_ne.mpr c5
      have hc5 := hid c5
      clear c5
      have H' := hid H
      clear H
      go_wp2_with fail
      (try simp only [Act.put, sI, sZ, sS])
      go_roundg k2
      case measure => have := HK1.out; omega
      case rel => exact ⟨wrap64 (x3_0 + 1), (by first | rfl | (simp; done) | (simp [*]; done)), H', (hid (by first | omega | (have := HK1.out; omega))), rfl⟩
   ·
    rw [if_neg c3] at H
    have c3b0 : decide (x3_0 ≤ 6) = false := decide_eq_false c3
    have hc3 := hid c3
    clear c3
    obtain rfl := Option.some.inj H
    clear H
    go_wp2_with fail
    (try simp only [Act.put, sI, sZ, sS])
    go_ret
    exact ⟨by first | rfl | (simp; done) | (simp [*]; done), rfl⟩
/-! i_alfilref03_Right: function 37 -/
def i_alfilref03_Right.l0 : Nat → List Int → Int → Option (Bool)
  | 0, _, _ => none
  | k + 1, a0, x3_0 => if x3_0 < 64 then (if 0 ≤ x3_0 then (if (nt a0 x3_0.toNat 0) = 0 then (i_alfilref03_Right.l0 k a0 (wrap64 (x3_0 + 1))) else ((i_alfilref02_Kind.f k (wrap64 (nt a0 x3_0.toNat 0))).bind fun t3 => (if t3 = 0 then (some false) else (i_alfilref03_Right.l0 k a0 (wrap64 (x3_0 + 1)))))) else (none)) else (some true)
def i_alfilref03_Right.f (k : Nat) (a0 : List Int) : Option (Bool) := i_alfilref03_Right.l0 k a0 0
set_option maxHeartbeats 40000000 in
set_option maxRecDepth 100000 in
theorem i_alfilref03_Right.calls (k : Nat) (a0 : List Int) (hla0 : a0.length = 64) (r1 : Bool) (w : World) (h : i_alfilref03_Right.f k a0 = some r1) :
    Calls Try.prog 37 #[.agg (bv a0)] w fun e w' => e = .returned (.bool r1) ∧ Below w.heap.size w w' := by
 have LN_a0 := hid hla0
 clear hla0
 have HL := hid (Below.refl w.heap.size w)
 have H : (i_alfilref03_Right.l0 k a0 0) = some r1 := h
 clear h
 have H' := hid H
 clear H
 go_enter Try.func37, Try.ntmps37
 go_wp2_with (first
  | ((with_reducible refine gate_d (N := 1) rfl ?_); obtain ⟨gb1, hgb1⟩ : ∃ g_, w.heap.size = g_ := ⟨_, rfl⟩; refine ag_box (bv a0) gb1 hgb1 rfl _ rfl rfl ?_; intro w4 hb_ hB_ hs_; have GEb1 : Hid (w.heap.size ≤ gb1) := hid (by have := HL.out.size; omega); replace HL := hid (HL.out.trans (hb_.mono GEb1.out)); have BKb1 := hid hB_; clear hb_ hB_ hs_ hgb1))
 (try simp only [Act.put, sI, sZ, sS])
 go_loopg [3] k (fun kq v3 w' => ∃ (x3_0 : Int), v3 = .int .i64 x3_0 ∧ Hid (i_alfilref03_Right.l0 kq a0 x3_0 = some r1) ∧ Hid (kq ≤ k) ∧ Hid (Blk w' gb1 44 (bv a0)) ∧ Hid (Below w.heap.size w w'))
 case atStart => exact ⟨(0 : Int), (by first | rfl | (simp; done) | (simp [*]; done)), H', (hid (by first | omega | (omega))), (hid (by exact BKb1.out)), HL⟩
 case round =>
  clear H'
  clear HL BKb1
  obtain ⟨x3_0, rfl, HA, HK5, BKb1, HL⟩ := hrel
  cases gk with
  | zero => exact absurd HA.out (by simp [i_alfilref03_Right.l0])
  | succ k6 =>
   have H := HA.out
   clear HA
   simp only [i_alfilref03_Right.l0] at H
   by_cases c7 : x3_0 < 64
   ·
    rw [if_pos c7] at H
    have c7b0 : decide (x3_0 < 64) = true := decide_eq_true c7
    have hc7 := hid c7
    clear c7
    by_cases c8 : 0 ≤ x3_0
    ·
     rw [if_pos c8] at H
     have c8b0 : decide (0 ≤ x3_0) = true := decide_eq_true c8
     have hc8 := hid c8
     clear c8
     by_cases c9 : (nt a0 x3_0.toNat 0) = 0
     ·
      rw [if_pos c9] at H
      have c9b0 : ((nt a0 x3_0.toNat 0) == 0) = true := beq_iff_eq.mpr c9
      have c9b1 : ((nt a0 x3_0.toNat 0) != 0) = false := bne_eq_false_iff_eq.mpr c9
      have hc9 := hid c9
      clear c9
      have H' := hid H
      clear H
      go_wp2_with (first
       | ((with_reducible refine gate_d (N := 9) rfl ?_); refine ag_fix (.pointer (some ⟨gb1, x3_0.toNat, none⟩)) (ex_at 44 (.pointer (some ⟨gb1, 0, none⟩)) (.int .i64 x3_0) (.pointer (some ⟨gb1, x3_0.toNat, none⟩)) (fun w_ => (run_atv 42 uT44 sT42.size gb1 0 x3_0 hc8.out hc7.out w_).trans (by simp)) _ _ rfl rfl rfl) rfl ?_)
       | ((with_reducible refine gate_d (N := 10) rfl ?_); refine ag_fix (.int .i8 (nt a0 x3_0.toNat 0)) (ex_get sT42 gb1 (x3_0.toNat) (.int .i8 (nt a0 x3_0.toNat 0)) ((bv a0)) BKb1.out (av_get 0 (by have h_ : a0.length = 64 := LN_a0.out; have h1_ := hc8.out; have h2_ := hc7.out; omega)) _ rfl rfl) rfl ?_))
      (try simp only [Act.put, sI, sZ, sS])
      go_roundg k6
      case measure => have := HK5.out; omega
      case rel => exact ⟨wrap64 (x3_0 + 1), (by first | rfl | (simp; done) | (simp [*]; done)), H', (hid (by first | omega | (have := HK5.out; omega))), (hid (by exact BKb1.out)), HL⟩
     ·
      rw [if_neg c9] at H
      have c9b0 : ((nt a0 x3_0.toNat 0) == 0) = false := beq_eq_false_iff_ne.mpr c9
      have c9b1 : ((nt a0 x3_0.toNat 0) != 0) = true := bne_iff_ne.mpr c9
      have hc9 := hid c9
      clear c9
      replace H := Option.bind_eq_some_iff.mp H
      obtain ⟨t3, A10_, H⟩ := H
      have A10 := hid A10_
      clear A10_
      by_cases c11 : t3 = 0
      ·
       rw [if_pos c11] at H
       have c11b0 : (t3 == 0) = true := beq_iff_eq.mpr c11
       have c11b1 : (t3 != 0) = false := bne_eq_false_iff_eq.mpr c11
       have hc11 := hid c11
       clear c11
       obtain rfl := Option.some.inj H
       clear H
       have k12 := True.intro
       go_wp2_with (first
        | ((with_reducible refine gate_d (N := 9) rfl ?_); refine ag_fix (.pointer (some ⟨gb1, x3_0.toNat, none⟩)) (ex_at 44 (.pointer (some ⟨gb1, 0, none⟩)) (.int .i64 x3_0) (.pointer (some ⟨gb1, x3_0.toNat, none⟩)) (fun w_ => (run_atv 42 uT44 sT42.size gb1 0 x3_0 hc8.out hc7.out w_).trans (by simp)) _ _ rfl rfl rfl) rfl ?_)
        | ((with_reducible refine gate_d (N := 10) rfl ?_); refine ag_fix (.int .i8 (nt a0 x3_0.toNat 0)) (ex_get sT42 gb1 (x3_0.toNat) (.int .i8 (nt a0 x3_0.toNat 0)) ((bv a0)) BKb1.out (av_get 0 (by have h_ : a0.length = 64 := LN_a0.out; have h1_ := hc8.out; have h2_ := hc7.out; omega)) _ rfl rfl) rfl ?_)
        | ((with_reducible refine gate_d (N := 14) rfl ?_); refine ag_fix (.pointer (some ⟨gb1, x3_0.toNat, none⟩)) (ex_at 44 (.pointer (some ⟨gb1, 0, none⟩)) (.int .i64 x3_0) (.pointer (some ⟨gb1, x3_0.toNat, none⟩)) (fun w_ => (run_atv 42 uT44 sT42.size gb1 0 x3_0 hc8.out hc7.out w_).trans (by simp)) _ _ rfl rfl rfl) rfl ?_)
        | ((with_reducible refine gate_d (N := 15) rfl ?_); refine ag_fix (.int .i8 (nt a0 x3_0.toNat 0)) (ex_get sT42 gb1 (x3_0.toNat) (.int .i8 (nt a0 x3_0.toNat 0)) ((bv a0)) BKb1.out (av_get 0 (by have h_ : a0.length = 64 := LN_a0.out; have h1_ := hc8.out; have h2_ := hc7.out; omega)) _ rfl rfl) rfl ?_)
        | (go_at_call 64; clear k12; refine (i_alfilref02_Kind.calls k6 (wrap64 (nt a0 x3_0.toNat 0)) t3 _ A10.out).mono ?_; rintro e_ w' ⟨rfl, rfl⟩))
       (try simp only [Act.put, sI, sZ, sS])
       go_ret
       exact ⟨by first | rfl | (simp; done) | (simp [*]; done), HL.out⟩
      ·
       rw [if_neg c11] at H
       have c11b0 : (t3 == 0) = false := beq_eq_false_iff_ne.mpr c11
       have c11b1 : (t3 != 0) = true := bne_iff_ne.mpr c11
       have hc11 := hid c11
       clear c11
       have H' := hid H
       clear H
       have k13 := True.intro
       go_wp2_with (first
        | ((with_reducible refine gate_d (N := 9) rfl ?_); refine ag_fix (.pointer (some ⟨gb1, x3_0.toNat, none⟩)) (ex_at 44 (.pointer (some ⟨gb1, 0, none⟩)) (.int .i64 x3_0) (.pointer (some ⟨gb1, x3_0.toNat, none⟩)) (fun w_ => (run_atv 42 uT44 sT42.size gb1 0 x3_0 hc8.out hc7.out w_).trans (by simp)) _ _ rfl rfl rfl) rfl ?_)
        | ((with_reducible refine gate_d (N := 10) rfl ?_); refine ag_fix (.int .i8 (nt a0 x3_0.toNat 0)) (ex_get sT42 gb1 (x3_0.toNat) (.int .i8 (nt a0 x3_0.toNat 0)) ((bv a0)) BKb1.out (av_get 0 (by have h_ : a0.length = 64 := LN_a0.out; have h1_ := hc8.out; have h2_ := hc7.out; omega)) _ rfl rfl) rfl ?_)
        | ((with_reducible refine gate_d (N := 14) rfl ?_); refine ag_fix (.pointer (some ⟨gb1, x3_0.toNat, none⟩)) (ex_at 44 (.pointer (some ⟨gb1, 0, none⟩)) (.int .i64 x3_0) (.pointer (some ⟨gb1, x3_0.toNat, none⟩)) (fun w_ => (run_atv 42 uT44 sT42.size gb1 0 x3_0 hc8.out hc7.out w_).trans (by simp)) _ _ rfl rfl rfl) rfl ?_)
        | ((with_reducible refine gate_d (N := 15) rfl ?_); refine ag_fix (.int .i8 (nt a0 x3_0.toNat 0)) (ex_get sT42 gb1 (x3_0.toNat) (.int .i8 (nt a0 x3_0.toNat 0)) ((bv a0)) BKb1.out (av_get 0 (by have h_ : a0.length = 64 := LN_a0.out; have h1_ := hc8.out; have h2_ := hc7.out; omega)) _ rfl rfl) rfl ?_)
        | (go_at_call 64; clear k13; refine (i_alfilref02_Kind.calls k6 (wrap64 (nt a0 x3_0.toNat 0)) t3 _ A10.out).mono ?_; rintro e_ w' ⟨rfl, rfl⟩))
       (try simp only [Act.put, sI, sZ, sS])
       go_roundg k6
       case measure => have := HK5.out; omega
       case rel => exact ⟨wrap64 (x3_0 + 1), (by first | rfl | (simp; done) | (simp [*]; done)), H', (hid (by first | omega | (have := HK5.out; omega))), (hid (by exact BKb1.out)), HL⟩
    ·
     rw [if_neg c8] at H
     exact absurd H (by simp)
   ·
    rw [if_neg c7] at H
    have c7b0 : decide (x3_0 < 64) = false := decide_eq_false c7
    have hc7 := hid c7
    clear c7
    obtain rfl := Option.some.inj H
    clear H
    go_wp2_with fail
    (try simp only [Act.put, sI, sZ, sS])
    go_ret
    exact ⟨by first | rfl | (simp; done) | (simp [*]; done), HL.out⟩
/-! i_alfilref24_man: function 74 -/
def i_alfilref24_man.f (a0 : Int) (a1 : Int) : Option (Int) := some (wrap64 (a0 - (wrap64 ((wrap64 (2 * a1)) * a0))))
set_option maxHeartbeats 40000000 in
set_option maxRecDepth 100000 in
theorem i_alfilref24_man.calls (a0 : Int) (a1 : Int) (r1 : Int) (w : World) (h : i_alfilref24_man.f a0 a1 = some r1) :
    Calls Try.prog 74 #[.int .i64 a0, .int .i64 a1] w fun e w' => e = .returned (.int .i64 r1) ∧ w = w' := by
 have H : (some (wrap64 (a0 - (wrap64 ((wrap64 (2 * a1)) * a0))))) = some r1 := h
 clear h
 obtain rfl := Option.some.inj H
 clear H
 go_enter Try.func74, Try.ntmps74
 go_wp2_with fail
 (try simp only [Act.put, sI, sZ, sS])
 go_ret
 exact ⟨by first | rfl | (simp; done) | (simp [*]; done), rfl⟩
/-! i_alfilref01_Right: function 94 -/
def i_alfilref01_Right.f (a0 : Int) : Option (Bool) := if 0 ≤ a0 then (some (decide (a0 ≤ 63))) else (some false)
set_option maxHeartbeats 40000000 in
set_option maxRecDepth 100000 in
theorem i_alfilref01_Right.calls (a0 : Int) (r1 : Bool) (w : World) (h : i_alfilref01_Right.f a0 = some r1) :
    Calls Try.prog 94 #[.int .i64 a0] w fun e w' => e = .returned (.bool r1) ∧ w = w' := by
 have H : (if 0 ≤ a0 then (some (decide (a0 ≤ 63))) else (some false)) = some r1 := h
 clear h
 by_cases c1 : 0 ≤ a0
 ·
  rw [if_pos c1] at H
  have c1b0 : decide (0 ≤ a0) = true := decide_eq_true c1
  have hc1 := hid c1
  clear c1
  obtain rfl := Option.some.inj H
  clear H
  go_enter Try.func94, Try.ntmps94
  go_wp2_with fail
  (try simp only [Act.put, sI, sZ, sS])
  go_ret
  exact ⟨by first | rfl | (simp; done) | (simp [*]; done), rfl⟩
 ·
  rw [if_neg c1] at H
  have c1b0 : decide (0 ≤ a0) = false := decide_eq_false c1
  have hc1 := hid c1
  clear c1
  obtain rfl := Option.some.inj H
  clear H
  go_enter Try.func94, Try.ntmps94
  go_wp2_with fail
  (try simp only [Act.put, sI, sZ, sS])
  go_ret
  exact ⟨by first | rfl | (simp; done) | (simp [*]; done), rfl⟩
/-! i_alfilref01_File: function 76 -/
def i_alfilref01_File.l0 : Nat → Int → Option (Int)
  | 0, _ => none
  | k + 1, x0_0 => if x0_0 ≥ 8 then (i_alfilref01_File.l0 k (wrap64 (x0_0 - 8))) else (some x0_0)
def i_alfilref01_File.f (k : Nat) (a0 : Int) : Option (Int) := (i_alfilref01_Right.f a0).bind fun t1 => (if t1 = true then (i_alfilref01_File.l0 k a0) else (some (-1)))
set_option maxHeartbeats 40000000 in
set_option maxRecDepth 100000 in
theorem i_alfilref01_File.calls (k : Nat) (a0 : Int) (r1 : Int) (w : World) (h : i_alfilref01_File.f k a0 = some r1) :
    Calls Try.prog 76 #[.int .i64 a0] w fun e w' => e = .returned (.int .i64 r1) ∧ w = w' := by
 have H : ((i_alfilref01_Right.f a0).bind fun t1 => (if t1 = true then (i_alfilref01_File.l0 k a0) else (some (-1)))) = some r1 := h
 clear h
 replace H := Option.bind_eq_some_iff.mp H
 obtain ⟨t1, A2_, H⟩ := H
 have A2 := hid A2_
 clear A2_
 cases t1 with
 | true =>
  rw [if_pos rfl] at H
  have H' := hid H
  clear H
  go_enter Try.func76, Try.ntmps76
  have k4 := True.intro
  go_wp2_with (first
   | (go_at_call 94; clear k4; refine (i_alfilref01_Right.calls a0 true _ A2.out).mono ?_; rintro e_ w' ⟨rfl, rfl⟩))
  (try simp only [Act.put, sI, sZ, sS])
  go_loopg [0] k (fun kq v0 w' => ∃ (x0_0 : Int), v0 = .int .i64 x0_0 ∧ Hid (i_alfilref01_File.l0 kq x0_0 = some r1) ∧ Hid (kq ≤ k) ∧ w = w')
  case atStart => exact ⟨a0, (by first | rfl | (simp; done) | (simp [*]; done)), H', (hid (by first | omega | (omega))), rfl⟩
  case round =>
   clear H'
   skip
   obtain ⟨x0_0, rfl, HA, HK5, rfl⟩ := hrel
   cases gk with
   | zero => exact absurd HA.out (by simp [i_alfilref01_File.l0])
   | succ k6 =>
    have H := HA.out
    clear HA
    simp only [i_alfilref01_File.l0] at H
    by_cases c7 : x0_0 ≥ 8
    ·
     rw [if_pos c7] at H
     have c7b0 : decide (8 ≤ x0_0) = true := decide_eq_true c7
     have hc7 := hid c7
     clear c7
     have H' := hid H
     clear H
     go_wp2_with fail
     (try simp only [Act.put, sI, sZ, sS])
     go_roundg k6
     case measure => have := HK5.out; omega
     case rel => exact ⟨wrap64 (x0_0 - 8), (by first | rfl | (simp; done) | (simp [*]; done)), H', (hid (by first | omega | (have := HK5.out; omega))), rfl⟩
    ·
     rw [if_neg c7] at H
     have c7b0 : decide (8 ≤ x0_0) = false := decide_eq_false c7
     have hc7 := hid c7
     clear c7
     obtain rfl := Option.some.inj H
     clear H
     go_wp2_with fail
     (try simp only [Act.put, sI, sZ, sS])
     go_ret
     exact ⟨by first | rfl | (simp; done) | (simp [*]; done), rfl⟩
 | false =>
  rw [if_neg (show ¬ (false = true) by decide)] at H
  obtain rfl := Option.some.inj H
  clear H
  go_enter Try.func76, Try.ntmps76
  have k8 := True.intro
  go_wp2_with (first
   | (go_at_call 94; clear k8; refine (i_alfilref01_Right.calls a0 false _ A2.out).mono ?_; rintro e_ w' ⟨rfl, rfl⟩))
  (try simp only [Act.put, sI, sZ, sS])
  go_ret
  exact ⟨by first | rfl | (simp; done) | (simp [*]; done), rfl⟩
/-! i_alfilref01_Rank: function 77 -/
def i_alfilref01_Rank.l0 : Nat → Int → Int → Option (Int)
  | 0, _, _ => none
  | k + 1, x0_0, x3_0 => if x0_0 ≥ 8 then (i_alfilref01_Rank.l0 k (wrap64 (x0_0 - 8)) (wrap64 (x3_0 + 1))) else (some x3_0)
def i_alfilref01_Rank.f (k : Nat) (a0 : Int) : Option (Int) := (i_alfilref01_Right.f a0).bind fun t1 => (if t1 = true then (i_alfilref01_Rank.l0 k a0 0) else (some (-1)))
set_option maxHeartbeats 40000000 in
set_option maxRecDepth 100000 in
theorem i_alfilref01_Rank.calls (k : Nat) (a0 : Int) (r1 : Int) (w : World) (h : i_alfilref01_Rank.f k a0 = some r1) :
    Calls Try.prog 77 #[.int .i64 a0] w fun e w' => e = .returned (.int .i64 r1) ∧ w = w' := by
 have H : ((i_alfilref01_Right.f a0).bind fun t1 => (if t1 = true then (i_alfilref01_Rank.l0 k a0 0) else (some (-1)))) = some r1 := h
 clear h
 replace H := Option.bind_eq_some_iff.mp H
 obtain ⟨t1, A2_, H⟩ := H
 have A2 := hid A2_
 clear A2_
 cases t1 with
 | true =>
  rw [if_pos rfl] at H
  have H' := hid H
  clear H
  go_enter Try.func77, Try.ntmps77
  have k4 := True.intro
  go_wp2_with (first
   | (go_at_call 94; clear k4; refine (i_alfilref01_Right.calls a0 true _ A2.out).mono ?_; rintro e_ w' ⟨rfl, rfl⟩))
  (try simp only [Act.put, sI, sZ, sS])
  go_loopg [0, 3] k (fun kq v0 v3 w' => ∃ (x0_0 : Int) (x3_0 : Int), v0 = .int .i64 x0_0 ∧ v3 = .int .i64 x3_0 ∧ Hid (i_alfilref01_Rank.l0 kq x0_0 x3_0 = some r1) ∧ Hid (kq ≤ k) ∧ w = w')
  case atStart => exact ⟨a0, (0 : Int), (by first | rfl | (simp; done) | (simp [*]; done)), (by first | rfl | (simp; done) | (simp [*]; done)), H', (hid (by first | omega | (omega))), rfl⟩
  case round =>
   clear H'
   skip
   obtain ⟨x0_0, x3_0, rfl, rfl, HA, HK5, rfl⟩ := hrel
   cases gk with
   | zero => exact absurd HA.out (by simp [i_alfilref01_Rank.l0])
   | succ k6 =>
    have H := HA.out
    clear HA
    simp only [i_alfilref01_Rank.l0] at H
    by_cases c7 : x0_0 ≥ 8
    ·
     rw [if_pos c7] at H
     have c7b0 : decide (8 ≤ x0_0) = true := decide_eq_true c7
     have hc7 := hid c7
     clear c7
     have H' := hid H
     clear H
     go_wp2_with fail
     (try simp only [Act.put, sI, sZ, sS])
     go_roundg k6
     case measure => have := HK5.out; omega
     case rel => exact ⟨wrap64 (x0_0 - 8), wrap64 (x3_0 + 1), (by first | rfl | (simp; done) | (simp [*]; done)), (by first | rfl | (simp; done) | (simp [*]; done)), H', (hid (by first | omega | (have := HK5.out; omega))), rfl⟩
    ·
     rw [if_neg c7] at H
     have c7b0 : decide (8 ≤ x0_0) = false := decide_eq_false c7
     have hc7 := hid c7
     clear c7
     obtain rfl := Option.some.inj H
     clear H
     go_wp2_with fail
     (try simp only [Act.put, sI, sZ, sS])
     go_ret
     exact ⟨by first | rfl | (simp; done) | (simp [*]; done), rfl⟩
 | false =>
  rw [if_neg (show ¬ (false = true) by decide)] at H
  obtain rfl := Option.some.inj H
  clear H
  go_enter Try.func77, Try.ntmps77
  have k8 := True.intro
  go_wp2_with (first
   | (go_at_call 94; clear k8; refine (i_alfilref01_Right.calls a0 false _ A2.out).mono ?_; rintro e_ w' ⟨rfl, rfl⟩))
  (try simp only [Act.put, sI, sZ, sS])
  go_ret
  exact ⟨by first | rfl | (simp; done) | (simp [*]; done), rfl⟩
/-! i_alfilref24_match: function 75 -/
mutual
def i_alfilref24_match.l0 : Nat → List Int → Int → Int → List Bool → Int → Int → Int → Option (Int)
  | 0, _, _, _, _, _, _, _ => none
  | k + 1, a0, a1, a2, a3, t4, x9_0, x11_0 => if x11_0 < 8 then (if 0 ≤ a2 then (if a2 < (a0.length : Int) then ((i_alfilref01_File.f k (nt a0 a2.toNat 0)).bind fun t18 => (if (wrap64 (t18 - x11_0)) < 0 then (if 0 ≤ x11_0 then (if x11_0 < (a3.length : Int) then (if (nt a3 x11_0.toNat false) = true then (if (wrap64 (-(wrap64 (t18 - x11_0)))) > (wrap64 (6 - t4)) then (i_alfilref24_match.l0 k a0 a1 a2 a3 t4 x9_0 (wrap64 (x11_0 + 1))) else (if (wrap64 (6 - t4)) > 5 then (i_alfilref24_match.l0 k a0 a1 a2 a3 t4 x9_0 (wrap64 (x11_0 + 1))) else (if 0 < a3.length then (if a3.length < 140737488355328 then ((i_alfilref24_match.f k a0 a1 (wrap64 (a2 + 1)) (a3.set x11_0.toNat false)).bind fun t23 => (if t23 ≥ 0 then (if x9_0 < 0 then (i_alfilref24_match.l0 k a0 a1 a2 a3 t4 (wrap64 (t23 + (wrap64 (-(wrap64 (t18 - x11_0)))))) (wrap64 (x11_0 + 1))) else (if (wrap64 (t23 + (wrap64 (-(wrap64 (t18 - x11_0)))))) < x9_0 then (i_alfilref24_match.l0 k a0 a1 a2 a3 t4 (wrap64 (t23 + (wrap64 (-(wrap64 (t18 - x11_0)))))) (wrap64 (x11_0 + 1))) else (i_alfilref24_match.l0 k a0 a1 a2 a3 t4 x9_0 (wrap64 (x11_0 + 1))))) else (i_alfilref24_match.l0 k a0 a1 a2 a3 t4 x9_0 (wrap64 (x11_0 + 1))))) else (none)) else (none)))) else (i_alfilref24_match.l0 k a0 a1 a2 a3 t4 x9_0 (wrap64 (x11_0 + 1)))) else (none)) else (none)) else (if 0 ≤ x11_0 then (if x11_0 < (a3.length : Int) then (if (nt a3 x11_0.toNat false) = true then (if (wrap64 (t18 - x11_0)) > (wrap64 (6 - t4)) then (i_alfilref24_match.l0 k a0 a1 a2 a3 t4 x9_0 (wrap64 (x11_0 + 1))) else (if (wrap64 (6 - t4)) > 5 then (i_alfilref24_match.l0 k a0 a1 a2 a3 t4 x9_0 (wrap64 (x11_0 + 1))) else (if 0 < a3.length then (if a3.length < 140737488355328 then ((i_alfilref24_match.f k a0 a1 (wrap64 (a2 + 1)) (a3.set x11_0.toNat false)).bind fun t28 => (if t28 ≥ 0 then (if x9_0 < 0 then (i_alfilref24_match.l0 k a0 a1 a2 a3 t4 (wrap64 (t28 + (wrap64 (t18 - x11_0)))) (wrap64 (x11_0 + 1))) else (if (wrap64 (t28 + (wrap64 (t18 - x11_0)))) < x9_0 then (i_alfilref24_match.l0 k a0 a1 a2 a3 t4 (wrap64 (t28 + (wrap64 (t18 - x11_0)))) (wrap64 (x11_0 + 1))) else (i_alfilref24_match.l0 k a0 a1 a2 a3 t4 x9_0 (wrap64 (x11_0 + 1))))) else (i_alfilref24_match.l0 k a0 a1 a2 a3 t4 x9_0 (wrap64 (x11_0 + 1))))) else (none)) else (none)))) else (i_alfilref24_match.l0 k a0 a1 a2 a3 t4 x9_0 (wrap64 (x11_0 + 1)))) else (none)) else (none)))) else (none)) else (none)) else (some x9_0)
def i_alfilref24_match.l1 : Nat → List Int → Int → Int → List Bool → Int → Int → Int → Option (Int)
  | 0, _, _, _, _, _, _, _ => none
  | k + 1, a0, a1, a2, a3, t2, x9_1, x11_1 => if x11_1 < 8 then (if 0 ≤ a2 then (if a2 < (a0.length : Int) then ((i_alfilref01_File.f k (nt a0 a2.toNat 0)).bind fun t42 => (if (wrap64 (t42 - x11_1)) < 0 then (if 0 ≤ x11_1 then (if x11_1 < (a3.length : Int) then (if (nt a3 x11_1.toNat false) = true then (if (wrap64 (-(wrap64 (t42 - x11_1)))) > (wrap64 (t2 - 1)) then (i_alfilref24_match.l1 k a0 a1 a2 a3 t2 x9_1 (wrap64 (x11_1 + 1))) else (if (wrap64 (t2 - 1)) > 5 then (i_alfilref24_match.l1 k a0 a1 a2 a3 t2 x9_1 (wrap64 (x11_1 + 1))) else (if 0 < a3.length then (if a3.length < 140737488355328 then ((i_alfilref24_match.f k a0 a1 (wrap64 (a2 + 1)) (a3.set x11_1.toNat false)).bind fun t47 => (if t47 ≥ 0 then (if x9_1 < 0 then (i_alfilref24_match.l1 k a0 a1 a2 a3 t2 (wrap64 (t47 + (wrap64 (-(wrap64 (t42 - x11_1)))))) (wrap64 (x11_1 + 1))) else (if (wrap64 (t47 + (wrap64 (-(wrap64 (t42 - x11_1)))))) < x9_1 then (i_alfilref24_match.l1 k a0 a1 a2 a3 t2 (wrap64 (t47 + (wrap64 (-(wrap64 (t42 - x11_1)))))) (wrap64 (x11_1 + 1))) else (i_alfilref24_match.l1 k a0 a1 a2 a3 t2 x9_1 (wrap64 (x11_1 + 1))))) else (i_alfilref24_match.l1 k a0 a1 a2 a3 t2 x9_1 (wrap64 (x11_1 + 1))))) else (none)) else (none)))) else (i_alfilref24_match.l1 k a0 a1 a2 a3 t2 x9_1 (wrap64 (x11_1 + 1)))) else (none)) else (none)) else (if 0 ≤ x11_1 then (if x11_1 < (a3.length : Int) then (if (nt a3 x11_1.toNat false) = true then (if (wrap64 (t42 - x11_1)) > (wrap64 (t2 - 1)) then (i_alfilref24_match.l1 k a0 a1 a2 a3 t2 x9_1 (wrap64 (x11_1 + 1))) else (if (wrap64 (t2 - 1)) > 5 then (i_alfilref24_match.l1 k a0 a1 a2 a3 t2 x9_1 (wrap64 (x11_1 + 1))) else (if 0 < a3.length then (if a3.length < 140737488355328 then ((i_alfilref24_match.f k a0 a1 (wrap64 (a2 + 1)) (a3.set x11_1.toNat false)).bind fun t52 => (if t52 ≥ 0 then (if x9_1 < 0 then (i_alfilref24_match.l1 k a0 a1 a2 a3 t2 (wrap64 (t52 + (wrap64 (t42 - x11_1)))) (wrap64 (x11_1 + 1))) else (if (wrap64 (t52 + (wrap64 (t42 - x11_1)))) < x9_1 then (i_alfilref24_match.l1 k a0 a1 a2 a3 t2 (wrap64 (t52 + (wrap64 (t42 - x11_1)))) (wrap64 (x11_1 + 1))) else (i_alfilref24_match.l1 k a0 a1 a2 a3 t2 x9_1 (wrap64 (x11_1 + 1))))) else (i_alfilref24_match.l1 k a0 a1 a2 a3 t2 x9_1 (wrap64 (x11_1 + 1))))) else (none)) else (none)))) else (i_alfilref24_match.l1 k a0 a1 a2 a3 t2 x9_1 (wrap64 (x11_1 + 1)))) else (none)) else (none)))) else (none)) else (none)) else (some x9_1)
def i_alfilref24_match.f : Nat → List Int → Int → Int → List Bool → Option (Int)
  | 0, _, _, _, _ => none
  | k + 1, a0, a1, a2, a3 => if a2 = (a0.length : Int) then (some 0) else (if 0 ≤ a2 then (if a2 < (a0.length : Int) then ((i_alfilref01_Rank.f k (nt a0 a2.toNat 0)).bind fun t2 => (if a1 = 1 then ((i_alfilref01_Rank.f k (nt a0 a2.toNat 0)).bind fun t4 => (i_alfilref24_match.l0 k a0 a1 a2 a3 t4 (-1) 0)) else (i_alfilref24_match.l1 k a0 a1 a2 a3 t2 (-1) 0))) else (none)) else (none))
end
set_option maxHeartbeats 40000000 in
set_option maxRecDepth 100000 in
theorem i_alfilref24_match.callsR (k : Nat) : ∀ (v0_ : Value) (a0 : List Int) (a1 : Int) (a2 : Int) (v3_ : Value) (a3 : List Bool) (r1 : Int) (w : World) (hs0 : Sl w v0_ (a0.map (Value.int .i64))) (hs3 : Sl w v3_ (a3.map Value.bool)) (h : i_alfilref24_match.f k a0 a1 a2 a3 = some r1),
    Calls Try.prog 75 #[v0_, .int .i64 a1, .int .i64 a2, v3_] w fun e w' => e = .returned (.int .i64 r1) ∧ Below w.heap.size w w' := by
 induction k using Nat.strongRecOn with
 | _ k IH =>
 intro v0_ a0 a1 a2 v3_ a3 r1 w hs0 hs3 h
 cases k with
 | zero => exact absurd h (by simp [i_alfilref24_match.f])
 | succ k =>
 have HL := hid (Below.refl w.heap.size w)
 have SP0 := hid hs0
 clear hs0
 have SP3 := hid hs3
 clear hs3
 have H := h
 clear h
 simp only [i_alfilref24_match.f] at H
 by_cases c53 : a2 = (a0.length : Int)
 ·
  rw [if_pos c53] at H
  have c53b0 : (a2 == (a0.length : Int)) = true := beq_iff_eq.mpr c53
  have c53b1 : (a2 != (a0.length : Int)) = false := bne_eq_false_iff_eq.mpr c53
  have hc53 := hid c53
  clear c53
  obtain rfl := Option.some.inj H
  clear H
  go_enter Try.func75, Try.ntmps75
  go_wp2_with (first
   | ((with_reducible refine gate_d (N := 17) rfl ?_); obtain ⟨A54, c55, hv56⟩ := (SP0.out.below HL.out).shape; rw [List.length_map] at hv56; refine ag_fix (.int .i64 (a0.length : Int)) (ex_len us27 _ _ _ _ hv56 _ rfl rfl) rfl ?_; clear hv56))
  (try simp only [Act.put, sI, sZ, sS])
  go_ret
  exact ⟨by first | rfl | (simp; done) | (simp [*]; done), HL.out⟩
 ·
  rw [if_neg c53] at H
  have c53b0 : (a2 == (a0.length : Int)) = false := beq_eq_false_iff_ne.mpr c53
  have c53b1 : (a2 != (a0.length : Int)) = true := bne_iff_ne.mpr c53
  have hc53 := hid c53
  clear c53
  by_cases c57 : 0 ≤ a2
  ·
   rw [if_pos c57] at H
   have c57b0 : decide (0 ≤ a2) = true := decide_eq_true c57
   have hc57 := hid c57
   clear c57
   by_cases c58 : a2 < (a0.length : Int)
   ·
    rw [if_pos c58] at H
    have c58b0 : decide (a2 < (a0.length : Int)) = true := decide_eq_true c58
    have hc58 := hid c58
    clear c58
    replace H := Option.bind_eq_some_iff.mp H
    obtain ⟨t2, A59_, H⟩ := H
    have A59 := hid A59_
    clear A59_
    by_cases c60 : a1 = 1
    ·
     rw [if_pos c60] at H
     have c60b0 : (a1 == 1) = true := beq_iff_eq.mpr c60
     have c60b1 : (a1 != 1) = false := bne_eq_false_iff_eq.mpr c60
     have hc60 := hid c60
     clear c60
     replace H := Option.bind_eq_some_iff.mp H
     obtain ⟨t4, A61_, H⟩ := H
     have A61 := hid A61_
     clear A61_
     have H' := hid H
     clear H
     go_enter Try.func75, Try.ntmps75
     have k67 := True.intro
     have k70 := True.intro
     go_wp2_with (first
      | ((with_reducible refine gate_d (N := 17) rfl ?_); obtain ⟨A62, c63, hv64⟩ := (SP0.out.below HL.out).shape; rw [List.length_map] at hv64; refine ag_fix (.int .i64 (a0.length : Int)) (ex_len us27 _ _ _ _ hv64 _ rfl rfl) rfl ?_; clear hv64)
      | ((with_reducible refine gate_d (N := 21) rfl ?_); obtain ⟨ad1, c65, hv66, HCad1_⟩ := Sl.get (l := a0) (f := (Value.int .i64)) (SP0.out.below HL.out) 0 (i := a2) hc57.out hc58.out; have HCad1 := hid HCad1_; clear HCad1_; refine ag_fix (.pointer (some (ad1.add a2.toNat))) (ex_sat _ _ a2 _ _ hv66 hc57.out hc58.out us27 sT3 _ _ rfl rfl rfl) rfl ?_; have HVAad1 := hid hv66; clear hv66)
      | ((with_reducible refine gate_d (N := 22) rfl ?_); refine ag_fix (.int .i64 (nt a0 a2.toNat 0)) (ex_scell sT3 _ _ HCad1.out _ rfl rfl) rfl ?_)
      | (go_at_call 77; clear k67; refine (i_alfilref01_Rank.calls k (nt a0 a2.toNat 0) t2 _ A59.out).mono ?_; rintro e_ w' ⟨rfl, rfl⟩)
      | ((with_reducible refine gate_d (N := 29) rfl ?_); obtain ⟨ad3, c68, hv69, HCad3_⟩ := Sl.get (l := a0) (f := (Value.int .i64)) (SP0.out.below HL.out) 0 (i := a2) hc57.out hc58.out; have HCad3 := hid HCad3_; clear HCad3_; refine ag_fix (.pointer (some (ad3.add a2.toNat))) (ex_sat _ _ a2 _ _ hv69 hc57.out hc58.out us27 sT3 _ _ rfl rfl rfl) rfl ?_; have HVAad3 := hid hv69; clear hv69)
      | ((with_reducible refine gate_d (N := 30) rfl ?_); refine ag_fix (.int .i64 (nt a0 a2.toNat 0)) (ex_scell sT3 _ _ HCad3.out _ rfl rfl) rfl ?_)
      | (go_at_call 77; clear k70; refine (i_alfilref01_Rank.calls k (nt a0 a2.toNat 0) t4 _ A61.out).mono ?_; rintro e_ w' ⟨rfl, rfl⟩))
     (try simp only [Act.put, sI, sZ, sS])
     go_loopg [9, 11] k (fun kq v9 v11 w' => ∃ (x9_0 : Int) (x11_0 : Int), v9 = .int .i64 x9_0 ∧ v11 = .int .i64 x11_0 ∧ Hid (i_alfilref24_match.l0 kq a0 a1 a2 a3 t4 x9_0 x11_0 = some r1) ∧ Hid (kq ≤ k) ∧ Hid (Below w.heap.size w w'))
     case atStart => exact ⟨((-1) : Int), (0 : Int), (by first | rfl | (simp; done) | (simp [*]; done)), (by first | rfl | (simp; done) | (simp [*]; done)), H', (hid (by first | omega | (omega))), HL⟩
     case round =>
      clear H'
      clear HL
      obtain ⟨x9_0, x11_0, rfl, rfl, HA, HK71, HL⟩ := hrel
      cases gk with
      | zero => exact absurd HA.out (by simp [i_alfilref24_match.l0])
      | succ k72 =>
       have H := HA.out
       clear HA
       simp only [i_alfilref24_match.l0] at H
       by_cases c73 : x11_0 < 8
       ·
        rw [if_pos c73] at H
        have c73b0 : decide (x11_0 < 8) = true := decide_eq_true c73
        have hc73 := hid c73
        clear c73
        by_cases c74 : 0 ≤ a2
        ·
         rw [if_pos c74] at H
         have c74b0 : decide (0 ≤ a2) = true := decide_eq_true c74
         have hc74 := hid c74
         clear c74
         by_cases c75 : a2 < (a0.length : Int)
         ·
          rw [if_pos c75] at H
          have c75b0 : decide (a2 < (a0.length : Int)) = true := decide_eq_true c75
          have hc75 := hid c75
          clear c75
          replace H := Option.bind_eq_some_iff.mp H
          obtain ⟨t18, A76_, H⟩ := H
          have A76 := hid A76_
          clear A76_
          by_cases c77 : (wrap64 (t18 - x11_0)) < 0
          ·
           rw [if_pos c77] at H
           have c77b0 : decide ((wrap64 (t18 - x11_0)) < 0) = true := decide_eq_true c77
           have hc77 := hid c77
           clear c77
           by_cases c78 : 0 ≤ x11_0
           ·
            rw [if_pos c78] at H
            have c78b0 : decide (0 ≤ x11_0) = true := decide_eq_true c78
            have hc78 := hid c78
            clear c78
            by_cases c79 : x11_0 < (a3.length : Int)
            ·
             rw [if_pos c79] at H
             have c79b0 : decide (x11_0 < (a3.length : Int)) = true := decide_eq_true c79
             have hc79 := hid c79
             clear c79
             by_cases c80 : (nt a3 x11_0.toNat false) = true
             ·
              rw [if_pos c80] at H
              have c80b0 : (nt a3 x11_0.toNat false) = true := c80
              have hc80 := hid c80
              clear c80
              by_cases c81 : (wrap64 (-(wrap64 (t18 - x11_0)))) > (wrap64 (6 - t4))
              ·
               rw [if_pos c81] at H
               have c81b0 : decide ((wrap64 (6 - t4)) < (wrap64 (-(wrap64 (t18 - x11_0))))) = true := decide_eq_true c81
               have hc81 := hid c81
               clear c81
               have H' := hid H
               clear H
               have k84 := True.intro
               go_wp2_with (first
                | ((with_reducible refine gate_d (N := 39) rfl ?_); obtain ⟨ad17, c82, hv83, HCad17_⟩ := Sl.get (l := a0) (f := (Value.int .i64)) (SP0.out.below HL.out) 0 (i := a2) hc74.out hc75.out; have HCad17 := hid HCad17_; clear HCad17_; refine ag_fix (.pointer (some (ad17.add a2.toNat))) (ex_sat _ _ a2 _ _ hv83 hc74.out hc75.out us27 sT3 _ _ rfl rfl rfl) rfl ?_; have HVAad17 := hid hv83; clear hv83)
                | ((with_reducible refine gate_d (N := 40) rfl ?_); refine ag_fix (.int .i64 (nt a0 a2.toNat 0)) (ex_scell sT3 _ _ HCad17.out _ rfl rfl) rfl ?_)
                | (go_at_call 76; clear k84; refine (i_alfilref01_File.calls k72 (nt a0 a2.toNat 0) t18 _ A76.out).mono ?_; rintro e_ w' ⟨rfl, rfl⟩)
                | ((with_reducible refine gate_d (N := 50) rfl ?_); obtain ⟨ad19, c85, hv86, HCad19_⟩ := Sl.get (l := a3) (f := Value.bool) (SP3.out.below HL.out) false (i := x11_0) hc78.out hc79.out; have HCad19 := hid HCad19_; clear HCad19_; refine ag_fix (.pointer (some (ad19.add x11_0.toNat))) (ex_sat _ _ x11_0 _ _ hv86 hc78.out hc79.out us119 sT4 _ _ rfl rfl rfl) rfl ?_; have HVAad19 := hid hv86; clear hv86)
                | ((with_reducible refine gate_d (N := 51) rfl ?_); refine ag_fix (.bool (nt a3 x11_0.toNat false)) (ex_scell sT4 _ _ HCad19.out _ rfl rfl) rfl ?_))
               (try simp only [Act.put, sI, sZ, sS])
               go_roundg k72
               case measure => have := HK71.out; omega
               case rel => exact ⟨x9_0, wrap64 (x11_0 + 1), (by first | rfl | (simp; done) | (simp [*]; done)), (by first | rfl | (simp; done) | (simp [*]; done)), H', (hid (by first | omega | (have := HK71.out; omega))), HL⟩
              ·
               rw [if_neg c81] at H
               have c81b0 : decide ((wrap64 (6 - t4)) < (wrap64 (-(wrap64 (t18 - x11_0))))) = false := decide_eq_false c81
               have hc81 := hid c81
               clear c81
               by_cases c87 : (wrap64 (6 - t4)) > 5
               ·
                rw [if_pos c87] at H
                have c87b0 : decide (5 < (wrap64 (6 - t4))) = true := decide_eq_true c87
                have hc87 := hid c87
                clear c87
                have H' := hid H
                clear H
                have k90 := True.intro
                go_wp2_with (first
                 | ((with_reducible refine gate_d (N := 39) rfl ?_); obtain ⟨ad17, c88, hv89, HCad17_⟩ := Sl.get (l := a0) (f := (Value.int .i64)) (SP0.out.below HL.out) 0 (i := a2) hc74.out hc75.out; have HCad17 := hid HCad17_; clear HCad17_; refine ag_fix (.pointer (some (ad17.add a2.toNat))) (ex_sat _ _ a2 _ _ hv89 hc74.out hc75.out us27 sT3 _ _ rfl rfl rfl) rfl ?_; have HVAad17 := hid hv89; clear hv89)
                 | ((with_reducible refine gate_d (N := 40) rfl ?_); refine ag_fix (.int .i64 (nt a0 a2.toNat 0)) (ex_scell sT3 _ _ HCad17.out _ rfl rfl) rfl ?_)
                 | (go_at_call 76; clear k90; refine (i_alfilref01_File.calls k72 (nt a0 a2.toNat 0) t18 _ A76.out).mono ?_; rintro e_ w' ⟨rfl, rfl⟩)
                 | ((with_reducible refine gate_d (N := 50) rfl ?_); obtain ⟨ad19, c91, hv92, HCad19_⟩ := Sl.get (l := a3) (f := Value.bool) (SP3.out.below HL.out) false (i := x11_0) hc78.out hc79.out; have HCad19 := hid HCad19_; clear HCad19_; refine ag_fix (.pointer (some (ad19.add x11_0.toNat))) (ex_sat _ _ x11_0 _ _ hv92 hc78.out hc79.out us119 sT4 _ _ rfl rfl rfl) rfl ?_; have HVAad19 := hid hv92; clear hv92)
                 | ((with_reducible refine gate_d (N := 51) rfl ?_); refine ag_fix (.bool (nt a3 x11_0.toNat false)) (ex_scell sT4 _ _ HCad19.out _ rfl rfl) rfl ?_))
                (try simp only [Act.put, sI, sZ, sS])
                go_roundg k72
                case measure => have := HK71.out; omega
                case rel => exact ⟨x9_0, wrap64 (x11_0 + 1), (by first | rfl | (simp; done) | (simp [*]; done)), (by first | rfl | (simp; done) | (simp [*]; done)), H', (hid (by first | omega | (have := HK71.out; omega))), HL⟩
               ·
                rw [if_neg c87] at H
                have c87b0 : decide (5 < (wrap64 (6 - t4))) = false := decide_eq_false c87
                have hc87 := hid c87
                clear c87
                by_cases c93 : 0 < a3.length
                ·
                 rw [if_pos c93] at H
                 have c93b0 : decide (0 < a3.length) = true := decide_eq_true c93
                 have hc93 := hid c93
                 clear c93
                 by_cases c94 : a3.length < 140737488355328
                 ·
                  rw [if_pos c94] at H
                  have c94b0 : decide (a3.length < 140737488355328) = true := decide_eq_true c94
                  have hc94 := hid c94
                  clear c94
                  have H' := hid H
                  clear H
                  have k98 := True.intro
                  have k102 := True.intro
                  go_wp2_with (first
                   | ((with_reducible refine gate_d (N := 39) rfl ?_); obtain ⟨ad17, c96, hv97, HCad17_⟩ := Sl.get (l := a0) (f := (Value.int .i64)) (SP0.out.below HL.out) 0 (i := a2) hc74.out hc75.out; have HCad17 := hid HCad17_; clear HCad17_; refine ag_fix (.pointer (some (ad17.add a2.toNat))) (ex_sat _ _ a2 _ _ hv97 hc74.out hc75.out us27 sT3 _ _ rfl rfl rfl) rfl ?_; have HVAad17 := hid hv97; clear hv97)
                   | ((with_reducible refine gate_d (N := 40) rfl ?_); refine ag_fix (.int .i64 (nt a0 a2.toNat 0)) (ex_scell sT3 _ _ HCad17.out _ rfl rfl) rfl ?_)
                   | (go_at_call 76; clear k98; refine (i_alfilref01_File.calls k72 (nt a0 a2.toNat 0) t18 _ A76.out).mono ?_; rintro e_ w' ⟨rfl, rfl⟩)
                   | ((with_reducible refine gate_d (N := 50) rfl ?_); obtain ⟨ad19, c99, hv100, HCad19_⟩ := Sl.get (l := a3) (f := Value.bool) (SP3.out.below HL.out) false (i := x11_0) hc78.out hc79.out; have HCad19 := hid HCad19_; clear HCad19_; refine ag_fix (.pointer (some (ad19.add x11_0.toNat))) (ex_sat _ _ x11_0 _ _ hv100 hc78.out hc79.out us119 sT4 _ _ rfl rfl rfl) rfl ?_; have HVAad19 := hid hv100; clear hv100)
                   | ((with_reducible refine gate_d (N := 51) rfl ?_); refine ag_fix (.bool (nt a3 x11_0.toNat false)) (ex_scell sT4 _ _ HCad19.out _ rfl rfl) rfl ?_)
                   | (at_builtin; clear k102; refine app_src eT119 w.heap.size (.slice none 0 0) (v3_) [] (a3.map Value.bool) (Own.nil _ _ _) (SP3.out.below HL.out) (by have h1_ := hc93.out; rw [List.length_map]; omega) (by intro u_ hu_; rw [List.mem_map] at hu_; obtain ⟨_, _, rfl⟩ := hu_; rfl) (by have h1_ := hc93.out; have h2_ := hc94.out; simp only [List.length_map, List.length_nil]; omega) (by have h1_ := hc93.out; have h2_ := hc94.out; simp only [List.length_map, List.length_nil]; unfold maxLen; omega) HL.out.size rfl _ _ rfl rfl rfl ?_; intro uo20 w101 ho_ hb_ hk_ hi_; have SWo20 : Hid (Own w101 w.heap.size 4 (uo20) (a3.map Value.bool)) := hid (by rw [List.nil_append] at ho_; exact ho_); replace HL := hid (HL.out.trans hb_); clear ho_ hb_ hk_ hi_)
                   | ((with_reducible refine gate_d (N := 67) rfl ?_); obtain ⟨ad21, c103, hv104, HCad21_⟩ := Sl.get (l := a3) (f := Value.bool) SWo20.out.sl false (i := x11_0) hc78.out hc79.out; have HCad21 := hid HCad21_; clear HCad21_; refine ag_fix (.pointer (some (ad21.add x11_0.toNat))) (ex_sat _ _ x11_0 _ _ hv104 hc78.out hc79.out us119 sT4 _ _ rfl rfl rfl) rfl ?_; have HVAad21 := hid hv104; clear hv104)
                   | ((with_reducible refine gate_s (t := 4) (p := 67) rfl ?_); refine ag_sset (f := Value.bool) sT4 w.heap.size uo20 x11_0 false SWo20.out HVAad21.out hc78.out hc79.out rfl rfl rfl _ _ rfl rfl rfl ?_; intro w105 ho_ hb_ hk_ hi_; clear SWo20; have SWo22 : Hid (Own w105 w.heap.size 4 (uo20) ((a3.set x11_0.toNat false).map Value.bool)) := hid ho_; replace HL := hid (HL.out.trans hb_); clear ho_ hb_ hk_ hi_))
                  (try simp only [Act.put, sI, sZ, sS])
                  have H := H'.out
                  clear H'
                  replace H := Option.bind_eq_some_iff.mp H
                  obtain ⟨t23, A95_, H⟩ := H
                  have A95 := hid A95_
                  clear A95_
                  by_cases c106 : t23 ≥ 0
                  ·
                   rw [if_pos c106] at H
                   have c106b0 : decide (0 ≤ t23) = true := decide_eq_true c106
                   have hc106 := hid c106
                   clear c106
                   by_cases c107 : x9_0 < 0
                   ·
                    rw [if_pos c107] at H
                    have c107b0 : decide (x9_0 < 0) = true := decide_eq_true c107
                    have hc107 := hid c107
                    clear c107
                    have H' := hid H
                    clear H
                    have k108 := True.intro
                    go_wp2_with (first
                     | (go_at_call 75; clear k108; refine (IH k72 (by have := HK71.out; omega) (v0_) a0 a1 (wrap64 (a2 + 1)) (uo20) (a3.set x11_0.toNat false) t23 _ (SP0.out.below HL.out) SWo22.out.sl A95.out).mono ?_; rintro e_ w109 ⟨rfl, hb_⟩; replace SWo22 := hid (SWo22.out.below hb_); replace HL := hid (HL.out.trans (hb_.mono HL.out.size)); clear hb_))
                    (try simp only [Act.put, sI, sZ, sS])
                    go_roundg k72
                    case measure => have := HK71.out; omega
                    case rel => exact ⟨wrap64 (t23 + (wrap64 (-(wrap64 (t18 - x11_0))))), wrap64 (x11_0 + 1), (by first | rfl | (simp; done) | (simp [*]; done)), (by first | rfl | (simp; done) | (simp [*]; done)), H', (hid (by first | omega | (have := HK71.out; omega))), HL⟩
                   ·
                    rw [if_neg c107] at H
                    have c107b0 : decide (x9_0 < 0) = false := decide_eq_false c107
                    have hc107 := hid c107
                    clear c107
                    by_cases c110 : (wrap64 (t23 + (wrap64 (-(wrap64 (t18 - x11_0)))))) < x9_0
                    ·
                     rw [if_pos c110] at H
                     have c110b0 : decide ((wrap64 (t23 + (wrap64 (-(wrap64 (t18 - x11_0)))))) < x9_0) = true := decide_eq_true c110
                     have hc110 := hid c110
                     clear c110
                     have H' := hid H
                     clear H
                     have k111 := True.intro
                     go_wp2_with (first
                      | (go_at_call 75; clear k111; refine (IH k72 (by have := HK71.out; omega) (v0_) a0 a1 (wrap64 (a2 + 1)) (uo20) (a3.set x11_0.toNat false) t23 _ (SP0.out.below HL.out) SWo22.out.sl A95.out).mono ?_; rintro e_ w112 ⟨rfl, hb_⟩; replace SWo22 := hid (SWo22.out.below hb_); replace HL := hid (HL.out.trans (hb_.mono HL.out.size)); clear hb_))
                     (try simp only [Act.put, sI, sZ, sS])
                     go_roundg k72
                     case measure => have := HK71.out; omega
                     case rel => exact ⟨wrap64 (t23 + (wrap64 (-(wrap64 (t18 - x11_0))))), wrap64 (x11_0 + 1), (by first | rfl | (simp; done) | (simp [*]; done)), (by first | rfl | (simp; done) | (simp [*]; done)), H', (hid (by first | omega | (have := HK71.out; omega))), HL⟩
                    ·
                     rw [if_neg c110] at H
                     have c110b0 : decide ((wrap64 (t23 + (wrap64 (-(wrap64 (t18 - x11_0)))))) < x9_0) = false := decide_eq_false c110
                     have hc110 := hid c110
                     clear c110
                     have H' := hid H
                     clear H
                     have k113 := True.intro
                     go_wp2_with (first
                      | (go_at_call 75; clear k113; refine (IH k72 (by have := HK71.out; omega) (v0_) a0 a1 (wrap64 (a2 + 1)) (uo20) (a3.set x11_0.toNat false) t23 _ (SP0.out.below HL.out) SWo22.out.sl A95.out).mono ?_; rintro e_ w114 ⟨rfl, hb_⟩; replace SWo22 := hid (SWo22.out.below hb_); replace HL := hid (HL.out.trans (hb_.mono HL.out.size)); clear hb_))
                     (try simp only [Act.put, sI, sZ, sS])
                     go_roundg k72
                     case measure => have := HK71.out; omega
                     case rel => exact ⟨x9_0, wrap64 (x11_0 + 1), (by first | rfl | (simp; done) | (simp [*]; done)), (by first | rfl | (simp; done) | (simp [*]; done)), H', (hid (by first | omega | (have := HK71.out; omega))), HL⟩
                  ·
                   rw [if_neg c106] at H
                   have c106b0 : decide (0 ≤ t23) = false := decide_eq_false c106
                   have hc106 := hid c106
                   clear c106
                   have H' := hid H
                   clear H
                   have k115 := True.intro
                   go_wp2_with (first
                    | (go_at_call 75; clear k115; refine (IH k72 (by have := HK71.out; omega) (v0_) a0 a1 (wrap64 (a2 + 1)) (uo20) (a3.set x11_0.toNat false) t23 _ (SP0.out.below HL.out) SWo22.out.sl A95.out).mono ?_; rintro e_ w116 ⟨rfl, hb_⟩; replace SWo22 := hid (SWo22.out.below hb_); replace HL := hid (HL.out.trans (hb_.mono HL.out.size)); clear hb_))
                   (try simp only [Act.put, sI, sZ, sS])
                   go_roundg k72
                   case measure => have := HK71.out; omega
                   case rel => exact ⟨x9_0, wrap64 (x11_0 + 1), (by first | rfl | (simp; done) | (simp [*]; done)), (by first | rfl | (simp; done) | (simp [*]; done)), H', (hid (by first | omega | (have := HK71.out; omega))), HL⟩
                 ·
                  rw [if_neg c94] at H
                  exact absurd H (by simp)
                ·
                 rw [if_neg c93] at H
                 exact absurd H (by simp)
             ·
              rw [if_neg c80] at H
              have c80b0 : (nt a3 x11_0.toNat false) = false := by simpa using c80
              have hc80 := hid c80
              clear c80
              have H' := hid H
              clear H
              have k119 := True.intro
              go_wp2_with (first
               | ((with_reducible refine gate_d (N := 39) rfl ?_); obtain ⟨ad17, c117, hv118, HCad17_⟩ := Sl.get (l := a0) (f := (Value.int .i64)) (SP0.out.below HL.out) 0 (i := a2) hc74.out hc75.out; have HCad17 := hid HCad17_; clear HCad17_; refine ag_fix (.pointer (some (ad17.add a2.toNat))) (ex_sat _ _ a2 _ _ hv118 hc74.out hc75.out us27 sT3 _ _ rfl rfl rfl) rfl ?_; have HVAad17 := hid hv118; clear hv118)
               | ((with_reducible refine gate_d (N := 40) rfl ?_); refine ag_fix (.int .i64 (nt a0 a2.toNat 0)) (ex_scell sT3 _ _ HCad17.out _ rfl rfl) rfl ?_)
               | (go_at_call 76; clear k119; refine (i_alfilref01_File.calls k72 (nt a0 a2.toNat 0) t18 _ A76.out).mono ?_; rintro e_ w' ⟨rfl, rfl⟩)
               | ((with_reducible refine gate_d (N := 50) rfl ?_); obtain ⟨ad19, c120, hv121, HCad19_⟩ := Sl.get (l := a3) (f := Value.bool) (SP3.out.below HL.out) false (i := x11_0) hc78.out hc79.out; have HCad19 := hid HCad19_; clear HCad19_; refine ag_fix (.pointer (some (ad19.add x11_0.toNat))) (ex_sat _ _ x11_0 _ _ hv121 hc78.out hc79.out us119 sT4 _ _ rfl rfl rfl) rfl ?_; have HVAad19 := hid hv121; clear hv121)
               | ((with_reducible refine gate_d (N := 51) rfl ?_); refine ag_fix (.bool (nt a3 x11_0.toNat false)) (ex_scell sT4 _ _ HCad19.out _ rfl rfl) rfl ?_))
              (try simp only [Act.put, sI, sZ, sS])
              go_roundg k72
              case measure => have := HK71.out; omega
              case rel => exact ⟨x9_0, wrap64 (x11_0 + 1), (by first | rfl | (simp; done) | (simp [*]; done)), (by first | rfl | (simp; done) | (simp [*]; done)), H', (hid (by first | omega | (have := HK71.out; omega))), HL⟩
            ·
             rw [if_neg c79] at H
             exact absurd H (by simp)
           ·
            rw [if_neg c78] at H
            exact absurd H (by simp)
          ·
           rw [if_neg c77] at H
           have c77b0 : decide ((wrap64 (t18 - x11_0)) < 0) = false := decide_eq_false c77
           have hc77 := hid c77
           clear c77
           by_cases c122 : 0 ≤ x11_0
           ·
            rw [if_pos c122] at H
            have c122b0 : decide (0 ≤ x11_0) = true := decide_eq_true c122
            have hc122 := hid c122
            clear c122
            by_cases c123 : x11_0 < (a3.length : Int)
            ·
             rw [if_pos c123] at H
             have c123b0 : decide (x11_0 < (a3.length : Int)) = true := decide_eq_true c123
             have hc123 := hid c123
             clear c123
             by_cases c124 : (nt a3 x11_0.toNat false) = true
             ·
              rw [if_pos c124] at H
              have c124b0 : (nt a3 x11_0.toNat false) = true := c124
              have hc124 := hid c124
              clear c124
              by_cases c125 : (wrap64 (t18 - x11_0)) > (wrap64 (6 - t4))
              ·
               rw [if_pos c125] at H
               have c125b0 : decide ((wrap64 (6 - t4)) < (wrap64 (t18 - x11_0))) = true := decide_eq_true c125
               have hc125 := hid c125
               clear c125
               have H' := hid H
               clear H
               have k128 := True.intro
               go_wp2_with (first
                | ((with_reducible refine gate_d (N := 39) rfl ?_); obtain ⟨ad17, c126, hv127, HCad17_⟩ := Sl.get (l := a0) (f := (Value.int .i64)) (SP0.out.below HL.out) 0 (i := a2) hc74.out hc75.out; have HCad17 := hid HCad17_; clear HCad17_; refine ag_fix (.pointer (some (ad17.add a2.toNat))) (ex_sat _ _ a2 _ _ hv127 hc74.out hc75.out us27 sT3 _ _ rfl rfl rfl) rfl ?_; have HVAad17 := hid hv127; clear hv127)
                | ((with_reducible refine gate_d (N := 40) rfl ?_); refine ag_fix (.int .i64 (nt a0 a2.toNat 0)) (ex_scell sT3 _ _ HCad17.out _ rfl rfl) rfl ?_)
                | (go_at_call 76; clear k128; refine (i_alfilref01_File.calls k72 (nt a0 a2.toNat 0) t18 _ A76.out).mono ?_; rintro e_ w' ⟨rfl, rfl⟩)
                | ((with_reducible refine gate_d (N := 50) rfl ?_); obtain ⟨ad24, c129, hv130, HCad24_⟩ := Sl.get (l := a3) (f := Value.bool) (SP3.out.below HL.out) false (i := x11_0) hc122.out hc123.out; have HCad24 := hid HCad24_; clear HCad24_; refine ag_fix (.pointer (some (ad24.add x11_0.toNat))) (ex_sat _ _ x11_0 _ _ hv130 hc122.out hc123.out us119 sT4 _ _ rfl rfl rfl) rfl ?_; have HVAad24 := hid hv130; clear hv130)
                | ((with_reducible refine gate_d (N := 51) rfl ?_); refine ag_fix (.bool (nt a3 x11_0.toNat false)) (ex_scell sT4 _ _ HCad24.out _ rfl rfl) rfl ?_))
               (try simp only [Act.put, sI, sZ, sS])
               go_roundg k72
               case measure => have := HK71.out; omega
               case rel => exact ⟨x9_0, wrap64 (x11_0 + 1), (by first | rfl | (simp; done) | (simp [*]; done)), (by first | rfl | (simp; done) | (simp [*]; done)), H', (hid (by first | omega | (have := HK71.out; omega))), HL⟩
              ·
               rw [if_neg c125] at H
               have c125b0 : decide ((wrap64 (6 - t4)) < (wrap64 (t18 - x11_0))) = false := decide_eq_false c125
               have hc125 := hid c125
               clear c125
               by_cases c131 : (wrap64 (6 - t4)) > 5
               ·
                rw [if_pos c131] at H
                have c131b0 : decide (5 < (wrap64 (6 - t4))) = true := decide_eq_true c131
                have hc131 := hid c131
                clear c131
                have H' := hid H
                clear H
                have k134 := True.intro
                go_wp2_with (first
                 | ((with_reducible refine gate_d (N := 39) rfl ?_); obtain ⟨ad17, c132, hv133, HCad17_⟩ := Sl.get (l := a0) (f := (Value.int .i64)) (SP0.out.below HL.out) 0 (i := a2) hc74.out hc75.out; have HCad17 := hid HCad17_; clear HCad17_; refine ag_fix (.pointer (some (ad17.add a2.toNat))) (ex_sat _ _ a2 _ _ hv133 hc74.out hc75.out us27 sT3 _ _ rfl rfl rfl) rfl ?_; have HVAad17 := hid hv133; clear hv133)
                 | ((with_reducible refine gate_d (N := 40) rfl ?_); refine ag_fix (.int .i64 (nt a0 a2.toNat 0)) (ex_scell sT3 _ _ HCad17.out _ rfl rfl) rfl ?_)
                 | (go_at_call 76; clear k134; refine (i_alfilref01_File.calls k72 (nt a0 a2.toNat 0) t18 _ A76.out).mono ?_; rintro e_ w' ⟨rfl, rfl⟩)
                 | ((with_reducible refine gate_d (N := 50) rfl ?_); obtain ⟨ad24, c135, hv136, HCad24_⟩ := Sl.get (l := a3) (f := Value.bool) (SP3.out.below HL.out) false (i := x11_0) hc122.out hc123.out; have HCad24 := hid HCad24_; clear HCad24_; refine ag_fix (.pointer (some (ad24.add x11_0.toNat))) (ex_sat _ _ x11_0 _ _ hv136 hc122.out hc123.out us119 sT4 _ _ rfl rfl rfl) rfl ?_; have HVAad24 := hid hv136; clear hv136)
                 | ((with_reducible refine gate_d (N := 51) rfl ?_); refine ag_fix (.bool (nt a3 x11_0.toNat false)) (ex_scell sT4 _ _ HCad24.out _ rfl rfl) rfl ?_))
                (try simp only [Act.put, sI, sZ, sS])
                go_roundg k72
                case measure => have := HK71.out; omega
                case rel => exact ⟨x9_0, wrap64 (x11_0 + 1), (by first | rfl | (simp; done) | (simp [*]; done)), (by first | rfl | (simp; done) | (simp [*]; done)), H', (hid (by first | omega | (have := HK71.out; omega))), HL⟩
               ·
                rw [if_neg c131] at H
                have c131b0 : decide (5 < (wrap64 (6 - t4))) = false := decide_eq_false c131
                have hc131 := hid c131
                clear c131
                by_cases c137 : 0 < a3.length
                ·
                 rw [if_pos c137] at H
                 have c137b0 : decide (0 < a3.length) = true := decide_eq_true c137
                 have hc137 := hid c137
                 clear c137
                 by_cases c138 : a3.length < 140737488355328
                 ·
                  rw [if_pos c138] at H
                  have c138b0 : decide (a3.length < 140737488355328) = true := decide_eq_true c138
                  have hc138 := hid c138
                  clear c138
                  have H' := hid H
                  clear H
                  have k142 := True.intro
                  have k146 := True.intro
                  go_wp2_with (first
                   | ((with_reducible refine gate_d (N := 39) rfl ?_); obtain ⟨ad17, c140, hv141, HCad17_⟩ := Sl.get (l := a0) (f := (Value.int .i64)) (SP0.out.below HL.out) 0 (i := a2) hc74.out hc75.out; have HCad17 := hid HCad17_; clear HCad17_; refine ag_fix (.pointer (some (ad17.add a2.toNat))) (ex_sat _ _ a2 _ _ hv141 hc74.out hc75.out us27 sT3 _ _ rfl rfl rfl) rfl ?_; have HVAad17 := hid hv141; clear hv141)
                   | ((with_reducible refine gate_d (N := 40) rfl ?_); refine ag_fix (.int .i64 (nt a0 a2.toNat 0)) (ex_scell sT3 _ _ HCad17.out _ rfl rfl) rfl ?_)
                   | (go_at_call 76; clear k142; refine (i_alfilref01_File.calls k72 (nt a0 a2.toNat 0) t18 _ A76.out).mono ?_; rintro e_ w' ⟨rfl, rfl⟩)
                   | ((with_reducible refine gate_d (N := 50) rfl ?_); obtain ⟨ad24, c143, hv144, HCad24_⟩ := Sl.get (l := a3) (f := Value.bool) (SP3.out.below HL.out) false (i := x11_0) hc122.out hc123.out; have HCad24 := hid HCad24_; clear HCad24_; refine ag_fix (.pointer (some (ad24.add x11_0.toNat))) (ex_sat _ _ x11_0 _ _ hv144 hc122.out hc123.out us119 sT4 _ _ rfl rfl rfl) rfl ?_; have HVAad24 := hid hv144; clear hv144)
                   | ((with_reducible refine gate_d (N := 51) rfl ?_); refine ag_fix (.bool (nt a3 x11_0.toNat false)) (ex_scell sT4 _ _ HCad24.out _ rfl rfl) rfl ?_)
                   | (at_builtin; clear k146; refine app_src eT119 w.heap.size (.slice none 0 0) (v3_) [] (a3.map Value.bool) (Own.nil _ _ _) (SP3.out.below HL.out) (by have h1_ := hc137.out; rw [List.length_map]; omega) (by intro u_ hu_; rw [List.mem_map] at hu_; obtain ⟨_, _, rfl⟩ := hu_; rfl) (by have h1_ := hc137.out; have h2_ := hc138.out; simp only [List.length_map, List.length_nil]; omega) (by have h1_ := hc137.out; have h2_ := hc138.out; simp only [List.length_map, List.length_nil]; unfold maxLen; omega) HL.out.size rfl _ _ rfl rfl rfl ?_; intro uo25 w145 ho_ hb_ hk_ hi_; have SWo25 : Hid (Own w145 w.heap.size 4 (uo25) (a3.map Value.bool)) := hid (by rw [List.nil_append] at ho_; exact ho_); replace HL := hid (HL.out.trans hb_); clear ho_ hb_ hk_ hi_)
                   | ((with_reducible refine gate_d (N := 67) rfl ?_); obtain ⟨ad26, c147, hv148, HCad26_⟩ := Sl.get (l := a3) (f := Value.bool) SWo25.out.sl false (i := x11_0) hc122.out hc123.out; have HCad26 := hid HCad26_; clear HCad26_; refine ag_fix (.pointer (some (ad26.add x11_0.toNat))) (ex_sat _ _ x11_0 _ _ hv148 hc122.out hc123.out us119 sT4 _ _ rfl rfl rfl) rfl ?_; have HVAad26 := hid hv148; clear hv148)
                   | ((with_reducible refine gate_s (t := 4) (p := 67) rfl ?_); refine ag_sset (f := Value.bool) sT4 w.heap.size uo25 x11_0 false SWo25.out HVAad26.out hc122.out hc123.out rfl rfl rfl _ _ rfl rfl rfl ?_; intro w149 ho_ hb_ hk_ hi_; clear SWo25; have SWo27 : Hid (Own w149 w.heap.size 4 (uo25) ((a3.set x11_0.toNat false).map Value.bool)) := hid ho_; replace HL := hid (HL.out.trans hb_); clear ho_ hb_ hk_ hi_))
                  (try simp only [Act.put, sI, sZ, sS])
                  have H := H'.out
                  clear H'
                  replace H := Option.bind_eq_some_iff.mp H
                  obtain ⟨t28, A139_, H⟩ := H
                  have A139 := hid A139_
                  clear A139_
                  by_cases c150 : t28 ≥ 0
                  ·
                   rw [if_pos c150] at H
                   have c150b0 : decide (0 ≤ t28) = true := decide_eq_true c150
                   have hc150 := hid c150
                   clear c150
                   by_cases c151 : x9_0 < 0
                   ·
                    rw [if_pos c151] at H
                    have c151b0 : decide (x9_0 < 0) = true := decide_eq_true c151
                    have hc151 := hid c151
                    clear c151
                    have H' := hid H
                    clear H
                    have k152 := True.intro
                    go_wp2_with (first
                     | (go_at_call 75; clear k152; refine (IH k72 (by have := HK71.out; omega) (v0_) a0 a1 (wrap64 (a2 + 1)) (uo25) (a3.set x11_0.toNat false) t28 _ (SP0.out.below HL.out) SWo27.out.sl A139.out).mono ?_; rintro e_ w153 ⟨rfl, hb_⟩; replace SWo27 := hid (SWo27.out.below hb_); replace HL := hid (HL.out.trans (hb_.mono HL.out.size)); clear hb_))
                    (try simp only [Act.put, sI, sZ, sS])
                    go_roundg k72
                    case measure => have := HK71.out; omega
                    case rel => exact ⟨wrap64 (t28 + (wrap64 (t18 - x11_0))), wrap64 (x11_0 + 1), (by first | rfl | (simp; done) | (simp [*]; done)), (by first | rfl | (simp; done) | (simp [*]; done)), H', (hid (by first | omega | (have := HK71.out; omega))), HL⟩
                   ·
                    rw [if_neg c151] at H
                    have c151b0 : decide (x9_0 < 0) = false := decide_eq_false c151
                    have hc151 := hid c151
                    clear c151
                    by_cases c154 : (wrap64 (t28 + (wrap64 (t18 - x11_0)))) < x9_0
                    ·
                     rw [if_pos c154] at H
                     have c154b0 : decide ((wrap64 (t28 + (wrap64 (t18 - x11_0)))) < x9_0) = true := decide_eq_true c154
                     have hc154 := hid c154
                     clear c154
                     have H' := hid H
                     clear H
                     have k155 := True.intro
                     go_wp2_with (first
                      | (go_at_call 75; clear k155; refine (IH k72 (by have := HK71.out; omega) (v0_) a0 a1 (wrap64 (a2 + 1)) (uo25) (a3.set x11_0.toNat false) t28 _ (SP0.out.below HL.out) SWo27.out.sl A139.out).mono ?_; rintro e_ w156 ⟨rfl, hb_⟩; replace SWo27 := hid (SWo27.out.below hb_); replace HL := hid (HL.out.trans (hb_.mono HL.out.size)); clear hb_))
                     (try simp only [Act.put, sI, sZ, sS])
                     go_roundg k72
                     case measure => have := HK71.out; omega
                     case rel => exact ⟨wrap64 (t28 + (wrap64 (t18 - x11_0))), wrap64 (x11_0 + 1), (by first | rfl | (simp; done) | (simp [*]; done)), (by first | rfl | (simp; done) | (simp [*]; done)), H', (hid (by first | omega | (have := HK71.out; omega))), HL⟩
                    ·
                     rw [if_neg c154] at H
                     have c154b0 : decide ((wrap64 (t28 + (wrap64 (t18 - x11_0)))) < x9_0) = false := decide_eq_false c154
                     have hc154 := hid c154
                     clear c154
                     have H' := hid H
                     clear H
                     have k157 := True.intro
                     go_wp2_with (first
                      | (go_at_call 75; clear k157; refine (IH k72 (by have := HK71.out; omega) (v0_) a0 a1 (wrap64 (a2 + 1)) (uo25) (a3.set x11_0.toNat false) t28 _ (SP0.out.below HL.out) SWo27.out.sl A139.out).mono ?_; rintro e_ w158 ⟨rfl, hb_⟩; replace SWo27 := hid (SWo27.out.below hb_); replace HL := hid (HL.out.trans (hb_.mono HL.out.size)); clear hb_))
                     (try simp only [Act.put, sI, sZ, sS])
                     go_roundg k72
                     case measure => have := HK71.out; omega
                     case rel => exact ⟨x9_0, wrap64 (x11_0 + 1), (by first | rfl | (simp; done) | (simp [*]; done)), (by first | rfl | (simp; done) | (simp [*]; done)), H', (hid (by first | omega | (have := HK71.out; omega))), HL⟩
                  ·
                   rw [if_neg c150] at H
                   have c150b0 : decide (0 ≤ t28) = false := decide_eq_false c150
                   have hc150 := hid c150
                   clear c150
                   have H' := hid H
                   clear H
                   have k159 := True.intro
                   go_wp2_with (first
                    | (go_at_call 75; clear k159; refine (IH k72 (by have := HK71.out; omega) (v0_) a0 a1 (wrap64 (a2 + 1)) (uo25) (a3.set x11_0.toNat false) t28 _ (SP0.out.below HL.out) SWo27.out.sl A139.out).mono ?_; rintro e_ w160 ⟨rfl, hb_⟩; replace SWo27 := hid (SWo27.out.below hb_); replace HL := hid (HL.out.trans (hb_.mono HL.out.size)); clear hb_))
                   (try simp only [Act.put, sI, sZ, sS])
                   go_roundg k72
                   case measure => have := HK71.out; omega
                   case rel => exact ⟨x9_0, wrap64 (x11_0 + 1), (by first | rfl | (simp; done) | (simp [*]; done)), (by first | rfl | (simp; done) | (simp [*]; done)), H', (hid (by first | omega | (have := HK71.out; omega))), HL⟩
                 ·
                  rw [if_neg c138] at H
                  exact absurd H (by simp)
                ·
                 rw [if_neg c137] at H
                 exact absurd H (by simp)
             ·
              rw [if_neg c124] at H
              have c124b0 : (nt a3 x11_0.toNat false) = false := by simpa using c124
              have hc124 := hid c124
              clear c124
              have H' := hid H
              clear H
              have k163 := True.intro
              go_wp2_with (first
               | ((with_reducible refine gate_d (N := 39) rfl ?_); obtain ⟨ad17, c161, hv162, HCad17_⟩ := Sl.get (l := a0) (f := (Value.int .i64)) (SP0.out.below HL.out) 0 (i := a2) hc74.out hc75.out; have HCad17 := hid HCad17_; clear HCad17_; refine ag_fix (.pointer (some (ad17.add a2.toNat))) (ex_sat _ _ a2 _ _ hv162 hc74.out hc75.out us27 sT3 _ _ rfl rfl rfl) rfl ?_; have HVAad17 := hid hv162; clear hv162)
               | ((with_reducible refine gate_d (N := 40) rfl ?_); refine ag_fix (.int .i64 (nt a0 a2.toNat 0)) (ex_scell sT3 _ _ HCad17.out _ rfl rfl) rfl ?_)
               | (go_at_call 76; clear k163; refine (i_alfilref01_File.calls k72 (nt a0 a2.toNat 0) t18 _ A76.out).mono ?_; rintro e_ w' ⟨rfl, rfl⟩)
               | ((with_reducible refine gate_d (N := 50) rfl ?_); obtain ⟨ad24, c164, hv165, HCad24_⟩ := Sl.get (l := a3) (f := Value.bool) (SP3.out.below HL.out) false (i := x11_0) hc122.out hc123.out; have HCad24 := hid HCad24_; clear HCad24_; refine ag_fix (.pointer (some (ad24.add x11_0.toNat))) (ex_sat _ _ x11_0 _ _ hv165 hc122.out hc123.out us119 sT4 _ _ rfl rfl rfl) rfl ?_; have HVAad24 := hid hv165; clear hv165)
               | ((with_reducible refine gate_d (N := 51) rfl ?_); refine ag_fix (.bool (nt a3 x11_0.toNat false)) (ex_scell sT4 _ _ HCad24.out _ rfl rfl) rfl ?_))
              (try simp only [Act.put, sI, sZ, sS])
              go_roundg k72
              case measure => have := HK71.out; omega
              case rel => exact ⟨x9_0, wrap64 (x11_0 + 1), (by first | rfl | (simp; done) | (simp [*]; done)), (by first | rfl | (simp; done) | (simp [*]; done)), H', (hid (by first | omega | (have := HK71.out; omega))), HL⟩
            ·
             rw [if_neg c123] at H
             exact absurd H (by simp)
           ·
            rw [if_neg c122] at H
            exact absurd H (by simp)
         ·
          rw [if_neg c75] at H
          exact absurd H (by simp)
        ·
         rw [if_neg c74] at H
         exact absurd H (by simp)
       ·
        rw [if_neg c73] at H
        have c73b0 : decide (x11_0 < 8) = false := decide_eq_false c73
        have hc73 := hid c73
        clear c73
        obtain rfl := Option.some.inj H
        clear H
        go_wp2_with fail
        (try simp only [Act.put, sI, sZ, sS])
        go_ret
        exact ⟨by first | rfl | (simp; done) | (simp [*]; done), HL.out⟩
    ·
     rw [if_neg c60] at H
     have c60b0 : (a1 == 1) = false := beq_eq_false_iff_ne.mpr c60
     have c60b1 : (a1 != 1) = true := bne_iff_ne.mpr c60
     have hc60 := hid c60
     clear c60
     have H' := hid H
     clear H
     go_enter Try.func75, Try.ntmps75
     have k171 := True.intro
     go_wp2_with (first
      | ((with_reducible refine gate_d (N := 17) rfl ?_); obtain ⟨A166, c167, hv168⟩ := (SP0.out.below HL.out).shape; rw [List.length_map] at hv168; refine ag_fix (.int .i64 (a0.length : Int)) (ex_len us27 _ _ _ _ hv168 _ rfl rfl) rfl ?_; clear hv168)
      | ((with_reducible refine gate_d (N := 21) rfl ?_); obtain ⟨ad1, c169, hv170, HCad1_⟩ := Sl.get (l := a0) (f := (Value.int .i64)) (SP0.out.below HL.out) 0 (i := a2) hc57.out hc58.out; have HCad1 := hid HCad1_; clear HCad1_; refine ag_fix (.pointer (some (ad1.add a2.toNat))) (ex_sat _ _ a2 _ _ hv170 hc57.out hc58.out us27 sT3 _ _ rfl rfl rfl) rfl ?_; have HVAad1 := hid hv170; clear hv170)
      | ((with_reducible refine gate_d (N := 22) rfl ?_); refine ag_fix (.int .i64 (nt a0 a2.toNat 0)) (ex_scell sT3 _ _ HCad1.out _ rfl rfl) rfl ?_)
      | (go_at_call 77; clear k171; refine (i_alfilref01_Rank.calls k (nt a0 a2.toNat 0) t2 _ A59.out).mono ?_; rintro e_ w' ⟨rfl, rfl⟩))
     (try simp only [Act.put, sI, sZ, sS])
     go_loopg [9, 11] k (fun kq v9 v11 w' => ∃ (x9_1 : Int) (x11_1 : Int), v9 = .int .i64 x9_1 ∧ v11 = .int .i64 x11_1 ∧ Hid (i_alfilref24_match.l1 kq a0 a1 a2 a3 t2 x9_1 x11_1 = some r1) ∧ Hid (kq ≤ k) ∧ Hid (Below w.heap.size w w'))
     case atStart => exact ⟨((-1) : Int), (0 : Int), (by first | rfl | (simp; done) | (simp [*]; done)), (by first | rfl | (simp; done) | (simp [*]; done)), H', (hid (by first | omega | (omega))), HL⟩
     case round =>
      clear H'
      clear HL
      obtain ⟨x9_1, x11_1, rfl, rfl, HA, HK172, HL⟩ := hrel
      cases gk with
      | zero => exact absurd HA.out (by simp [i_alfilref24_match.l1])
      | succ k173 =>
       have H := HA.out
       clear HA
       simp only [i_alfilref24_match.l1] at H
       by_cases c174 : x11_1 < 8
       ·
        rw [if_pos c174] at H
        have c174b0 : decide (x11_1 < 8) = true := decide_eq_true c174
        have hc174 := hid c174
        clear c174
        by_cases c175 : 0 ≤ a2
        ·
         rw [if_pos c175] at H
         have c175b0 : decide (0 ≤ a2) = true := decide_eq_true c175
         have hc175 := hid c175
         clear c175
         by_cases c176 : a2 < (a0.length : Int)
         ·
          rw [if_pos c176] at H
          have c176b0 : decide (a2 < (a0.length : Int)) = true := decide_eq_true c176
          have hc176 := hid c176
          clear c176
          replace H := Option.bind_eq_some_iff.mp H
          obtain ⟨t42, A177_, H⟩ := H
          have A177 := hid A177_
          clear A177_
          by_cases c178 : (wrap64 (t42 - x11_1)) < 0
          ·
           rw [if_pos c178] at H
           have c178b0 : decide ((wrap64 (t42 - x11_1)) < 0) = true := decide_eq_true c178
           have hc178 := hid c178
           clear c178
           by_cases c179 : 0 ≤ x11_1
           ·
            rw [if_pos c179] at H
            have c179b0 : decide (0 ≤ x11_1) = true := decide_eq_true c179
            have hc179 := hid c179
            clear c179
            by_cases c180 : x11_1 < (a3.length : Int)
            ·
             rw [if_pos c180] at H
             have c180b0 : decide (x11_1 < (a3.length : Int)) = true := decide_eq_true c180
             have hc180 := hid c180
             clear c180
             by_cases c181 : (nt a3 x11_1.toNat false) = true
             ·
              rw [if_pos c181] at H
              have c181b0 : (nt a3 x11_1.toNat false) = true := c181
              have hc181 := hid c181
              clear c181
              by_cases c182 : (wrap64 (-(wrap64 (t42 - x11_1)))) > (wrap64 (t2 - 1))
              ·
               rw [if_pos c182] at H
               have c182b0 : decide ((wrap64 (t2 - 1)) < (wrap64 (-(wrap64 (t42 - x11_1))))) = true := decide_eq_true c182
               have hc182 := hid c182
               clear c182
               have H' := hid H
               clear H
               have k185 := True.intro
               go_wp2_with (first
                | ((with_reducible refine gate_d (N := 39) rfl ?_); obtain ⟨ad41, c183, hv184, HCad41_⟩ := Sl.get (l := a0) (f := (Value.int .i64)) (SP0.out.below HL.out) 0 (i := a2) hc175.out hc176.out; have HCad41 := hid HCad41_; clear HCad41_; refine ag_fix (.pointer (some (ad41.add a2.toNat))) (ex_sat _ _ a2 _ _ hv184 hc175.out hc176.out us27 sT3 _ _ rfl rfl rfl) rfl ?_; have HVAad41 := hid hv184; clear hv184)
                | ((with_reducible refine gate_d (N := 40) rfl ?_); refine ag_fix (.int .i64 (nt a0 a2.toNat 0)) (ex_scell sT3 _ _ HCad41.out _ rfl rfl) rfl ?_)
                | (go_at_call 76; clear k185; refine (i_alfilref01_File.calls k173 (nt a0 a2.toNat 0) t42 _ A177.out).mono ?_; rintro e_ w' ⟨rfl, rfl⟩)
                | ((with_reducible refine gate_d (N := 50) rfl ?_); obtain ⟨ad43, c186, hv187, HCad43_⟩ := Sl.get (l := a3) (f := Value.bool) (SP3.out.below HL.out) false (i := x11_1) hc179.out hc180.out; have HCad43 := hid HCad43_; clear HCad43_; refine ag_fix (.pointer (some (ad43.add x11_1.toNat))) (ex_sat _ _ x11_1 _ _ hv187 hc179.out hc180.out us119 sT4 _ _ rfl rfl rfl) rfl ?_; have HVAad43 := hid hv187; clear hv187)
                | ((with_reducible refine gate_d (N := 51) rfl ?_); refine ag_fix (.bool (nt a3 x11_1.toNat false)) (ex_scell sT4 _ _ HCad43.out _ rfl rfl) rfl ?_))
               (try simp only [Act.put, sI, sZ, sS])
               go_roundg k173
               case measure => have := HK172.out; omega
               case rel => exact ⟨x9_1, wrap64 (x11_1 + 1), (by first | rfl | (simp; done) | (simp [*]; done)), (by first | rfl | (simp; done) | (simp [*]; done)), H', (hid (by first | omega | (have := HK172.out; omega))), HL⟩
              ·
               rw [if_neg c182] at H
               have c182b0 : decide ((wrap64 (t2 - 1)) < (wrap64 (-(wrap64 (t42 - x11_1))))) = false := decide_eq_false c182
               have hc182 := hid c182
               clear c182
               by_cases c188 : (wrap64 (t2 - 1)) > 5
               ·
                rw [if_pos c188] at H
                have c188b0 : decide (5 < (wrap64 (t2 - 1))) = true := decide_eq_true c188
                have hc188 := hid c188
                clear c188
                have H' := hid H
                clear H
                have k191 := True.intro
                go_wp2_with (first
                 | ((with_reducible refine gate_d (N := 39) rfl ?_); obtain ⟨ad41, c189, hv190, HCad41_⟩ := Sl.get (l := a0) (f := (Value.int .i64)) (SP0.out.below HL.out) 0 (i := a2) hc175.out hc176.out; have HCad41 := hid HCad41_; clear HCad41_; refine ag_fix (.pointer (some (ad41.add a2.toNat))) (ex_sat _ _ a2 _ _ hv190 hc175.out hc176.out us27 sT3 _ _ rfl rfl rfl) rfl ?_; have HVAad41 := hid hv190; clear hv190)
                 | ((with_reducible refine gate_d (N := 40) rfl ?_); refine ag_fix (.int .i64 (nt a0 a2.toNat 0)) (ex_scell sT3 _ _ HCad41.out _ rfl rfl) rfl ?_)
                 | (go_at_call 76; clear k191; refine (i_alfilref01_File.calls k173 (nt a0 a2.toNat 0) t42 _ A177.out).mono ?_; rintro e_ w' ⟨rfl, rfl⟩)
                 | ((with_reducible refine gate_d (N := 50) rfl ?_); obtain ⟨ad43, c192, hv193, HCad43_⟩ := Sl.get (l := a3) (f := Value.bool) (SP3.out.below HL.out) false (i := x11_1) hc179.out hc180.out; have HCad43 := hid HCad43_; clear HCad43_; refine ag_fix (.pointer (some (ad43.add x11_1.toNat))) (ex_sat _ _ x11_1 _ _ hv193 hc179.out hc180.out us119 sT4 _ _ rfl rfl rfl) rfl ?_; have HVAad43 := hid hv193; clear hv193)
                 | ((with_reducible refine gate_d (N := 51) rfl ?_); refine ag_fix (.bool (nt a3 x11_1.toNat false)) (ex_scell sT4 _ _ HCad43.out _ rfl rfl) rfl ?_))
                (try simp only [Act.put, sI, sZ, sS])
                go_roundg k173
                case measure => have := HK172.out; omega
                case rel => exact ⟨x9_1, wrap64 (x11_1 + 1), (by first | rfl | (simp; done) | (simp [*]; done)), (by first | rfl | (simp; done) | (simp [*]; done)), H', (hid (by first | omega | (have := HK172.out; omega))), HL⟩
               ·
                rw [if_neg c188] at H
                have c188b0 : decide (5 < (wrap64 (t2 - 1))) = false := decide_eq_false c188
                have hc188 := hid c188
                clear c188
                by_cases c194 : 0 < a3.length
                ·
                 rw [if_pos c194] at H
                 have c194b0 : decide (0 < a3.length) = true := decide_eq_true c194
                 have hc194 := hid c194
                 clear c194
                 by_cases c195 : a3.length < 140737488355328
                 ·
                  rw [if_pos c195] at H
                  have c195b0 : decide (a3.length < 140737488355328) = true := decide_eq_true c195
                  have hc195 := hid c195
                  clear c195
                  have H' := hid H
                  clear H
                  have k199 := True.intro
                  have k203 := True.intro
                  go_wp2_with (first
                   | ((with_reducible refine gate_d (N := 39) rfl ?_); obtain ⟨ad41, c197, hv198, HCad41_⟩ := Sl.get (l := a0) (f := (Value.int .i64)) (SP0.out.below HL.out) 0 (i := a2) hc175.out hc176.out; have HCad41 := hid HCad41_; clear HCad41_; refine ag_fix (.pointer (some (ad41.add a2.toNat))) (ex_sat _ _ a2 _ _ hv198 hc175.out hc176.out us27 sT3 _ _ rfl rfl rfl) rfl ?_; have HVAad41 := hid hv198; clear hv198)
                   | ((with_reducible refine gate_d (N := 40) rfl ?_); refine ag_fix (.int .i64 (nt a0 a2.toNat 0)) (ex_scell sT3 _ _ HCad41.out _ rfl rfl) rfl ?_)
                   | (go_at_call 76; clear k199; refine (i_alfilref01_File.calls k173 (nt a0 a2.toNat 0) t42 _ A177.out).mono ?_; rintro e_ w' ⟨rfl, rfl⟩)
                   | ((with_reducible refine gate_d (N := 50) rfl ?_); obtain ⟨ad43, c200, hv201, HCad43_⟩ := Sl.get (l := a3) (f := Value.bool) (SP3.out.below HL.out) false (i := x11_1) hc179.out hc180.out; have HCad43 := hid HCad43_; clear HCad43_; refine ag_fix (.pointer (some (ad43.add x11_1.toNat))) (ex_sat _ _ x11_1 _ _ hv201 hc179.out hc180.out us119 sT4 _ _ rfl rfl rfl) rfl ?_; have HVAad43 := hid hv201; clear hv201)
                   | ((with_reducible refine gate_d (N := 51) rfl ?_); refine ag_fix (.bool (nt a3 x11_1.toNat false)) (ex_scell sT4 _ _ HCad43.out _ rfl rfl) rfl ?_)
                   | (at_builtin; clear k203; refine app_src eT119 w.heap.size (.slice none 0 0) (v3_) [] (a3.map Value.bool) (Own.nil _ _ _) (SP3.out.below HL.out) (by have h1_ := hc194.out; rw [List.length_map]; omega) (by intro u_ hu_; rw [List.mem_map] at hu_; obtain ⟨_, _, rfl⟩ := hu_; rfl) (by have h1_ := hc194.out; have h2_ := hc195.out; simp only [List.length_map, List.length_nil]; omega) (by have h1_ := hc194.out; have h2_ := hc195.out; simp only [List.length_map, List.length_nil]; unfold maxLen; omega) HL.out.size rfl _ _ rfl rfl rfl ?_; intro uo44 w202 ho_ hb_ hk_ hi_; have SWo44 : Hid (Own w202 w.heap.size 4 (uo44) (a3.map Value.bool)) := hid (by rw [List.nil_append] at ho_; exact ho_); replace HL := hid (HL.out.trans hb_); clear ho_ hb_ hk_ hi_)
                   | ((with_reducible refine gate_d (N := 67) rfl ?_); obtain ⟨ad45, c204, hv205, HCad45_⟩ := Sl.get (l := a3) (f := Value.bool) SWo44.out.sl false (i := x11_1) hc179.out hc180.out; have HCad45 := hid HCad45_; clear HCad45_; refine ag_fix (.pointer (some (ad45.add x11_1.toNat))) (ex_sat _ _ x11_1 _ _ hv205 hc179.out hc180.out us119 sT4 _ _ rfl rfl rfl) rfl ?_; have HVAad45 := hid hv205; clear hv205)
                   | ((with_reducible refine gate_s (t := 4) (p := 67) rfl ?_); refine ag_sset (f := Value.bool) sT4 w.heap.size uo44 x11_1 false SWo44.out HVAad45.out hc179.out hc180.out rfl rfl rfl _ _ rfl rfl rfl ?_; intro w206 ho_ hb_ hk_ hi_; clear SWo44; have SWo46 : Hid (Own w206 w.heap.size 4 (uo44) ((a3.set x11_1.toNat false).map Value.bool)) := hid ho_; replace HL := hid (HL.out.trans hb_); clear ho_ hb_ hk_ hi_))
                  (try simp only [Act.put, sI, sZ, sS])
                  have H := H'.out
                  clear H'
                  replace H := Option.bind_eq_some_iff.mp H
                  obtain ⟨t47, A196_, H⟩ := H
                  have A196 := hid A196_
                  clear A196_
                  by_cases c207 : t47 ≥ 0
                  ·
                   rw [if_pos c207] at H
                   have c207b0 : decide (0 ≤ t47) = true := decide_eq_true c207
                   have hc207 := hid c207
                   clear c207
                   by_cases c208 : x9_1 < 0
                   ·
                    rw [if_pos c208] at H
                    have c208b0 : decide (x9_1 < 0) = true := decide_eq_true c208
                    have hc208 := hid c208
                    clear c208
                    have H' := hid H
                    clear H
                    have k209 := True.intro
                    go_wp2_with (first
                     | (go_at_call 75; clear k209; refine (IH k173 (by have := HK172.out; omega) (v0_) a0 a1 (wrap64 (a2 + 1)) (uo44) (a3.set x11_1.toNat false) t47 _ (SP0.out.below HL.out) SWo46.out.sl A196.out).mono ?_; rintro e_ w210 ⟨rfl, hb_⟩; replace SWo46 := hid (SWo46.out.below hb_); replace HL := hid (HL.out.trans (hb_.mono HL.out.size)); clear hb_))
                    (try simp only [Act.put, sI, sZ, sS])
                    go_roundg k173
                    case measure => have := HK172.out; omega
                    case rel => exact ⟨wrap64 (t47 + (wrap64 (-(wrap64 (t42 - x11_1))))), wrap64 (x11_1 + 1), (by first | rfl | (simp; done) | (simp [*]; done)), (by first | rfl | (simp; done) | (simp [*]; done)), H', (hid (by first | omega | (have := HK172.out; omega))), HL⟩
                   ·
                    rw [if_neg c208] at H
                    have c208b0 : decide (x9_1 < 0) = false := decide_eq_false c208
                    have hc208 := hid c208
                    clear c208
                    by_cases c211 : (wrap64 (t47 + (wrap64 (-(wrap64 (t42 - x11_1)))))) < x9_1
                    ·
                     rw [if_pos c211] at H
                     have c211b0 : decide ((wrap64 (t47 + (wrap64 (-(wrap64 (t42 - x11_1)))))) < x9_1) = true := decide_eq_true c211
                     have hc211 := hid c211
                     clear c211
                     have H' := hid H
                     clear H
                     have k212 := True.intro
                     go_wp2_with (first
                      | (go_at_call 75; clear k212; refine (IH k173 (by have := HK172.out; omega) (v0_) a0 a1 (wrap64 (a2 + 1)) (uo44) (a3.set x11_1.toNat false) t47 _ (SP0.out.below HL.out) SWo46.out.sl A196.out).mono ?_; rintro e_ w213 ⟨rfl, hb_⟩; replace SWo46 := hid (SWo46.out.below hb_); replace HL := hid (HL.out.trans (hb_.mono HL.out.size)); clear hb_))
                     (try simp only [Act.put, sI, sZ, sS])
                     go_roundg k173
                     case measure => have := HK172.out; omega
                     case rel => exact ⟨wrap64 (t47 + (wrap64 (-(wrap64 (t42 - x11_1))))), wrap64 (x11_1 + 1), (by first | rfl | (simp; done) | (simp [*]; done)), (by first | rfl | (simp; done) | (simp [*]; done)), H', (hid (by first | omega | (have := HK172.out; omega))), HL⟩
                    ·
                     rw [if_neg c211] at H
                     have c211b0 : decide ((wrap64 (t47 + (wrap64 (-(wrap64 (t42 - x11_1)))))) < x9_1) = false := decide_eq_false c211
                     have hc211 := hid c211
                     clear c211
                     have H' := hid H
                     clear H
                     have k214 := True.intro
                     go_wp2_with (first
                      | (go_at_call 75; clear k214; refine (IH k173 (by have := HK172.out; omega) (v0_) a0 a1 (wrap64 (a2 + 1)) (uo44) (a3.set x11_1.toNat false) t47 _ (SP0.out.below HL.out) SWo46.out.sl A196.out).mono ?_; rintro e_ w215 ⟨rfl, hb_⟩; replace SWo46 := hid (SWo46.out.below hb_); replace HL := hid (HL.out.trans (hb_.mono HL.out.size)); clear hb_))
                     (try simp only [Act.put, sI, sZ, sS])
                     go_roundg k173
                     case measure => have := HK172.out; omega
                     case rel => exact ⟨x9_1, wrap64 (x11_1 + 1), (by first | rfl | (simp; done) | (simp [*]; done)), (by first | rfl | (simp; done) | (simp [*]; done)), H', (hid (by first | omega | (have := HK172.out; omega))), HL⟩
                  ·
                   rw [if_neg c207] at H
                   have c207b0 : decide (0 ≤ t47) = false := decide_eq_false c207
                   have hc207 := hid c207
                   clear c207
                   have H' := hid H
                   clear H
                   have k216 := True.intro
                   go_wp2_with (first
                    | (go_at_call 75; clear k216; refine (IH k173 (by have := HK172.out; omega) (v0_) a0 a1 (wrap64 (a2 + 1)) (uo44) (a3.set x11_1.toNat false) t47 _ (SP0.out.below HL.out) SWo46.out.sl A196.out).mono ?_; rintro e_ w217 ⟨rfl, hb_⟩; replace SWo46 := hid (SWo46.out.below hb_); replace HL := hid (HL.out.trans (hb_.mono HL.out.size)); clear hb_))
                   (try simp only [Act.put, sI, sZ, sS])
                   go_roundg k173
                   case measure => have := HK172.out; omega
                   case rel => exact ⟨x9_1, wrap64 (x11_1 + 1), (by first | rfl | (simp; done) | (simp [*]; done)), (by first | rfl | (simp; done) | (simp [*]; done)), H', (hid (by first | omega | (have := HK172.out; omega))), HL⟩
                 ·
                  rw [if_neg c195] at H
                  exact absurd H (by simp)
                ·
                 rw [if_neg c194] at H
                 exact absurd H (by simp)
             ·
              rw [if_neg c181] at H
              have c181b0 : (nt a3 x11_1.toNat false) = false := by simpa using c181
              have hc181 := hid c181
              clear c181
              have H' := hid H
              clear H
              have k220 := True.intro
              go_wp2_with (first
               | ((with_reducible refine gate_d (N := 39) rfl ?_); obtain ⟨ad41, c218, hv219, HCad41_⟩ := Sl.get (l := a0) (f := (Value.int .i64)) (SP0.out.below HL.out) 0 (i := a2) hc175.out hc176.out; have HCad41 := hid HCad41_; clear HCad41_; refine ag_fix (.pointer (some (ad41.add a2.toNat))) (ex_sat _ _ a2 _ _ hv219 hc175.out hc176.out us27 sT3 _ _ rfl rfl rfl) rfl ?_; have HVAad41 := hid hv219; clear hv219)
               | ((with_reducible refine gate_d (N := 40) rfl ?_); refine ag_fix (.int .i64 (nt a0 a2.toNat 0)) (ex_scell sT3 _ _ HCad41.out _ rfl rfl) rfl ?_)
               | (go_at_call 76; clear k220; refine (i_alfilref01_File.calls k173 (nt a0 a2.toNat 0) t42 _ A177.out).mono ?_; rintro e_ w' ⟨rfl, rfl⟩)
               | ((with_reducible refine gate_d (N := 50) rfl ?_); obtain ⟨ad43, c221, hv222, HCad43_⟩ := Sl.get (l := a3) (f := Value.bool) (SP3.out.below HL.out) false (i := x11_1) hc179.out hc180.out; have HCad43 := hid HCad43_; clear HCad43_; refine ag_fix (.pointer (some (ad43.add x11_1.toNat))) (ex_sat _ _ x11_1 _ _ hv222 hc179.out hc180.out us119 sT4 _ _ rfl rfl rfl) rfl ?_; have HVAad43 := hid hv222; clear hv222)
               | ((with_reducible refine gate_d (N := 51) rfl ?_); refine ag_fix (.bool (nt a3 x11_1.toNat false)) (ex_scell sT4 _ _ HCad43.out _ rfl rfl) rfl ?_))
              (try simp only [Act.put, sI, sZ, sS])
              go_roundg k173
              case measure => have := HK172.out; omega
              case rel => exact ⟨x9_1, wrap64 (x11_1 + 1), (by first | rfl | (simp; done) | (simp [*]; done)), (by first | rfl | (simp; done) | (simp [*]; done)), H', (hid (by first | omega | (have := HK172.out; omega))), HL⟩
            ·
             rw [if_neg c180] at H
             exact absurd H (by simp)
           ·
            rw [if_neg c179] at H
            exact absurd H (by simp)
          ·
           rw [if_neg c178] at H
           have c178b0 : decide ((wrap64 (t42 - x11_1)) < 0) = false := decide_eq_false c178
           have hc178 := hid c178
           clear c178
           by_cases c223 : 0 ≤ x11_1
           ·
            rw [if_pos c223] at H
            have c223b0 : decide (0 ≤ x11_1) = true := decide_eq_true c223
            have hc223 := hid c223
            clear c223
            by_cases c224 : x11_1 < (a3.length : Int)
            ·
             rw [if_pos c224] at H
             have c224b0 : decide (x11_1 < (a3.length : Int)) = true := decide_eq_true c224
             have hc224 := hid c224
             clear c224
             by_cases c225 : (nt a3 x11_1.toNat false) = true
             ·
              rw [if_pos c225] at H
              have c225b0 : (nt a3 x11_1.toNat false) = true := c225
              have hc225 := hid c225
              clear c225
              by_cases c226 : (wrap64 (t42 - x11_1)) > (wrap64 (t2 - 1))
              ·
               rw [if_pos c226] at H
               have c226b0 : decide ((wrap64 (t2 - 1)) < (wrap64 (t42 - x11_1))) = true := decide_eq_true c226
               have hc226 := hid c226
               clear c226
               have H' := hid H
               clear H
               have k229 := True.intro
               go_wp2_with (first
                | ((with_reducible refine gate_d (N := 39) rfl ?_); obtain ⟨ad41, c227, hv228, HCad41_⟩ := Sl.get (l := a0) (f := (Value.int .i64)) (SP0.out.below HL.out) 0 (i := a2) hc175.out hc176.out; have HCad41 := hid HCad41_; clear HCad41_; refine ag_fix (.pointer (some (ad41.add a2.toNat))) (ex_sat _ _ a2 _ _ hv228 hc175.out hc176.out us27 sT3 _ _ rfl rfl rfl) rfl ?_; have HVAad41 := hid hv228; clear hv228)
                | ((with_reducible refine gate_d (N := 40) rfl ?_); refine ag_fix (.int .i64 (nt a0 a2.toNat 0)) (ex_scell sT3 _ _ HCad41.out _ rfl rfl) rfl ?_)
                | (go_at_call 76; clear k229; refine (i_alfilref01_File.calls k173 (nt a0 a2.toNat 0) t42 _ A177.out).mono ?_; rintro e_ w' ⟨rfl, rfl⟩)
                | ((with_reducible refine gate_d (N := 50) rfl ?_); obtain ⟨ad48, c230, hv231, HCad48_⟩ := Sl.get (l := a3) (f := Value.bool) (SP3.out.below HL.out) false (i := x11_1) hc223.out hc224.out; have HCad48 := hid HCad48_; clear HCad48_; refine ag_fix (.pointer (some (ad48.add x11_1.toNat))) (ex_sat _ _ x11_1 _ _ hv231 hc223.out hc224.out us119 sT4 _ _ rfl rfl rfl) rfl ?_; have HVAad48 := hid hv231; clear hv231)
                | ((with_reducible refine gate_d (N := 51) rfl ?_); refine ag_fix (.bool (nt a3 x11_1.toNat false)) (ex_scell sT4 _ _ HCad48.out _ rfl rfl) rfl ?_))
               (try simp only [Act.put, sI, sZ, sS])
               go_roundg k173
               case measure => have := HK172.out; omega
               case rel => exact ⟨x9_1, wrap64 (x11_1 + 1), (by first | rfl | (simp; done) | (simp [*]; done)), (by first | rfl | (simp; done) | (simp [*]; done)), H', (hid (by first | omega | (have := HK172.out; omega))), HL⟩
              ·
               rw [if_neg c226] at H
               have c226b0 : decide ((wrap64 (t2 - 1)) < (wrap64 (t42 - x11_1))) = false := decide_eq_false c226
               have hc226 := hid c226
               clear c226
               by_cases c232 : (wrap64 (t2 - 1)) > 5
               ·
                rw [if_pos c232] at H
                have c232b0 : decide (5 < (wrap64 (t2 - 1))) = true := decide_eq_true c232
                have hc232 := hid c232
                clear c232
                have H' := hid H
                clear H
                have k235 := True.intro
                go_wp2_with (first
                 | ((with_reducible refine gate_d (N := 39) rfl ?_); obtain ⟨ad41, c233, hv234, HCad41_⟩ := Sl.get (l := a0) (f := (Value.int .i64)) (SP0.out.below HL.out) 0 (i := a2) hc175.out hc176.out; have HCad41 := hid HCad41_; clear HCad41_; refine ag_fix (.pointer (some (ad41.add a2.toNat))) (ex_sat _ _ a2 _ _ hv234 hc175.out hc176.out us27 sT3 _ _ rfl rfl rfl) rfl ?_; have HVAad41 := hid hv234; clear hv234)
                 | ((with_reducible refine gate_d (N := 40) rfl ?_); refine ag_fix (.int .i64 (nt a0 a2.toNat 0)) (ex_scell sT3 _ _ HCad41.out _ rfl rfl) rfl ?_)
                 | (go_at_call 76; clear k235; refine (i_alfilref01_File.calls k173 (nt a0 a2.toNat 0) t42 _ A177.out).mono ?_; rintro e_ w' ⟨rfl, rfl⟩)
                 | ((with_reducible refine gate_d (N := 50) rfl ?_); obtain ⟨ad48, c236, hv237, HCad48_⟩ := Sl.get (l := a3) (f := Value.bool) (SP3.out.below HL.out) false (i := x11_1) hc223.out hc224.out; have HCad48 := hid HCad48_; clear HCad48_; refine ag_fix (.pointer (some (ad48.add x11_1.toNat))) (ex_sat _ _ x11_1 _ _ hv237 hc223.out hc224.out us119 sT4 _ _ rfl rfl rfl) rfl ?_; have HVAad48 := hid hv237; clear hv237)
                 | ((with_reducible refine gate_d (N := 51) rfl ?_); refine ag_fix (.bool (nt a3 x11_1.toNat false)) (ex_scell sT4 _ _ HCad48.out _ rfl rfl) rfl ?_))
                (try simp only [Act.put, sI, sZ, sS])
                go_roundg k173
                case measure => have := HK172.out; omega
                case rel => exact ⟨x9_1, wrap64 (x11_1 + 1), (by first | rfl | (simp; done) | (simp [*]; done)), (by first | rfl | (simp; done) | (simp [*]; done)), H', (hid (by first | omega | (have := HK172.out; omega))), HL⟩
               ·
                rw [if_neg c232] at H
                have c232b0 : decide (5 < (wrap64 (t2 - 1))) = false := decide_eq_false c232
                have hc232 := hid c232
                clear c232
                by_cases c238 : 0 < a3.length
                ·
                 rw [if_pos c238] at H
                 have c238b0 : decide (0 < a3.length) = true := decide_eq_true c238
                 have hc238 := hid c238
                 clear c238
                 by_cases c239 : a3.length < 140737488355328
                 ·
                  rw [if_pos c239] at H
                  have c239b0 : decide (a3.length < 140737488355328) = true := decide_eq_true c239
                  have hc239 := hid c239
                  clear c239
                  have H' := hid H
                  clear H
                  have k243 := True.intro
                  have k247 := True.intro
                  go_wp2_with (first
                   | ((with_reducible refine gate_d (N := 39) rfl ?_); obtain ⟨ad41, c241, hv242, HCad41_⟩ := Sl.get (l := a0) (f := (Value.int .i64)) (SP0.out.below HL.out) 0 (i := a2) hc175.out hc176.out; have HCad41 := hid HCad41_; clear HCad41_; refine ag_fix (.pointer (some (ad41.add a2.toNat))) (ex_sat _ _ a2 _ _ hv242 hc175.out hc176.out us27 sT3 _ _ rfl rfl rfl) rfl ?_; have HVAad41 := hid hv242; clear hv242)
                   | ((with_reducible refine gate_d (N := 40) rfl ?_); refine ag_fix (.int .i64 (nt a0 a2.toNat 0)) (ex_scell sT3 _ _ HCad41.out _ rfl rfl) rfl ?_)
                   | (go_at_call 76; clear k243; refine (i_alfilref01_File.calls k173 (nt a0 a2.toNat 0) t42 _ A177.out).mono ?_; rintro e_ w' ⟨rfl, rfl⟩)
                   | ((with_reducible refine gate_d (N := 50) rfl ?_); obtain ⟨ad48, c244, hv245, HCad48_⟩ := Sl.get (l := a3) (f := Value.bool) (SP3.out.below HL.out) false (i := x11_1) hc223.out hc224.out; have HCad48 := hid HCad48_; clear HCad48_; refine ag_fix (.pointer (some (ad48.add x11_1.toNat))) (ex_sat _ _ x11_1 _ _ hv245 hc223.out hc224.out us119 sT4 _ _ rfl rfl rfl) rfl ?_; have HVAad48 := hid hv245; clear hv245)
                   | ((with_reducible refine gate_d (N := 51) rfl ?_); refine ag_fix (.bool (nt a3 x11_1.toNat false)) (ex_scell sT4 _ _ HCad48.out _ rfl rfl) rfl ?_)
                   | (at_builtin; clear k247; refine app_src eT119 w.heap.size (.slice none 0 0) (v3_) [] (a3.map Value.bool) (Own.nil _ _ _) (SP3.out.below HL.out) (by have h1_ := hc238.out; rw [List.length_map]; omega) (by intro u_ hu_; rw [List.mem_map] at hu_; obtain ⟨_, _, rfl⟩ := hu_; rfl) (by have h1_ := hc238.out; have h2_ := hc239.out; simp only [List.length_map, List.length_nil]; omega) (by have h1_ := hc238.out; have h2_ := hc239.out; simp only [List.length_map, List.length_nil]; unfold maxLen; omega) HL.out.size rfl _ _ rfl rfl rfl ?_; intro uo49 w246 ho_ hb_ hk_ hi_; have SWo49 : Hid (Own w246 w.heap.size 4 (uo49) (a3.map Value.bool)) := hid (by rw [List.nil_append] at ho_; exact ho_); replace HL := hid (HL.out.trans hb_); clear ho_ hb_ hk_ hi_)
                   | ((with_reducible refine gate_d (N := 67) rfl ?_); obtain ⟨ad50, c248, hv249, HCad50_⟩ := Sl.get (l := a3) (f := Value.bool) SWo49.out.sl false (i := x11_1) hc223.out hc224.out; have HCad50 := hid HCad50_; clear HCad50_; refine ag_fix (.pointer (some (ad50.add x11_1.toNat))) (ex_sat _ _ x11_1 _ _ hv249 hc223.out hc224.out us119 sT4 _ _ rfl rfl rfl) rfl ?_; have HVAad50 := hid hv249; clear hv249)
                   | ((with_reducible refine gate_s (t := 4) (p := 67) rfl ?_); refine ag_sset (f := Value.bool) sT4 w.heap.size uo49 x11_1 false SWo49.out HVAad50.out hc223.out hc224.out rfl rfl rfl _ _ rfl rfl rfl ?_; intro w250 ho_ hb_ hk_ hi_; clear SWo49; have SWo51 : Hid (Own w250 w.heap.size 4 (uo49) ((a3.set x11_1.toNat false).map Value.bool)) := hid ho_; replace HL := hid (HL.out.trans hb_); clear ho_ hb_ hk_ hi_))
                  (try simp only [Act.put, sI, sZ, sS])
                  have H := H'.out
                  clear H'
                  replace H := Option.bind_eq_some_iff.mp H
                  obtain ⟨t52, A240_, H⟩ := H
                  have A240 := hid A240_
                  clear A240_
                  by_cases c251 : t52 ≥ 0
                  ·
                   rw [if_pos c251] at H
                   have c251b0 : decide (0 ≤ t52) = true := decide_eq_true c251
                   have hc251 := hid c251
                   clear c251
                   by_cases c252 : x9_1 < 0
                   ·
                    rw [if_pos c252] at H
                    have c252b0 : decide (x9_1 < 0) = true := decide_eq_true c252
                    have hc252 := hid c252
                    clear c252
                    have H' := hid H
                    clear H
                    have k253 := True.intro
                    go_wp2_with (first
                     | (go_at_call 75; clear k253; refine (IH k173 (by have := HK172.out; omega) (v0_) a0 a1 (wrap64 (a2 + 1)) (uo49) (a3.set x11_1.toNat false) t52 _ (SP0.out.below HL.out) SWo51.out.sl A240.out).mono ?_; rintro e_ w254 ⟨rfl, hb_⟩; replace SWo51 := hid (SWo51.out.below hb_); replace HL := hid (HL.out.trans (hb_.mono HL.out.size)); clear hb_))
                    (try simp only [Act.put, sI, sZ, sS])
                    go_roundg k173
                    case measure => have := HK172.out; omega
                    case rel => exact ⟨wrap64 (t52 + (wrap64 (t42 - x11_1))), wrap64 (x11_1 + 1), (by first | rfl | (simp; done) | (simp [*]; done)), (by first | rfl | (simp; done) | (simp [*]; done)), H', (hid (by first | omega | (have := HK172.out; omega))), HL⟩
                   ·
                    rw [if_neg c252] at H
                    have c252b0 : decide (x9_1 < 0) = false := decide_eq_false c252
                    have hc252 := hid c252
                    clear c252
                    by_cases c255 : (wrap64 (t52 + (wrap64 (t42 - x11_1)))) < x9_1
                    ·
                     rw [if_pos c255] at H
                     have c255b0 : decide ((wrap64 (t52 + (wrap64 (t42 - x11_1)))) < x9_1) = true := decide_eq_true c255
                     have hc255 := hid c255
                     clear c255
                     have H' := hid H
                     clear H
                     have k256 := True.intro
                     go_wp2_with (first
                      | (go_at_call 75; clear k256; refine (IH k173 (by have := HK172.out; omega) (v0_) a0 a1 (wrap64 (a2 + 1)) (uo49) (a3.set x11_1.toNat false) t52 _ (SP0.out.below HL.out) SWo51.out.sl A240.out).mono ?_; rintro e_ w257 ⟨rfl, hb_⟩; replace SWo51 := hid (SWo51.out.below hb_); replace HL := hid (HL.out.trans (hb_.mono HL.out.size)); clear hb_))
                     (try simp only [Act.put, sI, sZ, sS])
                     go_roundg k173
                     case measure => have := HK172.out; omega
                     case rel => exact ⟨wrap64 (t52 + (wrap64 (t42 - x11_1))), wrap64 (x11_1 + 1), (by first | rfl | (simp; done) | (simp [*]; done)), (by first | rfl | (simp; done) | (simp [*]; done)), H', (hid (by first | omega | (have := HK172.out; omega))), HL⟩
                    ·
                     rw [if_neg c255] at H
                     have c255b0 : decide ((wrap64 (t52 + (wrap64 (t42 - x11_1)))) < x9_1) = false := decide_eq_false c255
                     have hc255 := hid c255
                     clear c255
                     have H' := hid H
                     clear H
                     have k258 := True.intro
                     go_wp2_with (first
                      | (go_at_call 75; clear k258; refine (IH k173 (by have := HK172.out; omega) (v0_) a0 a1 (wrap64 (a2 + 1)) (uo49) (a3.set x11_1.toNat false) t52 _ (SP0.out.below HL.out) SWo51.out.sl A240.out).mono ?_; rintro e_ w259 ⟨rfl, hb_⟩; replace SWo51 := hid (SWo51.out.below hb_); replace HL := hid (HL.out.trans (hb_.mono HL.out.size)); clear hb_))
                     (try simp only [Act.put, sI, sZ, sS])
                     go_roundg k173
                     case measure => have := HK172.out; omega
                     case rel => exact ⟨x9_1, wrap64 (x11_1 + 1), (by first | rfl | (simp; done) | (simp [*]; done)), (by first | rfl | (simp; done) | (simp [*]; done)), H', (hid (by first | omega | (have := HK172.out; omega))), HL⟩
                  ·
                   rw [if_neg c251] at H
                   have c251b0 : decide (0 ≤ t52) = false := decide_eq_false c251
                   have hc251 := hid c251
                   clear c251
                   have H' := hid H
                   clear H
                   have k260 := True.intro
                   go_wp2_with (first
                    | (go_at_call 75; clear k260; refine (IH k173 (by have := HK172.out; omega) (v0_) a0 a1 (wrap64 (a2 + 1)) (uo49) (a3.set x11_1.toNat false) t52 _ (SP0.out.below HL.out) SWo51.out.sl A240.out).mono ?_; rintro e_ w261 ⟨rfl, hb_⟩; replace SWo51 := hid (SWo51.out.below hb_); replace HL := hid (HL.out.trans (hb_.mono HL.out.size)); clear hb_))
                   (try simp only [Act.put, sI, sZ, sS])
                   go_roundg k173
                   case measure => have := HK172.out; omega
                   case rel => exact ⟨x9_1, wrap64 (x11_1 + 1), (by first | rfl | (simp; done) | (simp [*]; done)), (by first | rfl | (simp; done) | (simp [*]; done)), H', (hid (by first | omega | (have := HK172.out; omega))), HL⟩
                 ·
                  rw [if_neg c239] at H
                  exact absurd H (by simp)
                ·
                 rw [if_neg c238] at H
                 exact absurd H (by simp)
             ·
              rw [if_neg c225] at H
              have c225b0 : (nt a3 x11_1.toNat false) = false := by simpa using c225
              have hc225 := hid c225
              clear c225
              have H' := hid H
              clear H
              have k264 := True.intro
              go_wp2_with (first
               | ((with_reducible refine gate_d (N := 39) rfl ?_); obtain ⟨ad41, c262, hv263, HCad41_⟩ := Sl.get (l := a0) (f := (Value.int .i64)) (SP0.out.below HL.out) 0 (i := a2) hc175.out hc176.out; have HCad41 := hid HCad41_; clear HCad41_; refine ag_fix (.pointer (some (ad41.add a2.toNat))) (ex_sat _ _ a2 _ _ hv263 hc175.out hc176.out us27 sT3 _ _ rfl rfl rfl) rfl ?_; have HVAad41 := hid hv263; clear hv263)
               | ((with_reducible refine gate_d (N := 40) rfl ?_); refine ag_fix (.int .i64 (nt a0 a2.toNat 0)) (ex_scell sT3 _ _ HCad41.out _ rfl rfl) rfl ?_)
               | (go_at_call 76; clear k264; refine (i_alfilref01_File.calls k173 (nt a0 a2.toNat 0) t42 _ A177.out).mono ?_; rintro e_ w' ⟨rfl, rfl⟩)
               | ((with_reducible refine gate_d (N := 50) rfl ?_); obtain ⟨ad48, c265, hv266, HCad48_⟩ := Sl.get (l := a3) (f := Value.bool) (SP3.out.below HL.out) false (i := x11_1) hc223.out hc224.out; have HCad48 := hid HCad48_; clear HCad48_; refine ag_fix (.pointer (some (ad48.add x11_1.toNat))) (ex_sat _ _ x11_1 _ _ hv266 hc223.out hc224.out us119 sT4 _ _ rfl rfl rfl) rfl ?_; have HVAad48 := hid hv266; clear hv266)
               | ((with_reducible refine gate_d (N := 51) rfl ?_); refine ag_fix (.bool (nt a3 x11_1.toNat false)) (ex_scell sT4 _ _ HCad48.out _ rfl rfl) rfl ?_))
              (try simp only [Act.put, sI, sZ, sS])
              go_roundg k173
              case measure => have := HK172.out; omega
              case rel => exact ⟨x9_1, wrap64 (x11_1 + 1), (by first | rfl | (simp; done) | (simp [*]; done)), (by first | rfl | (simp; done) | (simp [*]; done)), H', (hid (by first | omega | (have := HK172.out; omega))), HL⟩
            ·
             rw [if_neg c224] at H
             exact absurd H (by simp)
           ·
            rw [if_neg c223] at H
            exact absurd H (by simp)
         ·
          rw [if_neg c176] at H
          exact absurd H (by simp)
        ·
         rw [if_neg c175] at H
         exact absurd H (by simp)
       ·
        rw [if_neg c174] at H
        have c174b0 : decide (x11_1 < 8) = false := decide_eq_false c174
        have hc174 := hid c174
        clear c174
        obtain rfl := Option.some.inj H
        clear H
        go_wp2_with fail
        (try simp only [Act.put, sI, sZ, sS])
        go_ret
        exact ⟨by first | rfl | (simp; done) | (simp [*]; done), HL.out⟩
   ·
    rw [if_neg c58] at H
    exact absurd H (by simp)
  ·
   rw [if_neg c57] at H
   exact absurd H (by simp)
theorem i_alfilref24_match.calls (k : Nat) (v0_ : Value) (a0 : List Int) (a1 : Int) (a2 : Int) (v3_ : Value) (a3 : List Bool) (r1 : Int) (w : World) (hs0 : Sl w v0_ (a0.map (Value.int .i64))) (hs3 : Sl w v3_ (a3.map Value.bool)) (h : i_alfilref24_match.f k a0 a1 a2 a3 = some r1) :
    Calls Try.prog 75 #[v0_, .int .i64 a1, .int .i64 a2, v3_] w fun e w' => e = .returned (.int .i64 r1) ∧ Below w.heap.size w w' := by
  exact i_alfilref24_match.callsR k v0_ a0 a1 a2 v3_ a3 r1 w hs0 hs3 h
/-! i_alfilref24_Least: function 42 -/
def i_alfilref24_Least.f (k : Nat) (a0 : List Int) (a1 : Int) : Option (Int) := (i_alfilref24_man.f 1 a1).bind fun t2 => ((i_alfilref03_Where.f k a0 t2).bind fun t3 => (if (t3.length : Int) > 8 then (some (-1)) else ((i_alfilref24_match.f k t3 a1 0 [true, true, true, true, true, true, true, true]).bind fun t5 => (some t5))))
set_option maxHeartbeats 40000000 in
set_option maxRecDepth 100000 in
theorem i_alfilref24_Least.calls (k : Nat) (a0 : List Int) (a1 : Int) (hla0 : a0.length = 64) (r1 : Int) (w : World) (h : i_alfilref24_Least.f k a0 a1 = some r1) :
    Calls Try.prog 42 #[.agg (bv a0), .int .i64 a1] w fun e w' => e = .returned (.int .i64 r1) ∧ Below w.heap.size w w' := by
 have LN_a0 := hid hla0
 clear hla0
 have HL := hid (Below.refl w.heap.size w)
 have H : ((i_alfilref24_man.f 1 a1).bind fun t2 => ((i_alfilref03_Where.f k a0 t2).bind fun t3 => (if (t3.length : Int) > 8 then (some (-1)) else ((i_alfilref24_match.f k t3 a1 0 [true, true, true, true, true, true, true, true]).bind fun t5 => (some t5))))) = some r1 := h
 clear h
 replace H := Option.bind_eq_some_iff.mp H
 obtain ⟨t2, A6_, H⟩ := H
 have A6 := hid A6_
 clear A6_
 replace H := Option.bind_eq_some_iff.mp H
 obtain ⟨t3, A7_, H⟩ := H
 have A7 := hid A7_
 clear A7_
 by_cases c8 : (t3.length : Int) > 8
 ·
  rw [if_pos c8] at H
  have c8b0 : decide (8 < (t3.length : Int)) = true := decide_eq_true c8
  have c8b1 : decide (8 < t3.length) = true := decide_eq_true (by omega)
  have hc8 := hid c8
  clear c8
  obtain rfl := Option.some.inj H
  clear H
  go_enter Try.func42, Try.ntmps42
  go_wp2_with (first
   | ((with_reducible refine gate_d (N := 2) rfl ?_); obtain ⟨gb1, hgb1⟩ : ∃ g_, w.heap.size = g_ := ⟨_, rfl⟩; refine ag_box (bv a0) gb1 hgb1 rfl _ rfl rfl ?_; intro w9 hb_ hB_ hs_; have GEb1 : Hid (w.heap.size ≤ gb1) := hid (by have := HL.out.size; omega); replace HL := hid (HL.out.trans (hb_.mono GEb1.out)); have BKb1 := hid hB_; clear hb_ hB_ hs_ hgb1))
  (try simp only [Act.put, sI, sZ, sS])
  have WR64 := i64_w
  have WR32 := i32_w
  have WR8 := u8_w
  have WRU := u32_w
  refine sq_region (fun w'_ => Below w.heap.size w w'_ ∧ Blk w'_ gb1 44 (bv a0) ∧ True) [3] [(0, 1), (1, 2), (2, 0), (3, 0), (4, 2)] (by kernel_rfl) (by kernel_rfl) (by kernel_rfl) rfl ?_
  intro w10 hb_
  replace BKb1 := hid (BKb1.out.below hb_ BKb1.out.lt)
  replace HL := hid (HL.out.trans (hb_.mono HL.out.size))
  clear hb_
  refine sq_take (.agg (bv a0)) ⟨HL.out, BKb1.out, trivial⟩ rfl (fun w'_ hS_ => ex_load boardT gb1 0 (bv a0) (bv a0) hS_.2.1 (av_le LN_a0.out) (av_ex LN_a0.out) _ rfl rfl) rfl rfl ?_
  intro ts_ ht_; simp only [sI, sZ, sS] at ht_; subst ht_
  refine sq_pure (.int .i64 a1) rfl (fun w'_ => ex_mv (.tmp 1) (.inl rfl) _ rfl) rfl rfl ?_
  intro ts_ ht_; simp only [sI, sZ, sS] at ht_; subst ht_
  refine sq_act rfl (fun Q'_ hQ_ => ?_)
  refine wl_call 74 #[.int .i64 1, .int .i64 a1] (by go_simp) rfl ((i_alfilref24_man.calls 1 a1 t2 _ A6.out).mono ?_)
  rintro e_ w' ⟨rfl, rfl⟩
  refine ⟨_, rfl, ?_⟩
  refine hQ_ _ _ (fun _ => ⟨HL.out, BKb1.out, trivial⟩) ?_
  clear hQ_ Q'_
  simp only [Act.put, sI, sZ, sS]
  refine sq_act rfl (fun Q'_ hQ_ => ?_)
  refine wl_call 73 #[.agg (bv a0), .int .i64 t2] (by go_simp) rfl ((i_alfilref03_Where.calls k a0 t2 LN_a0.out t3 _ A7.out).mono ?_)
  rintro e_ w13 ⟨ut3, rfl, so_t3, hb_⟩
  replace so_t3 := so_t3.mono HL.out.size
  have SWn_t3 := hid so_t3
  clear so_t3
  replace BKb1 := hid (BKb1.out.below hb_ BKb1.out.lt)
  replace HL := hid (HL.out.trans (hb_.mono HL.out.size))
  clear hb_
  have SWt3 := SWn_t3
  clear SWn_t3
  refine ⟨_, rfl, ?_⟩
  refine hQ_ _ _ (fun h_ => absurd h_ (by decide)) ?_
  clear hQ_ Q'_
  simp only [Act.put, sI, sZ, sS]
  refine sq_pure (ut3) rfl (fun w'_ => ex_mv (.tmp 10) (.inr rfl) _ rfl) rfl rfl ?_
  intro ts_ ht_; simp only [sI, sZ, sS] at ht_; subst ht_
  refine sq_end ?_
  clear WR64 WR32 WR8 WRU
  go_wp2_with (first
   | ((with_reducible refine gate_d (N := 12) rfl ?_); obtain ⟨A14, c15, hv16⟩ := SWt3.out.sl.shape; rw [List.length_map] at hv16; refine ag_fix (.int .i64 (t3.length : Int)) (ex_len us27 _ _ _ _ hv16 _ rfl rfl) rfl ?_; clear hv16))
  (try simp only [Act.put, sI, sZ, sS])
  go_ret
  exact ⟨by first | rfl | (simp; done) | (simp [*]; done), HL.out⟩
 ·
  rw [if_neg c8] at H
  have c8b0 : decide (8 < (t3.length : Int)) = false := decide_eq_false c8
  have c8b1 : decide (8 < t3.length) = false := decide_eq_false (by omega)
  have hc8 := hid c8
  clear c8
  replace H := Option.bind_eq_some_iff.mp H
  obtain ⟨t5, A17_, H⟩ := H
  have A17 := hid A17_
  clear A17_
  obtain rfl := Option.some.inj H
  clear H
  go_enter Try.func42, Try.ntmps42
  go_wp2_with (first
   | ((with_reducible refine gate_d (N := 2) rfl ?_); obtain ⟨gb1, hgb1⟩ : ∃ g_, w.heap.size = g_ := ⟨_, rfl⟩; refine ag_box (bv a0) gb1 hgb1 rfl _ rfl rfl ?_; intro w18 hb_ hB_ hs_; have GEb1 : Hid (w.heap.size ≤ gb1) := hid (by have := HL.out.size; omega); replace HL := hid (HL.out.trans (hb_.mono GEb1.out)); have BKb1 := hid hB_; clear hb_ hB_ hs_ hgb1))
  (try simp only [Act.put, sI, sZ, sS])
  have WR64 := i64_w
  have WR32 := i32_w
  have WR8 := u8_w
  have WRU := u32_w
  refine sq_region (fun w'_ => Below w.heap.size w w'_ ∧ Blk w'_ gb1 44 (bv a0) ∧ True) [3] [(0, 1), (1, 2), (2, 0), (3, 0), (4, 2)] (by kernel_rfl) (by kernel_rfl) (by kernel_rfl) rfl ?_
  intro w19 hb_
  replace BKb1 := hid (BKb1.out.below hb_ BKb1.out.lt)
  replace HL := hid (HL.out.trans (hb_.mono HL.out.size))
  clear hb_
  refine sq_take (.agg (bv a0)) ⟨HL.out, BKb1.out, trivial⟩ rfl (fun w'_ hS_ => ex_load boardT gb1 0 (bv a0) (bv a0) hS_.2.1 (av_le LN_a0.out) (av_ex LN_a0.out) _ rfl rfl) rfl rfl ?_
  intro ts_ ht_; simp only [sI, sZ, sS] at ht_; subst ht_
  refine sq_pure (.int .i64 a1) rfl (fun w'_ => ex_mv (.tmp 1) (.inl rfl) _ rfl) rfl rfl ?_
  intro ts_ ht_; simp only [sI, sZ, sS] at ht_; subst ht_
  refine sq_act rfl (fun Q'_ hQ_ => ?_)
  refine wl_call 74 #[.int .i64 1, .int .i64 a1] (by go_simp) rfl ((i_alfilref24_man.calls 1 a1 t2 _ A6.out).mono ?_)
  rintro e_ w' ⟨rfl, rfl⟩
  refine ⟨_, rfl, ?_⟩
  refine hQ_ _ _ (fun _ => ⟨HL.out, BKb1.out, trivial⟩) ?_
  clear hQ_ Q'_
  simp only [Act.put, sI, sZ, sS]
  refine sq_act rfl (fun Q'_ hQ_ => ?_)
  refine wl_call 73 #[.agg (bv a0), .int .i64 t2] (by go_simp) rfl ((i_alfilref03_Where.calls k a0 t2 LN_a0.out t3 _ A7.out).mono ?_)
  rintro e_ w22 ⟨ut3, rfl, so_t3, hb_⟩
  replace so_t3 := so_t3.mono HL.out.size
  have SWn_t3 := hid so_t3
  clear so_t3
  replace BKb1 := hid (BKb1.out.below hb_ BKb1.out.lt)
  replace HL := hid (HL.out.trans (hb_.mono HL.out.size))
  clear hb_
  have SWt3 := SWn_t3
  clear SWn_t3
  refine ⟨_, rfl, ?_⟩
  refine hQ_ _ _ (fun h_ => absurd h_ (by decide)) ?_
  clear hQ_ Q'_
  simp only [Act.put, sI, sZ, sS]
  refine sq_pure (ut3) rfl (fun w'_ => ex_mv (.tmp 10) (.inr rfl) _ rfl) rfl rfl ?_
  intro ts_ ht_; simp only [sI, sZ, sS] at ht_; subst ht_
  refine sq_end ?_
  clear WR64 WR32 WR8 WRU
  have k27 := True.intro
  go_wp2_with (first
   | ((with_reducible refine gate_d (N := 12) rfl ?_); obtain ⟨A23, c24, hv25⟩ := SWt3.out.sl.shape; rw [List.length_map] at hv25; refine ag_fix (.int .i64 (t3.length : Int)) (ex_len us27 _ _ _ _ hv25 _ rfl rfl) rfl ?_; clear hv25)
   | ((with_reducible refine gate_d (N := 14) rfl ?_); obtain ⟨go4, hgo4⟩ : ∃ g_, w22.heap.size = g_ := ⟨_, rfl⟩; refine ag_litn (e := 4) 8 #[.bool true, .bool true, .bool true, .bool true, .bool true, .bool true, .bool true, .bool true] go4 hgo4 rfl _ rfl (fun w_ => by (try simp only [List.map_toArray, List.map_cons, List.map_nil]); kernel_rfl) ?_; intro w26 hb_ hB_ hs_; have GEo4 : Hid (w.heap.size ≤ go4) := hid (by have := HL.out.size; omega); have NBb1_o4 : Hid (gb1 ≠ go4) := hid (by have := BKb1.out.lt; omega); have NBo4_b1 : Hid (go4 ≠ gb1) := hid (by have := NBb1_o4.out; omega); replace BKb1 := hid (BKb1.out.below hb_ (by rw [← hgo4]; exact BKb1.out.lt)); replace SWt3 := hid (SWt3.out.below (by rw [hgo4]; exact hb_)); replace HL := hid (HL.out.trans (hb_.mono GEo4.out)); have BKo4 := hid hB_; clear hb_ hB_ hs_ hgo4; obtain ⟨uo4, hu_⟩ : ∃ u_, u_ = (Value.slice (some ⟨go4, 0, none⟩) 8 8) := ⟨_, rfl⟩; have SWo4 : Hid (Own w26 w.heap.size 4 (uo4) ([true, true, true, true, true, true, true, true].map Value.bool)) := hid (by rw [hu_]; exact Own.lit GEo4.out BKo4.out rfl (by simp [maxLen])); rw [← hu_]; clear hu_ BKo4)
   | (go_at_call 75; clear k27; refine (i_alfilref24_match.calls k (ut3) t3 a1 0 (uo4) [true, true, true, true, true, true, true, true] t5 _ SWt3.out.sl SWo4.out.sl A17.out).mono ?_; rintro e_ w28 ⟨rfl, hb_⟩; replace BKb1 := hid (BKb1.out.below hb_ BKb1.out.lt); replace SWt3 := hid (SWt3.out.below hb_); replace SWo4 := hid (SWo4.out.below hb_); replace HL := hid (HL.out.trans (hb_.mono HL.out.size)); clear hb_))
  (try simp only [Act.put, sI, sZ, sS])
  go_ret
  exact ⟨by first | rfl | (simp; done) | (simp [*]; done), HL.out⟩
/-! i_alfilref24_over: function 78 -/
def i_alfilref24_over.f (a0 : Int) (a1 : Int) : Option (Int) := if a0 > a1 then (some (wrap64 (a0 - a1))) else (some 0)
set_option maxHeartbeats 40000000 in
set_option maxRecDepth 100000 in
theorem i_alfilref24_over.calls (a0 : Int) (a1 : Int) (r1 : Int) (w : World) (h : i_alfilref24_over.f a0 a1 = some r1) :
    Calls Try.prog 78 #[.int .i64 a0, .int .i64 a1] w fun e w' => e = .returned (.int .i64 r1) ∧ w = w' := by
 have H : (if a0 > a1 then (some (wrap64 (a0 - a1))) else (some 0)) = some r1 := h
 clear h
 by_cases c1 : a0 > a1
 ·
  rw [if_pos c1] at H
  have c1b0 : decide (a1 < a0) = true := decide_eq_true c1
  have hc1 := hid c1
  clear c1
  obtain rfl := Option.some.inj H
  clear H
  go_enter Try.func78, Try.ntmps78
  go_wp2_with fail
  (try simp only [Act.put, sI, sZ, sS])
  go_ret
  exact ⟨by first | rfl | (simp; done) | (simp [*]; done), rfl⟩
 ·
  rw [if_neg c1] at H
  have c1b0 : decide (a1 < a0) = false := decide_eq_false c1
  have hc1 := hid c1
  clear c1
  obtain rfl := Option.some.inj H
  clear H
  go_enter Try.func78, Try.ntmps78
  go_wp2_with fail
  (try simp only [Act.put, sI, sZ, sS])
  go_ret
  exact ⟨by first | rfl | (simp; done) | (simp [*]; done), rfl⟩
/-! i_alfilref24_Promoted: function 43 -/
def i_alfilref24_Promoted.l0 : Nat → List Int → Int → List Int → Int → Int → Int → Option (Int)
  | 0, _, _, _, _, _, _ => none
  | k + 1, a0, a1, t3, x5_0, x6_0, x8_0 => if x8_0 < (t3.length : Int) then (if 0 ≤ x8_0 then ((i_alfilref01_File.f k (nt t3 x8_0.toNat 0)).bind fun t20 => ((i_alfilref01_Rank.f k (nt t3 x8_0.toNat 0)).bind fun t22 => (if (Int.tmod (wrap64 (t20 + t22)) 2) = 0 then (i_alfilref24_Promoted.l0 k a0 a1 t3 (wrap64 (x5_0 + 1)) x6_0 (wrap64 (x8_0 + 1))) else (i_alfilref24_Promoted.l0 k a0 a1 t3 x5_0 (wrap64 (x6_0 + 1)) (wrap64 (x8_0 + 1)))))) else (none)) else ((i_alfilref24_over.f x5_0 1).bind fun t23 => ((i_alfilref24_over.f x6_0 1).bind fun t24 => ((i_alfilref24_man.f 2 a1).bind fun t25 => ((i_alfilref03_Where.f k a0 t25).bind fun t26 => ((i_alfilref24_over.f (t26.length : Int) 2).bind fun t27 => ((i_alfilref24_man.f 4 a1).bind fun t28 => ((i_alfilref03_Where.f k a0 t28).bind fun t29 => ((i_alfilref24_over.f (t29.length : Int) 2).bind fun t30 => ((i_alfilref24_man.f 5 a1).bind fun t31 => ((i_alfilref03_Where.f k a0 t31).bind fun t32 => ((i_alfilref24_over.f (t32.length : Int) 1).bind fun t33 => (some (wrap64 ((wrap64 ((wrap64 ((wrap64 (t23 + t24)) + t27)) + t30)) + t33))))))))))))))
def i_alfilref24_Promoted.f (k : Nat) (a0 : List Int) (a1 : Int) : Option (Int) := (i_alfilref24_man.f 3 a1).bind fun t2 => ((i_alfilref03_Where.f k a0 t2).bind fun t3 => (i_alfilref24_Promoted.l0 k a0 a1 t3 0 0 0))
set_option maxHeartbeats 40000000 in
set_option maxRecDepth 100000 in
theorem i_alfilref24_Promoted.calls (k : Nat) (a0 : List Int) (a1 : Int) (hla0 : a0.length = 64) (r1 : Int) (w : World) (h : i_alfilref24_Promoted.f k a0 a1 = some r1) :
    Calls Try.prog 43 #[.agg (bv a0), .int .i64 a1] w fun e w' => e = .returned (.int .i64 r1) ∧ Below w.heap.size w w' := by
 have LN_a0 := hid hla0
 clear hla0
 have HL := hid (Below.refl w.heap.size w)
 have H : ((i_alfilref24_man.f 3 a1).bind fun t2 => ((i_alfilref03_Where.f k a0 t2).bind fun t3 => (i_alfilref24_Promoted.l0 k a0 a1 t3 0 0 0))) = some r1 := h
 clear h
 replace H := Option.bind_eq_some_iff.mp H
 obtain ⟨t2, A34_, H⟩ := H
 have A34 := hid A34_
 clear A34_
 replace H := Option.bind_eq_some_iff.mp H
 obtain ⟨t3, A35_, H⟩ := H
 have A35 := hid A35_
 clear A35_
 have H' := hid H
 clear H
 go_enter Try.func43, Try.ntmps43
 go_wp2_with (first
  | ((with_reducible refine gate_d (N := 2) rfl ?_); obtain ⟨gb1, hgb1⟩ : ∃ g_, w.heap.size = g_ := ⟨_, rfl⟩; refine ag_box (bv a0) gb1 hgb1 rfl _ rfl rfl ?_; intro w36 hb_ hB_ hs_; have GEb1 : Hid (w.heap.size ≤ gb1) := hid (by have := HL.out.size; omega); replace HL := hid (HL.out.trans (hb_.mono GEb1.out)); have BKb1 := hid hB_; clear hb_ hB_ hs_ hgb1))
 (try simp only [Act.put, sI, sZ, sS])
 have WR64 := i64_w
 have WR32 := i32_w
 have WR8 := u8_w
 have WRU := u32_w
 refine sq_region (fun w'_ => Below w.heap.size w w'_ ∧ Blk w'_ gb1 44 (bv a0) ∧ True) [3] [(0, 1), (1, 2), (2, 0), (3, 0), (4, 2)] (by kernel_rfl) (by kernel_rfl) (by kernel_rfl) rfl ?_
 intro w37 hb_
 replace BKb1 := hid (BKb1.out.below hb_ BKb1.out.lt)
 replace HL := hid (HL.out.trans (hb_.mono HL.out.size))
 clear hb_
 refine sq_take (.agg (bv a0)) ⟨HL.out, BKb1.out, trivial⟩ rfl (fun w'_ hS_ => ex_load boardT gb1 0 (bv a0) (bv a0) hS_.2.1 (av_le LN_a0.out) (av_ex LN_a0.out) _ rfl rfl) rfl rfl ?_
 intro ts_ ht_; simp only [sI, sZ, sS] at ht_; subst ht_
 refine sq_pure (.int .i64 a1) rfl (fun w'_ => ex_mv (.tmp 1) (.inl rfl) _ rfl) rfl rfl ?_
 intro ts_ ht_; simp only [sI, sZ, sS] at ht_; subst ht_
 refine sq_act rfl (fun Q'_ hQ_ => ?_)
 refine wl_call 74 #[.int .i64 3, .int .i64 a1] (by go_simp) rfl ((i_alfilref24_man.calls 3 a1 t2 _ A34.out).mono ?_)
 rintro e_ w' ⟨rfl, rfl⟩
 refine ⟨_, rfl, ?_⟩
 refine hQ_ _ _ (fun _ => ⟨HL.out, BKb1.out, trivial⟩) ?_
 clear hQ_ Q'_
 simp only [Act.put, sI, sZ, sS]
 refine sq_act rfl (fun Q'_ hQ_ => ?_)
 refine wl_call 73 #[.agg (bv a0), .int .i64 t2] (by go_simp) rfl ((i_alfilref03_Where.calls k a0 t2 LN_a0.out t3 _ A35.out).mono ?_)
 rintro e_ w40 ⟨ut3, rfl, so_t3, hb_⟩
 replace so_t3 := so_t3.mono HL.out.size
 have SWn_t3 := hid so_t3
 clear so_t3
 replace BKb1 := hid (BKb1.out.below hb_ BKb1.out.lt)
 replace HL := hid (HL.out.trans (hb_.mono HL.out.size))
 clear hb_
 have SWt3 := SWn_t3
 clear SWn_t3
 refine ⟨_, rfl, ?_⟩
 refine hQ_ _ _ (fun h_ => absurd h_ (by decide)) ?_
 clear hQ_ Q'_
 simp only [Act.put, sI, sZ, sS]
 refine sq_pure (ut3) rfl (fun w'_ => ex_mv (.tmp 13) (.inr rfl) _ rfl) rfl rfl ?_
 intro ts_ ht_; simp only [sI, sZ, sS] at ht_; subst ht_
 refine sq_end ?_
 clear WR64 WR32 WR8 WRU
 go_wp2_with fail
 (try simp only [Act.put, sI, sZ, sS])
 go_loopg [5, 6, 8] k (fun kq v5 v6 v8 w' => ∃ (x5_0 : Int) (x6_0 : Int) (x8_0 : Int), v5 = .int .i64 x5_0 ∧ v6 = .int .i64 x6_0 ∧ v8 = .int .i64 x8_0 ∧ Hid (i_alfilref24_Promoted.l0 kq a0 a1 t3 x5_0 x6_0 x8_0 = some r1) ∧ Hid (kq ≤ k) ∧ Hid (Blk w' gb1 44 (bv a0)) ∧ Hid (Own w' w.heap.size 3 (ut3) (t3.map (Value.int .i64))) ∧ Hid (Below w.heap.size w w'))
 case atStart => exact ⟨(0 : Int), (0 : Int), (0 : Int), (by first | rfl | (simp; done) | (simp [*]; done)), (by first | rfl | (simp; done) | (simp [*]; done)), (by first | rfl | (simp; done) | (simp [*]; done)), H', (hid (by first | omega | (omega))), (hid (by exact BKb1.out)), SWt3, HL⟩
 case round =>
  clear H'
  clear HL BKb1 SWt3
  obtain ⟨x5_0, x6_0, x8_0, rfl, rfl, rfl, HA, HK41, BKb1, SWt3, HL⟩ := hrel
  cases gk with
  | zero => exact absurd HA.out (by simp [i_alfilref24_Promoted.l0])
  | succ k42 =>
   have H := HA.out
   clear HA
   simp only [i_alfilref24_Promoted.l0] at H
   by_cases c43 : x8_0 < (t3.length : Int)
   ·
    rw [if_pos c43] at H
    have c43b0 : decide (x8_0 < (t3.length : Int)) = true := decide_eq_true c43
    have hc43 := hid c43
    clear c43
    by_cases c44 : 0 ≤ x8_0
    ·
     rw [if_pos c44] at H
     have c44b0 : decide (0 ≤ x8_0) = true := decide_eq_true c44
     have hc44 := hid c44
     clear c44
     replace H := Option.bind_eq_some_iff.mp H
     obtain ⟨t20, A45_, H⟩ := H
     have A45 := hid A45_
     clear A45_
     replace H := Option.bind_eq_some_iff.mp H
     obtain ⟨t22, A46_, H⟩ := H
     have A46 := hid A46_
     clear A46_
     by_cases c47 : (Int.tmod (wrap64 (t20 + t22)) 2) = 0
     ·
      rw [if_pos c47] at H
      have c47b0 : ((Int.tmod (wrap64 (t20 + t22)) 2) == 0) = true := beq_iff_eq.mpr c47
      have c47b1 : ((Int.tmod (wrap64 (t20 + t22)) 2) != 0) = false := bne_eq_false_iff_eq.mpr c47
      have hc47 := hid c47
      clear c47
      have H' := hid H
      clear H
      go_wp2_with (first
       | ((with_reducible refine gate_d (N := 16) rfl ?_); obtain ⟨A48, c49, hv50⟩ := SWt3.out.sl.shape; rw [List.length_map] at hv50; refine ag_fix (.int .i64 (t3.length : Int)) (ex_len us27 _ _ _ _ hv50 _ rfl rfl) rfl ?_; clear hv50))
      (try simp only [Act.put, sI, sZ, sS])
      obtain ⟨ad19, c_22, hv_22, hc_22⟩ := Sl.get (l := t3) (f := (Value.int .i64)) SWt3.out.sl 0 (i := x8_0) hc44.out hc43.out
      have HV_22 := hid hv_22
      have HCad19 := hid hc_22
      clear hv_22 hc_22
      obtain ⟨ad21, c_27, hv_27, hc_27⟩ := Sl.get (l := t3) (f := (Value.int .i64)) SWt3.out.sl 0 (i := x8_0) hc44.out hc43.out
      have HV_27 := hid hv_27
      have HCad21 := hid hc_27
      clear hv_27 hc_27
      have WR64 := i64_w
      have WR32 := i32_w
      refine up_regionW (by kernel_rfl) (by kernel_rfl) ?_
      refine q_do (ut3) (fun w'_ hc_ => ex_mv (.tmp 7) (.inl rfl) _ rfl) rfl rfl ?_
      intro ts_ ht_; simp only [sI, sZ, sS] at ht_; subst ht_
      refine q_do (.int .i64 x8_0) (fun w'_ hc_ => ex_mv (.tmp 8) (.inl rfl) _ rfl) rfl rfl ?_
      intro ts_ ht_; simp only [sI, sZ, sS] at ht_; subst ht_
      refine q_do (.pointer (some (ad19.add x8_0.toNat))) (fun w'_ hc_ => by obtain ⟨n_, hn_⟩ := hc_; exact ex_sat _ _ x8_0 _ _ HV_22.out hc44.out hc43.out us27 sT3 _ _ rfl rfl rfl) rfl rfl ?_
      intro ts_ ht_; simp only [sI, sZ, sS] at ht_; subst ht_
      refine q_do (.int .i64 (nt t3 x8_0.toNat 0)) (fun w'_ hc_ => by obtain ⟨n_, hn_⟩ := hc_; exact ex_scell sT3 _ _ (by rw [hn_]; exact (n_.below.cell (World.block_lt_of_cell? _ _ HCad19.out)).trans HCad19.out) _ rfl rfl) rfl rfl ?_
      intro ts_ ht_; simp only [sI, sZ, sS] at ht_; subst ht_
      refine q_call (.int .i64 t20) 76 #[.int .i64 (nt t3 x8_0.toNat 0)] (fun w'_ => by go_simp) (fun w'_ hc_ => (i_alfilref01_File.calls k42 (nt t3 x8_0.toNat 0) t20 _ A45.out).mono fun e_ w2_ h_ => ⟨h_.1, up_same hc_ h_.2⟩) rfl rfl ?_
      intro ts_ ht_; simp only [sI, sZ, sS] at ht_; subst ht_
      refine q_do (ut3) (fun w'_ hc_ => ex_mv (.tmp 7) (.inl rfl) _ rfl) rfl rfl ?_
      intro ts_ ht_; simp only [sI, sZ, sS] at ht_; subst ht_
      refine q_do (.int .i64 x8_0) (fun w'_ hc_ => ex_mv (.tmp 8) (.inl rfl) _ rfl) rfl rfl ?_
      intro ts_ ht_; simp only [sI, sZ, sS] at ht_; subst ht_
      refine q_do (.pointer (some (ad21.add x8_0.toNat))) (fun w'_ hc_ => by obtain ⟨n_, hn_⟩ := hc_; exact ex_sat _ _ x8_0 _ _ HV_27.out hc44.out hc43.out us27 sT3 _ _ rfl rfl rfl) rfl rfl ?_
      intro ts_ ht_; simp only [sI, sZ, sS] at ht_; subst ht_
      refine q_do (.int .i64 (nt t3 x8_0.toNat 0)) (fun w'_ hc_ => by obtain ⟨n_, hn_⟩ := hc_; exact ex_scell sT3 _ _ (by rw [hn_]; exact (n_.below.cell (World.block_lt_of_cell? _ _ HCad21.out)).trans HCad21.out) _ rfl rfl) rfl rfl ?_
      intro ts_ ht_; simp only [sI, sZ, sS] at ht_; subst ht_
      refine q_call (.int .i64 t22) 77 #[.int .i64 (nt t3 x8_0.toNat 0)] (fun w'_ => by go_simp) (fun w'_ hc_ => (i_alfilref01_Rank.calls k42 (nt t3 x8_0.toNat 0) t22 _ A46.out).mono fun e_ w2_ h_ => ⟨h_.1, up_same hc_ h_.2⟩) rfl rfl ?_
      intro ts_ ht_; simp only [sI, sZ, sS] at ht_; subst ht_
      refine q_do (.int .i64 (wrap64 (t20 + t22))) (fun w'_ hc_ => by go_simp <;> (unfold wrap64; omega)) rfl rfl ?_
      intro ts_ ht_; simp only [sI, sZ, sS] at ht_; subst ht_
      refine q_do (.int .i64 (Int.tmod (wrap64 (t20 + t22)) 2)) (fun w'_ hc_ => by go_simp <;> (unfold wrap64; omega)) rfl rfl ?_
      intro ts_ ht_; simp only [sI, sZ, sS] at ht_; subst ht_
      refine q_do (.bool true) (fun w'_ hc_ => by go_simp <;> (unfold wrap64; omega)) rfl rfl ?_
      intro ts_ ht_; simp only [sI, sZ, sS] at ht_; subst ht_
      refine q_end ?_
      rintro w8_ ⟨n_, rfl⟩
      replace BKb1 := hid (BKb1.out.below n_.below BKb1.out.lt)
      replace SWt3 := hid (SWt3.out.below n_.below)
      replace HL := hid (HL.out.trans (n_.below.mono HL.out.size))
      generalize n_.world = w51 at *
      clear n_ WR64 WR32
      go_wp2_with fail
      (try simp only [Act.put, sI, sZ, sS])
      go_roundg k42
      case measure => have := HK41.out; omega
      case rel => exact ⟨wrap64 (x5_0 + 1), x6_0, wrap64 (x8_0 + 1), (by first | rfl | (simp; done) | (simp [*]; done)), (by first | rfl | (simp; done) | (simp [*]; done)), (by first | rfl | (simp; done) | (simp [*]; done)), H', (hid (by first | omega | (have := HK41.out; omega))), (hid (by exact BKb1.out)), SWt3, HL⟩
     ·
      rw [if_neg c47] at H
      have c47b0 : ((Int.tmod (wrap64 (t20 + t22)) 2) == 0) = false := beq_eq_false_iff_ne.mpr c47
      have c47b1 : ((Int.tmod (wrap64 (t20 + t22)) 2) != 0) = true := bne_iff_ne.mpr c47
      have hc47 := hid c47
      clear c47
      have H' := hid H
      clear H
      go_wp2_with (first
       | ((with_reducible refine gate_d (N := 16) rfl ?_); obtain ⟨A52, c53, hv54⟩ := SWt3.out.sl.shape; rw [List.length_map] at hv54; refine ag_fix (.int .i64 (t3.length : Int)) (ex_len us27 _ _ _ _ hv54 _ rfl rfl) rfl ?_; clear hv54))
      (try simp only [Act.put, sI, sZ, sS])
      obtain ⟨ad19, c_22, hv_22, hc_22⟩ := Sl.get (l := t3) (f := (Value.int .i64)) SWt3.out.sl 0 (i := x8_0) hc44.out hc43.out
      have HV_22 := hid hv_22
      have HCad19 := hid hc_22
      clear hv_22 hc_22
      obtain ⟨ad21, c_27, hv_27, hc_27⟩ := Sl.get (l := t3) (f := (Value.int .i64)) SWt3.out.sl 0 (i := x8_0) hc44.out hc43.out
      have HV_27 := hid hv_27
      have HCad21 := hid hc_27
      clear hv_27 hc_27
      have WR64 := i64_w
      have WR32 := i32_w
      refine up_regionW (by kernel_rfl) (by kernel_rfl) ?_
      refine q_do (ut3) (fun w'_ hc_ => ex_mv (.tmp 7) (.inl rfl) _ rfl) rfl rfl ?_
      intro ts_ ht_; simp only [sI, sZ, sS] at ht_; subst ht_
      refine q_do (.int .i64 x8_0) (fun w'_ hc_ => ex_mv (.tmp 8) (.inl rfl) _ rfl) rfl rfl ?_
      intro ts_ ht_; simp only [sI, sZ, sS] at ht_; subst ht_
      refine q_do (.pointer (some (ad19.add x8_0.toNat))) (fun w'_ hc_ => by obtain ⟨n_, hn_⟩ := hc_; exact ex_sat _ _ x8_0 _ _ HV_22.out hc44.out hc43.out us27 sT3 _ _ rfl rfl rfl) rfl rfl ?_
      intro ts_ ht_; simp only [sI, sZ, sS] at ht_; subst ht_
      refine q_do (.int .i64 (nt t3 x8_0.toNat 0)) (fun w'_ hc_ => by obtain ⟨n_, hn_⟩ := hc_; exact ex_scell sT3 _ _ (by rw [hn_]; exact (n_.below.cell (World.block_lt_of_cell? _ _ HCad19.out)).trans HCad19.out) _ rfl rfl) rfl rfl ?_
      intro ts_ ht_; simp only [sI, sZ, sS] at ht_; subst ht_
      refine q_call (.int .i64 t20) 76 #[.int .i64 (nt t3 x8_0.toNat 0)] (fun w'_ => by go_simp) (fun w'_ hc_ => (i_alfilref01_File.calls k42 (nt t3 x8_0.toNat 0) t20 _ A45.out).mono fun e_ w2_ h_ => ⟨h_.1, up_same hc_ h_.2⟩) rfl rfl ?_
      intro ts_ ht_; simp only [sI, sZ, sS] at ht_; subst ht_
      refine q_do (ut3) (fun w'_ hc_ => ex_mv (.tmp 7) (.inl rfl) _ rfl) rfl rfl ?_
      intro ts_ ht_; simp only [sI, sZ, sS] at ht_; subst ht_
      refine q_do (.int .i64 x8_0) (fun w'_ hc_ => ex_mv (.tmp 8) (.inl rfl) _ rfl) rfl rfl ?_
      intro ts_ ht_; simp only [sI, sZ, sS] at ht_; subst ht_
      refine q_do (.pointer (some (ad21.add x8_0.toNat))) (fun w'_ hc_ => by obtain ⟨n_, hn_⟩ := hc_; exact ex_sat _ _ x8_0 _ _ HV_27.out hc44.out hc43.out us27 sT3 _ _ rfl rfl rfl) rfl rfl ?_
      intro ts_ ht_; simp only [sI, sZ, sS] at ht_; subst ht_
      refine q_do (.int .i64 (nt t3 x8_0.toNat 0)) (fun w'_ hc_ => by obtain ⟨n_, hn_⟩ := hc_; exact ex_scell sT3 _ _ (by rw [hn_]; exact (n_.below.cell (World.block_lt_of_cell? _ _ HCad21.out)).trans HCad21.out) _ rfl rfl) rfl rfl ?_
      intro ts_ ht_; simp only [sI, sZ, sS] at ht_; subst ht_
      refine q_call (.int .i64 t22) 77 #[.int .i64 (nt t3 x8_0.toNat 0)] (fun w'_ => by go_simp) (fun w'_ hc_ => (i_alfilref01_Rank.calls k42 (nt t3 x8_0.toNat 0) t22 _ A46.out).mono fun e_ w2_ h_ => ⟨h_.1, up_same hc_ h_.2⟩) rfl rfl ?_
      intro ts_ ht_; simp only [sI, sZ, sS] at ht_; subst ht_
      refine q_do (.int .i64 (wrap64 (t20 + t22))) (fun w'_ hc_ => by go_simp <;> (unfold wrap64; omega)) rfl rfl ?_
      intro ts_ ht_; simp only [sI, sZ, sS] at ht_; subst ht_
      refine q_do (.int .i64 (Int.tmod (wrap64 (t20 + t22)) 2)) (fun w'_ hc_ => by go_simp <;> (unfold wrap64; omega)) rfl rfl ?_
      intro ts_ ht_; simp only [sI, sZ, sS] at ht_; subst ht_
      refine q_do (.bool false) (fun w'_ hc_ => by go_simp <;> (unfold wrap64; omega)) rfl rfl ?_
      intro ts_ ht_; simp only [sI, sZ, sS] at ht_; subst ht_
      refine q_end ?_
      rintro w8_ ⟨n_, rfl⟩
      replace BKb1 := hid (BKb1.out.below n_.below BKb1.out.lt)
      replace SWt3 := hid (SWt3.out.below n_.below)
      replace HL := hid (HL.out.trans (n_.below.mono HL.out.size))
      generalize n_.world = w55 at *
      clear n_ WR64 WR32
      go_wp2_with fail
      (try simp only [Act.put, sI, sZ, sS])
      go_roundg k42
      case measure => have := HK41.out; omega
      case rel => exact ⟨x5_0, wrap64 (x6_0 + 1), wrap64 (x8_0 + 1), (by first | rfl | (simp; done) | (simp [*]; done)), (by first | rfl | (simp; done) | (simp [*]; done)), (by first | rfl | (simp; done) | (simp [*]; done)), H', (hid (by first | omega | (have := HK41.out; omega))), (hid (by exact BKb1.out)), SWt3, HL⟩
    ·
     rw [if_neg c44] at H
     exact absurd H (by simp)
   ·
    rw [if_neg c43] at H
    have c43b0 : decide (x8_0 < (t3.length : Int)) = false := decide_eq_false c43
    have hc43 := hid c43
    clear c43
    replace H := Option.bind_eq_some_iff.mp H
    obtain ⟨t23, A56_, H⟩ := H
    have A56 := hid A56_
    clear A56_
    replace H := Option.bind_eq_some_iff.mp H
    obtain ⟨t24, A57_, H⟩ := H
    have A57 := hid A57_
    clear A57_
    replace H := Option.bind_eq_some_iff.mp H
    obtain ⟨t25, A58_, H⟩ := H
    have A58 := hid A58_
    clear A58_
    replace H := Option.bind_eq_some_iff.mp H
    obtain ⟨t26, A59_, H⟩ := H
    have A59 := hid A59_
    clear A59_
    replace H := Option.bind_eq_some_iff.mp H
    obtain ⟨t27, A60_, H⟩ := H
    have A60 := hid A60_
    clear A60_
    replace H := Option.bind_eq_some_iff.mp H
    obtain ⟨t28, A61_, H⟩ := H
    have A61 := hid A61_
    clear A61_
    replace H := Option.bind_eq_some_iff.mp H
    obtain ⟨t29, A62_, H⟩ := H
    have A62 := hid A62_
    clear A62_
    replace H := Option.bind_eq_some_iff.mp H
    obtain ⟨t30, A63_, H⟩ := H
    have A63 := hid A63_
    clear A63_
    replace H := Option.bind_eq_some_iff.mp H
    obtain ⟨t31, A64_, H⟩ := H
    have A64 := hid A64_
    clear A64_
    replace H := Option.bind_eq_some_iff.mp H
    obtain ⟨t32, A65_, H⟩ := H
    have A65 := hid A65_
    clear A65_
    replace H := Option.bind_eq_some_iff.mp H
    obtain ⟨t33, A66_, H⟩ := H
    have A66 := hid A66_
    clear A66_
    obtain rfl := Option.some.inj H
    clear H
    have k70 := True.intro
    have k71 := True.intro
    go_wp2_with (first
     | ((with_reducible refine gate_d (N := 16) rfl ?_); obtain ⟨A67, c68, hv69⟩ := SWt3.out.sl.shape; rw [List.length_map] at hv69; refine ag_fix (.int .i64 (t3.length : Int)) (ex_len us27 _ _ _ _ hv69 _ rfl rfl) rfl ?_; clear hv69)
     | (go_at_call 78; clear k70; refine (i_alfilref24_over.calls x5_0 1 t23 _ A56.out).mono ?_; rintro e_ w' ⟨rfl, rfl⟩)
     | (go_at_call 78; clear k71; refine (i_alfilref24_over.calls x6_0 1 t24 _ A57.out).mono ?_; rintro e_ w' ⟨rfl, rfl⟩))
    (try simp only [Act.put, sI, sZ, sS])
    have WR64 := i64_w
    have WR32 := i32_w
    have WR8 := u8_w
    have WRU := u32_w
    refine sq_region (fun w'_ => Below w.heap.size w w'_ ∧ Blk w'_ gb1 44 (bv a0) ∧ Own w'_ w.heap.size 3 (ut3) (t3.map (Value.int .i64)) ∧ True) [4] [(0, 2), (1, 1), (2, 2), (3, 0), (4, 0), (5, 2), (6, 0), (7, 2), (8, 2)] (by kernel_rfl) (by kernel_rfl) (by kernel_rfl) rfl ?_
    intro w72 hb_
    replace BKb1 := hid (BKb1.out.below hb_ BKb1.out.lt)
    replace SWt3 := hid (SWt3.out.below hb_)
    replace HL := hid (HL.out.trans (hb_.mono HL.out.size))
    clear hb_
    refine sq_pure (.int .i64 (wrap64 (t23 + t24))) rfl (fun w'_ => ex_mv (.tmp 9) (.inl rfl) _ rfl) rfl rfl ?_
    intro ts_ ht_; simp only [sI, sZ, sS] at ht_; subst ht_
    refine sq_take (.agg (bv a0)) ⟨HL.out, BKb1.out, SWt3.out, trivial⟩ rfl (fun w'_ hS_ => ex_load boardT gb1 0 (bv a0) (bv a0) hS_.2.1 (av_le LN_a0.out) (av_ex LN_a0.out) _ rfl rfl) rfl rfl ?_
    intro ts_ ht_; simp only [sI, sZ, sS] at ht_; subst ht_
    refine sq_pure (.int .i64 a1) rfl (fun w'_ => ex_mv (.tmp 1) (.inl rfl) _ rfl) rfl rfl ?_
    intro ts_ ht_; simp only [sI, sZ, sS] at ht_; subst ht_
    refine sq_act rfl (fun Q'_ hQ_ => ?_)
    refine wl_call 74 #[.int .i64 2, .int .i64 a1] (by go_simp) rfl ((i_alfilref24_man.calls 2 a1 t25 _ A58.out).mono ?_)
    rintro e_ w' ⟨rfl, rfl⟩
    refine ⟨_, rfl, ?_⟩
    refine hQ_ _ _ (fun _ => ⟨HL.out, BKb1.out, SWt3.out, trivial⟩) ?_
    clear hQ_ Q'_
    simp only [Act.put, sI, sZ, sS]
    refine sq_act rfl (fun Q'_ hQ_ => ?_)
    refine wl_call 73 #[.agg (bv a0), .int .i64 t25] (by go_simp) rfl ((i_alfilref03_Where.calls k42 a0 t25 LN_a0.out t26 _ A59.out).mono ?_)
    rintro e_ w75 ⟨ut26, rfl, so_t26, hb_⟩
    replace so_t26 := so_t26.mono HL.out.size
    have SWn_t26 := hid so_t26
    clear so_t26
    replace BKb1 := hid (BKb1.out.below hb_ BKb1.out.lt)
    replace SWt3 := hid (SWt3.out.below hb_)
    replace HL := hid (HL.out.trans (hb_.mono HL.out.size))
    clear hb_
    have SWt26 := SWn_t26
    clear SWn_t26
    refine ⟨_, rfl, ?_⟩
    refine hQ_ _ _ (fun h_ => absurd h_ (by decide)) ?_
    clear hQ_ Q'_
    simp only [Act.put, sI, sZ, sS]
    obtain ⟨A_47, c_47, hv_47⟩ := SWt26.out.sl.shape
    rw [List.length_map] at hv_47
    have HV_47 := hid hv_47
    clear hv_47
    refine sq_pure (.int .i64 (t26.length : Int)) rfl (fun w'_ => ex_len us27 _ _ _ _ HV_47.out _ rfl rfl) rfl rfl ?_
    intro ts_ ht_; simp only [sI, sZ, sS] at ht_; subst ht_
    refine sq_act rfl (fun Q'_ hQ_ => ?_)
    refine wl_call 78 #[.int .i64 (t26.length : Int), .int .i64 2] (by go_simp) rfl ((i_alfilref24_over.calls (t26.length : Int) 2 t27 _ A60.out).mono ?_)
    rintro e_ w' ⟨rfl, rfl⟩
    refine ⟨_, rfl, ?_⟩
    refine hQ_ _ _ (fun _ => ⟨HL.out, BKb1.out, SWt3.out, trivial⟩) ?_
    clear hQ_ Q'_
    simp only [Act.put, sI, sZ, sS]
    refine sq_pure (.int .i64 (wrap64 ((wrap64 (t23 + t24)) + t27))) rfl (fun w'_ => by go_simp <;> (unfold wrap64; omega)) rfl rfl ?_
    intro ts_ ht_; simp only [sI, sZ, sS] at ht_; subst ht_
    refine sq_pure (.int .i64 (wrap64 ((wrap64 (t23 + t24)) + t27))) rfl (fun w'_ => ex_mv (.tmp 49) (.inr rfl) _ rfl) rfl rfl ?_
    intro ts_ ht_; simp only [sI, sZ, sS] at ht_; subst ht_
    refine sq_end ?_
    clear WR64 WR32 WR8 WRU
    go_wp2_with fail
    (try simp only [Act.put, sI, sZ, sS])
    have WR64 := i64_w
    have WR32 := i32_w
    have WR8 := u8_w
    have WRU := u32_w
    refine sq_region (fun w'_ => Below w.heap.size w w'_ ∧ Blk w'_ gb1 44 (bv a0) ∧ Own w'_ w.heap.size 3 (ut3) (t3.map (Value.int .i64)) ∧ Own w'_ w.heap.size 3 (ut26) (t26.map (Value.int .i64)) ∧ True) [4] [(0, 2), (1, 1), (2, 2), (3, 0), (4, 0), (5, 2), (6, 0), (7, 2), (8, 2)] (by kernel_rfl) (by kernel_rfl) (by kernel_rfl) rfl ?_
    intro w77 hb_
    replace BKb1 := hid (BKb1.out.below hb_ BKb1.out.lt)
    replace SWt3 := hid (SWt3.out.below hb_)
    replace SWt26 := hid (SWt26.out.below hb_)
    replace HL := hid (HL.out.trans (hb_.mono HL.out.size))
    clear hb_
    refine sq_pure (.int .i64 (wrap64 ((wrap64 (t23 + t24)) + t27))) rfl (fun w'_ => ex_mv (.tmp 9) (.inl rfl) _ rfl) rfl rfl ?_
    intro ts_ ht_; simp only [sI, sZ, sS] at ht_; subst ht_
    refine sq_take (.agg (bv a0)) ⟨HL.out, BKb1.out, SWt3.out, SWt26.out, trivial⟩ rfl (fun w'_ hS_ => ex_load boardT gb1 0 (bv a0) (bv a0) hS_.2.1 (av_le LN_a0.out) (av_ex LN_a0.out) _ rfl rfl) rfl rfl ?_
    intro ts_ ht_; simp only [sI, sZ, sS] at ht_; subst ht_
    refine sq_pure (.int .i64 a1) rfl (fun w'_ => ex_mv (.tmp 1) (.inl rfl) _ rfl) rfl rfl ?_
    intro ts_ ht_; simp only [sI, sZ, sS] at ht_; subst ht_
    refine sq_act rfl (fun Q'_ hQ_ => ?_)
    refine wl_call 74 #[.int .i64 4, .int .i64 a1] (by go_simp) rfl ((i_alfilref24_man.calls 4 a1 t28 _ A61.out).mono ?_)
    rintro e_ w' ⟨rfl, rfl⟩
    refine ⟨_, rfl, ?_⟩
    refine hQ_ _ _ (fun _ => ⟨HL.out, BKb1.out, SWt3.out, SWt26.out, trivial⟩) ?_
    clear hQ_ Q'_
    simp only [Act.put, sI, sZ, sS]
    refine sq_act rfl (fun Q'_ hQ_ => ?_)
    refine wl_call 73 #[.agg (bv a0), .int .i64 t28] (by go_simp) rfl ((i_alfilref03_Where.calls k42 a0 t28 LN_a0.out t29 _ A62.out).mono ?_)
    rintro e_ w80 ⟨ut29, rfl, so_t29, hb_⟩
    replace so_t29 := so_t29.mono HL.out.size
    have SWn_t29 := hid so_t29
    clear so_t29
    replace BKb1 := hid (BKb1.out.below hb_ BKb1.out.lt)
    replace SWt3 := hid (SWt3.out.below hb_)
    replace SWt26 := hid (SWt26.out.below hb_)
    replace HL := hid (HL.out.trans (hb_.mono HL.out.size))
    clear hb_
    have SWt29 := SWn_t29
    clear SWn_t29
    refine ⟨_, rfl, ?_⟩
    refine hQ_ _ _ (fun h_ => absurd h_ (by decide)) ?_
    clear hQ_ Q'_
    simp only [Act.put, sI, sZ, sS]
    obtain ⟨A_55, c_55, hv_55⟩ := SWt29.out.sl.shape
    rw [List.length_map] at hv_55
    have HV_55 := hid hv_55
    clear hv_55
    refine sq_pure (.int .i64 (t29.length : Int)) rfl (fun w'_ => ex_len us27 _ _ _ _ HV_55.out _ rfl rfl) rfl rfl ?_
    intro ts_ ht_; simp only [sI, sZ, sS] at ht_; subst ht_
    refine sq_act rfl (fun Q'_ hQ_ => ?_)
    refine wl_call 78 #[.int .i64 (t29.length : Int), .int .i64 2] (by go_simp) rfl ((i_alfilref24_over.calls (t29.length : Int) 2 t30 _ A63.out).mono ?_)
    rintro e_ w' ⟨rfl, rfl⟩
    refine ⟨_, rfl, ?_⟩
    refine hQ_ _ _ (fun _ => ⟨HL.out, BKb1.out, SWt3.out, SWt26.out, trivial⟩) ?_
    clear hQ_ Q'_
    simp only [Act.put, sI, sZ, sS]
    refine sq_pure (.int .i64 (wrap64 ((wrap64 ((wrap64 (t23 + t24)) + t27)) + t30))) rfl (fun w'_ => by go_simp <;> (unfold wrap64; omega)) rfl rfl ?_
    intro ts_ ht_; simp only [sI, sZ, sS] at ht_; subst ht_
    refine sq_pure (.int .i64 (wrap64 ((wrap64 ((wrap64 (t23 + t24)) + t27)) + t30))) rfl (fun w'_ => ex_mv (.tmp 57) (.inr rfl) _ rfl) rfl rfl ?_
    intro ts_ ht_; simp only [sI, sZ, sS] at ht_; subst ht_
    refine sq_end ?_
    clear WR64 WR32 WR8 WRU
    go_wp2_with fail
    (try simp only [Act.put, sI, sZ, sS])
    have WR64 := i64_w
    have WR32 := i32_w
    have WR8 := u8_w
    have WRU := u32_w
    refine sq_region (fun w'_ => Below w.heap.size w w'_ ∧ Blk w'_ gb1 44 (bv a0) ∧ Own w'_ w.heap.size 3 (ut3) (t3.map (Value.int .i64)) ∧ Own w'_ w.heap.size 3 (ut26) (t26.map (Value.int .i64)) ∧ Own w'_ w.heap.size 3 (ut29) (t29.map (Value.int .i64)) ∧ True) [4] [(0, 2), (1, 1), (2, 2), (3, 0), (4, 0), (5, 2), (6, 0), (7, 2), (8, 2)] (by kernel_rfl) (by kernel_rfl) (by kernel_rfl) rfl ?_
    intro w82 hb_
    replace BKb1 := hid (BKb1.out.below hb_ BKb1.out.lt)
    replace SWt3 := hid (SWt3.out.below hb_)
    replace SWt26 := hid (SWt26.out.below hb_)
    replace SWt29 := hid (SWt29.out.below hb_)
    replace HL := hid (HL.out.trans (hb_.mono HL.out.size))
    clear hb_
    refine sq_pure (.int .i64 (wrap64 ((wrap64 ((wrap64 (t23 + t24)) + t27)) + t30))) rfl (fun w'_ => ex_mv (.tmp 9) (.inl rfl) _ rfl) rfl rfl ?_
    intro ts_ ht_; simp only [sI, sZ, sS] at ht_; subst ht_
    refine sq_take (.agg (bv a0)) ⟨HL.out, BKb1.out, SWt3.out, SWt26.out, SWt29.out, trivial⟩ rfl (fun w'_ hS_ => ex_load boardT gb1 0 (bv a0) (bv a0) hS_.2.1 (av_le LN_a0.out) (av_ex LN_a0.out) _ rfl rfl) rfl rfl ?_
    intro ts_ ht_; simp only [sI, sZ, sS] at ht_; subst ht_
    refine sq_pure (.int .i64 a1) rfl (fun w'_ => ex_mv (.tmp 1) (.inl rfl) _ rfl) rfl rfl ?_
    intro ts_ ht_; simp only [sI, sZ, sS] at ht_; subst ht_
    refine sq_act rfl (fun Q'_ hQ_ => ?_)
    refine wl_call 74 #[.int .i64 5, .int .i64 a1] (by go_simp) rfl ((i_alfilref24_man.calls 5 a1 t31 _ A64.out).mono ?_)
    rintro e_ w' ⟨rfl, rfl⟩
    refine ⟨_, rfl, ?_⟩
    refine hQ_ _ _ (fun _ => ⟨HL.out, BKb1.out, SWt3.out, SWt26.out, SWt29.out, trivial⟩) ?_
    clear hQ_ Q'_
    simp only [Act.put, sI, sZ, sS]
    refine sq_act rfl (fun Q'_ hQ_ => ?_)
    refine wl_call 73 #[.agg (bv a0), .int .i64 t31] (by go_simp) rfl ((i_alfilref03_Where.calls k42 a0 t31 LN_a0.out t32 _ A65.out).mono ?_)
    rintro e_ w85 ⟨ut32, rfl, so_t32, hb_⟩
    replace so_t32 := so_t32.mono HL.out.size
    have SWn_t32 := hid so_t32
    clear so_t32
    replace BKb1 := hid (BKb1.out.below hb_ BKb1.out.lt)
    replace SWt3 := hid (SWt3.out.below hb_)
    replace SWt26 := hid (SWt26.out.below hb_)
    replace SWt29 := hid (SWt29.out.below hb_)
    replace HL := hid (HL.out.trans (hb_.mono HL.out.size))
    clear hb_
    have SWt32 := SWn_t32
    clear SWn_t32
    refine ⟨_, rfl, ?_⟩
    refine hQ_ _ _ (fun h_ => absurd h_ (by decide)) ?_
    clear hQ_ Q'_
    simp only [Act.put, sI, sZ, sS]
    obtain ⟨A_63, c_63, hv_63⟩ := SWt32.out.sl.shape
    rw [List.length_map] at hv_63
    have HV_63 := hid hv_63
    clear hv_63
    refine sq_pure (.int .i64 (t32.length : Int)) rfl (fun w'_ => ex_len us27 _ _ _ _ HV_63.out _ rfl rfl) rfl rfl ?_
    intro ts_ ht_; simp only [sI, sZ, sS] at ht_; subst ht_
    refine sq_act rfl (fun Q'_ hQ_ => ?_)
    refine wl_call 78 #[.int .i64 (t32.length : Int), .int .i64 1] (by go_simp) rfl ((i_alfilref24_over.calls (t32.length : Int) 1 t33 _ A66.out).mono ?_)
    rintro e_ w' ⟨rfl, rfl⟩
    refine ⟨_, rfl, ?_⟩
    refine hQ_ _ _ (fun _ => ⟨HL.out, BKb1.out, SWt3.out, SWt26.out, SWt29.out, trivial⟩) ?_
    clear hQ_ Q'_
    simp only [Act.put, sI, sZ, sS]
    refine sq_pure (.int .i64 (wrap64 ((wrap64 ((wrap64 ((wrap64 (t23 + t24)) + t27)) + t30)) + t33))) rfl (fun w'_ => by go_simp <;> (unfold wrap64; omega)) rfl rfl ?_
    intro ts_ ht_; simp only [sI, sZ, sS] at ht_; subst ht_
    refine sq_pure (.int .i64 (wrap64 ((wrap64 ((wrap64 ((wrap64 (t23 + t24)) + t27)) + t30)) + t33))) rfl (fun w'_ => ex_mv (.tmp 65) (.inr rfl) _ rfl) rfl rfl ?_
    intro ts_ ht_; simp only [sI, sZ, sS] at ht_; subst ht_
    refine sq_end ?_
    clear WR64 WR32 WR8 WRU
    go_wp2_with fail
    (try simp only [Act.put, sI, sZ, sS])
    go_ret
    exact ⟨by first | rfl | (simp; done) | (simp [*]; done), HL.out⟩
/-! i_alfilref03_Wrong: function 65 -/
def i_alfilref03_Wrong.l0 : Nat → List Int → Int → Option (Int)
  | 0, _, _ => none
  | k + 1, a0, x3_0 => if x3_0 < 8 then (if 0 ≤ x3_0 then (if x3_0 < 64 then (if (nt a0 x3_0.toNat 0) = 1 then (some 7) else (if (nt a0 x3_0.toNat 0) = (-1) then (some 7) else (if 0 ≤ (wrap64 (56 + x3_0)) then (if (wrap64 (56 + x3_0)) < 64 then (if (nt a0 ((wrap64 (56 + x3_0)).toNat) 0) = 1 then (some 7) else (if (nt a0 ((wrap64 (56 + x3_0)).toNat) 0) = (-1) then (some 7) else (i_alfilref03_Wrong.l0 k a0 (wrap64 (x3_0 + 1))))) else (none)) else (none)))) else (none)) else (none)) else ((i_alfilref03_Many.f k a0 0 0).bind fun t7 => (if t7 > 16 then (some 8) else ((i_alfilref03_Many.f k a0 0 1).bind fun t8 => (if t8 > 16 then (some 8) else (some 0)))))
def i_alfilref03_Wrong.f (k : Nat) (a0 : List Int) : Option (Int) := (i_alfilref03_Right.f k a0).bind fun t2 => (if t2 = true then ((i_alfilref03_Where.f k a0 6).bind fun t3 => (if (t3.length : Int) = 1 then ((i_alfilref03_Where.f k a0 (-6)).bind fun t4 => (if (t4.length : Int) = 1 then (i_alfilref03_Wrong.l0 k a0 0) else (some 6))) else (some 6))) else (some 5))
set_option maxHeartbeats 40000000 in
set_option maxRecDepth 100000 in
theorem i_alfilref03_Wrong.calls (k : Nat) (a0 : List Int) (hla0 : a0.length = 64) (r1 : Int) (w : World) (h : i_alfilref03_Wrong.f k a0 = some r1) :
    Calls Try.prog 65 #[.agg (bv a0)] w fun e w' => e = .returned (.int .i64 r1) ∧ Below w.heap.size w w' := by
 have LN_a0 := hid hla0
 clear hla0
 have HL := hid (Below.refl w.heap.size w)
 have H : ((i_alfilref03_Right.f k a0).bind fun t2 => (if t2 = true then ((i_alfilref03_Where.f k a0 6).bind fun t3 => (if (t3.length : Int) = 1 then ((i_alfilref03_Where.f k a0 (-6)).bind fun t4 => (if (t4.length : Int) = 1 then (i_alfilref03_Wrong.l0 k a0 0) else (some 6))) else (some 6))) else (some 5))) = some r1 := h
 clear h
 replace H := Option.bind_eq_some_iff.mp H
 obtain ⟨t2, A9_, H⟩ := H
 have A9 := hid A9_
 clear A9_
 cases t2 with
 | true =>
  rw [if_pos rfl] at H
  have H' := hid H
  clear H
  go_enter Try.func65, Try.ntmps65
  have k13 := True.intro
  go_wp2_with (first
   | ((with_reducible refine gate_d (N := 1) rfl ?_); obtain ⟨gb1, hgb1⟩ : ∃ g_, w.heap.size = g_ := ⟨_, rfl⟩; refine ag_box (bv a0) gb1 hgb1 rfl _ rfl rfl ?_; intro w12 hb_ hB_ hs_; have GEb1 : Hid (w.heap.size ≤ gb1) := hid (by have := HL.out.size; omega); replace HL := hid (HL.out.trans (hb_.mono GEb1.out)); have BKb1 := hid hB_; clear hb_ hB_ hs_ hgb1)
   | ((with_reducible refine gate_d (N := 4) rfl ?_); refine ag_fix (.agg (bv a0)) (ex_load boardT gb1 0 (bv a0) (bv a0) BKb1.out (av_le LN_a0.out) (av_ex LN_a0.out) _ rfl rfl) rfl ?_)
   | (go_at_call 37; clear k13; refine (i_alfilref03_Right.calls k a0 LN_a0.out true _ A9.out).mono ?_; rintro e_ w14 ⟨rfl, hb_⟩; replace BKb1 := hid (BKb1.out.below hb_ BKb1.out.lt); replace HL := hid (HL.out.trans (hb_.mono HL.out.size)); clear hb_)
   | ((with_reducible refine gate_d (N := 7) rfl ?_); refine ag_fix (.agg (bv a0)) (ex_load boardT gb1 0 (bv a0) (bv a0) BKb1.out (av_le LN_a0.out) (av_ex LN_a0.out) _ rfl rfl) rfl ?_))
  (try simp only [Act.put, sI, sZ, sS])
  have H := H'.out
  clear H'
  replace H := Option.bind_eq_some_iff.mp H
  obtain ⟨t3, A11_, H⟩ := H
  have A11 := hid A11_
  clear A11_
  by_cases c15 : (t3.length : Int) = 1
  ·
   rw [if_pos c15] at H
   have c15b0 : ((t3.length : Int) == 1) = true := beq_iff_eq.mpr c15
   have c15b1 : ((t3.length : Int) != 1) = false := bne_eq_false_iff_eq.mpr c15
   have hc15 := hid c15
   clear c15
   have H' := hid H
   clear H
   have k17 := True.intro
   go_wp2_with (first
    | (go_at_call 73; clear k17; refine (i_alfilref03_Where.calls k a0 6 LN_a0.out t3 _ A11.out).mono ?_; rintro e_ w18 ⟨ut3, rfl, so_t3, hb_⟩; replace so_t3 := so_t3.mono HL.out.size; have SWn_t3 := hid so_t3; clear so_t3; replace BKb1 := hid (BKb1.out.below hb_ BKb1.out.lt); replace HL := hid (HL.out.trans (hb_.mono HL.out.size)); clear hb_; have SWt3 := SWn_t3; clear SWn_t3)
    | ((with_reducible refine gate_d (N := 9) rfl ?_); obtain ⟨A19, c20, hv21⟩ := SWt3.out.sl.shape; rw [List.length_map] at hv21; refine ag_fix (.int .i64 (t3.length : Int)) (ex_len us27 _ _ _ _ hv21 _ rfl rfl) rfl ?_; clear hv21)
    | ((with_reducible refine gate_d (N := 12) rfl ?_); refine ag_fix (.agg (bv a0)) (ex_load boardT gb1 0 (bv a0) (bv a0) BKb1.out (av_le LN_a0.out) (av_ex LN_a0.out) _ rfl rfl) rfl ?_))
   (try simp only [Act.put, sI, sZ, sS])
   have H := H'.out
   clear H'
   replace H := Option.bind_eq_some_iff.mp H
   obtain ⟨t4, A16_, H⟩ := H
   have A16 := hid A16_
   clear A16_
   by_cases c22 : (t4.length : Int) = 1
   ·
    rw [if_pos c22] at H
    have c22b0 : ((t4.length : Int) == 1) = true := beq_iff_eq.mpr c22
    have c22b1 : ((t4.length : Int) != 1) = false := bne_eq_false_iff_eq.mpr c22
    have hc22 := hid c22
    clear c22
    have H' := hid H
    clear H
    have k23 := True.intro
    go_wp2_with (first
     | (go_at_call 73; clear k23; refine (i_alfilref03_Where.calls k a0 (-6) LN_a0.out t4 _ A16.out).mono ?_; rintro e_ w24 ⟨ut4, rfl, so_t4, hb_⟩; replace so_t4 := so_t4.mono HL.out.size; have SWn_t4 := hid so_t4; clear so_t4; replace BKb1 := hid (BKb1.out.below hb_ BKb1.out.lt); replace SWt3 := hid (SWt3.out.below hb_); replace HL := hid (HL.out.trans (hb_.mono HL.out.size)); clear hb_; have SWt4 := SWn_t4; clear SWn_t4)
     | ((with_reducible refine gate_d (N := 14) rfl ?_); obtain ⟨A25, c26, hv27⟩ := SWt4.out.sl.shape; rw [List.length_map] at hv27; refine ag_fix (.int .i64 (t4.length : Int)) (ex_len us27 _ _ _ _ hv27 _ rfl rfl) rfl ?_; clear hv27))
    (try simp only [Act.put, sI, sZ, sS])
    go_loopg [3] k (fun kq v3 w' => ∃ (x3_0 : Int), v3 = .int .i64 x3_0 ∧ Hid (i_alfilref03_Wrong.l0 kq a0 x3_0 = some r1) ∧ Hid (kq ≤ k) ∧ Hid (Blk w' gb1 44 (bv a0)) ∧ Hid (Own w' w.heap.size 3 (ut3) (t3.map (Value.int .i64))) ∧ Hid (Own w' w.heap.size 3 (ut4) (t4.map (Value.int .i64))) ∧ Hid (Below w.heap.size w w'))
    case atStart => exact ⟨(0 : Int), (by first | rfl | (simp; done) | (simp [*]; done)), H', (hid (by first | omega | (omega))), (hid (by exact BKb1.out)), SWt3, SWt4, HL⟩
    case round =>
     clear H'
     clear HL BKb1 SWt3 SWt4
     obtain ⟨x3_0, rfl, HA, HK28, BKb1, SWt3, SWt4, HL⟩ := hrel
     cases gk with
     | zero => exact absurd HA.out (by simp [i_alfilref03_Wrong.l0])
     | succ k29 =>
      have H := HA.out
      clear HA
      simp only [i_alfilref03_Wrong.l0] at H
      by_cases c30 : x3_0 < 8
      ·
       rw [if_pos c30] at H
       have c30b0 : decide (x3_0 < 8) = true := decide_eq_true c30
       have hc30 := hid c30
       clear c30
       by_cases c31 : 0 ≤ x3_0
       ·
        rw [if_pos c31] at H
        have c31b0 : decide (0 ≤ x3_0) = true := decide_eq_true c31
        have hc31 := hid c31
        clear c31
        by_cases c32 : x3_0 < 64
        ·
         rw [if_pos c32] at H
         have c32b0 : decide (x3_0 < 64) = true := decide_eq_true c32
         have hc32 := hid c32
         clear c32
         by_cases c33 : (nt a0 x3_0.toNat 0) = 1
         ·
          rw [if_pos c33] at H
          have c33b0 : ((nt a0 x3_0.toNat 0) == 1) = true := beq_iff_eq.mpr c33
          have c33b1 : ((nt a0 x3_0.toNat 0) != 1) = false := bne_eq_false_iff_eq.mpr c33
          have hc33 := hid c33
          clear c33
          obtain rfl := Option.some.inj H
          clear H
          go_wp2_with (first
           | ((with_reducible refine gate_d (N := 22) rfl ?_); refine ag_fix (.pointer (some ⟨gb1, x3_0.toNat, none⟩)) (ex_at 44 (.pointer (some ⟨gb1, 0, none⟩)) (.int .i64 x3_0) (.pointer (some ⟨gb1, x3_0.toNat, none⟩)) (fun w_ => (run_atv 42 uT44 sT42.size gb1 0 x3_0 hc31.out hc32.out w_).trans (by simp)) _ _ rfl rfl rfl) rfl ?_)
           | ((with_reducible refine gate_d (N := 23) rfl ?_); refine ag_fix (.int .i8 (nt a0 x3_0.toNat 0)) (ex_get sT42 gb1 (x3_0.toNat) (.int .i8 (nt a0 x3_0.toNat 0)) ((bv a0)) BKb1.out (av_get 0 (by have h_ : a0.length = 64 := LN_a0.out; have h1_ := hc31.out; have h2_ := hc32.out; omega)) _ rfl rfl) rfl ?_))
          (try simp only [Act.put, sI, sZ, sS])
          go_ret
          exact ⟨by first | rfl | (simp; done) | (simp [*]; done), HL.out⟩
         ·
          rw [if_neg c33] at H
          have c33b0 : ((nt a0 x3_0.toNat 0) == 1) = false := beq_eq_false_iff_ne.mpr c33
          have c33b1 : ((nt a0 x3_0.toNat 0) != 1) = true := bne_iff_ne.mpr c33
          have hc33 := hid c33
          clear c33
          by_cases c34 : (nt a0 x3_0.toNat 0) = (-1)
          ·
           rw [if_pos c34] at H
           have c34b0 : ((nt a0 x3_0.toNat 0) == (-1)) = true := beq_iff_eq.mpr c34
           have c34b1 : ((nt a0 x3_0.toNat 0) != (-1)) = false := bne_eq_false_iff_eq.mpr c34
           have hc34 := hid c34
           clear c34
           obtain rfl := Option.some.inj H
           clear H
           go_wp2_with (first
            | ((with_reducible refine gate_d (N := 22) rfl ?_); refine ag_fix (.pointer (some ⟨gb1, x3_0.toNat, none⟩)) (ex_at 44 (.pointer (some ⟨gb1, 0, none⟩)) (.int .i64 x3_0) (.pointer (some ⟨gb1, x3_0.toNat, none⟩)) (fun w_ => (run_atv 42 uT44 sT42.size gb1 0 x3_0 hc31.out hc32.out w_).trans (by simp)) _ _ rfl rfl rfl) rfl ?_)
            | ((with_reducible refine gate_d (N := 23) rfl ?_); refine ag_fix (.int .i8 (nt a0 x3_0.toNat 0)) (ex_get sT42 gb1 (x3_0.toNat) (.int .i8 (nt a0 x3_0.toNat 0)) ((bv a0)) BKb1.out (av_get 0 (by have h_ : a0.length = 64 := LN_a0.out; have h1_ := hc31.out; have h2_ := hc32.out; omega)) _ rfl rfl) rfl ?_)
            | ((with_reducible refine gate_d (N := 27) rfl ?_); refine ag_fix (.pointer (some ⟨gb1, x3_0.toNat, none⟩)) (ex_at 44 (.pointer (some ⟨gb1, 0, none⟩)) (.int .i64 x3_0) (.pointer (some ⟨gb1, x3_0.toNat, none⟩)) (fun w_ => (run_atv 42 uT44 sT42.size gb1 0 x3_0 hc31.out hc32.out w_).trans (by simp)) _ _ rfl rfl rfl) rfl ?_)
            | ((with_reducible refine gate_d (N := 28) rfl ?_); refine ag_fix (.int .i8 (nt a0 x3_0.toNat 0)) (ex_get sT42 gb1 (x3_0.toNat) (.int .i8 (nt a0 x3_0.toNat 0)) ((bv a0)) BKb1.out (av_get 0 (by have h_ : a0.length = 64 := LN_a0.out; have h1_ := hc31.out; have h2_ := hc32.out; omega)) _ rfl rfl) rfl ?_))
           (try simp only [Act.put, sI, sZ, sS])
           go_ret
           exact ⟨by first | rfl | (simp; done) | (simp [*]; done), HL.out⟩
          ·
           rw [if_neg c34] at H
           have c34b0 : ((nt a0 x3_0.toNat 0) == (-1)) = false := beq_eq_false_iff_ne.mpr c34
           have c34b1 : ((nt a0 x3_0.toNat 0) != (-1)) = true := bne_iff_ne.mpr c34
           have hc34 := hid c34
           clear c34
           by_cases c35 : 0 ≤ (wrap64 (56 + x3_0))
           ·
            rw [if_pos c35] at H
            have c35b0 : decide (0 ≤ (wrap64 (56 + x3_0))) = true := decide_eq_true c35
            have hc35 := hid c35
            clear c35
            by_cases c36 : (wrap64 (56 + x3_0)) < 64
            ·
             rw [if_pos c36] at H
             have c36b0 : decide ((wrap64 (56 + x3_0)) < 64) = true := decide_eq_true c36
             have hc36 := hid c36
             clear c36
             by_cases c37 : (nt a0 ((wrap64 (56 + x3_0)).toNat) 0) = 1
             ·
              rw [if_pos c37] at H
              have c37b0 : ((nt a0 ((wrap64 (56 + x3_0)).toNat) 0) == 1) = true := beq_iff_eq.mpr c37
              have c37b1 : ((nt a0 ((wrap64 (56 + x3_0)).toNat) 0) != 1) = false := bne_eq_false_iff_eq.mpr c37
              have hc37 := hid c37
              clear c37
              obtain rfl := Option.some.inj H
              clear H
              go_wp2_with (first
               | ((with_reducible refine gate_d (N := 22) rfl ?_); refine ag_fix (.pointer (some ⟨gb1, x3_0.toNat, none⟩)) (ex_at 44 (.pointer (some ⟨gb1, 0, none⟩)) (.int .i64 x3_0) (.pointer (some ⟨gb1, x3_0.toNat, none⟩)) (fun w_ => (run_atv 42 uT44 sT42.size gb1 0 x3_0 hc31.out hc32.out w_).trans (by simp)) _ _ rfl rfl rfl) rfl ?_)
               | ((with_reducible refine gate_d (N := 23) rfl ?_); refine ag_fix (.int .i8 (nt a0 x3_0.toNat 0)) (ex_get sT42 gb1 (x3_0.toNat) (.int .i8 (nt a0 x3_0.toNat 0)) ((bv a0)) BKb1.out (av_get 0 (by have h_ : a0.length = 64 := LN_a0.out; have h1_ := hc31.out; have h2_ := hc32.out; omega)) _ rfl rfl) rfl ?_)
               | ((with_reducible refine gate_d (N := 27) rfl ?_); refine ag_fix (.pointer (some ⟨gb1, x3_0.toNat, none⟩)) (ex_at 44 (.pointer (some ⟨gb1, 0, none⟩)) (.int .i64 x3_0) (.pointer (some ⟨gb1, x3_0.toNat, none⟩)) (fun w_ => (run_atv 42 uT44 sT42.size gb1 0 x3_0 hc31.out hc32.out w_).trans (by simp)) _ _ rfl rfl rfl) rfl ?_)
               | ((with_reducible refine gate_d (N := 28) rfl ?_); refine ag_fix (.int .i8 (nt a0 x3_0.toNat 0)) (ex_get sT42 gb1 (x3_0.toNat) (.int .i8 (nt a0 x3_0.toNat 0)) ((bv a0)) BKb1.out (av_get 0 (by have h_ : a0.length = 64 := LN_a0.out; have h1_ := hc31.out; have h2_ := hc32.out; omega)) _ rfl rfl) rfl ?_)
               | ((with_reducible refine gate_d (N := 34) rfl ?_); refine ag_fix (.pointer (some ⟨gb1, (wrap64 (56 + x3_0)).toNat, none⟩)) (ex_at 44 (.pointer (some ⟨gb1, 0, none⟩)) (.int .i64 (wrap64 (56 + x3_0))) (.pointer (some ⟨gb1, (wrap64 (56 + x3_0)).toNat, none⟩)) (fun w_ => (run_atv 42 uT44 sT42.size gb1 0 (wrap64 (56 + x3_0)) hc35.out hc36.out w_).trans (by simp)) _ _ rfl rfl rfl) rfl ?_)
               | ((with_reducible refine gate_d (N := 35) rfl ?_); refine ag_fix (.int .i8 (nt a0 ((wrap64 (56 + x3_0)).toNat) 0)) (ex_get sT42 gb1 ((wrap64 (56 + x3_0)).toNat) (.int .i8 (nt a0 ((wrap64 (56 + x3_0)).toNat) 0)) ((bv a0)) BKb1.out (av_get 0 (by have h_ : a0.length = 64 := LN_a0.out; have h1_ := hc35.out; have h2_ := hc36.out; omega)) _ rfl rfl) rfl ?_))
              (try simp only [Act.put, sI, sZ, sS])
              go_ret
              exact ⟨by first | rfl | (simp; done) | (simp [*]; done), HL.out⟩
             ·
              rw [if_neg c37] at H
              have c37b0 : ((nt a0 ((wrap64 (56 + x3_0)).toNat) 0) == 1) = false := beq_eq_false_iff_ne.mpr c37
              have c37b1 : ((nt a0 ((wrap64 (56 + x3_0)).toNat) 0) != 1) = true := bne_iff_ne.mpr c37
              have hc37 := hid c37
              clear c37
              by_cases c38 : (nt a0 ((wrap64 (56 + x3_0)).toNat) 0) = (-1)
              ·
               rw [if_pos c38] at H
               have c38b0 : ((nt a0 ((wrap64 (56 + x3_0)).toNat) 0) == (-1)) = true := beq_iff_eq.mpr c38
               have c38b1 : ((nt a0 ((wrap64 (56 + x3_0)).toNat) 0) != (-1)) = false := bne_eq_false_iff_eq.mpr c38
               have hc38 := hid c38
               clear c38
               obtain rfl := Option.some.inj H
               clear H
               go_wp2_with (first
                | ((with_reducible refine gate_d (N := 22) rfl ?_); refine ag_fix (.pointer (some ⟨gb1, x3_0.toNat, none⟩)) (ex_at 44 (.pointer (some ⟨gb1, 0, none⟩)) (.int .i64 x3_0) (.pointer (some ⟨gb1, x3_0.toNat, none⟩)) (fun w_ => (run_atv 42 uT44 sT42.size gb1 0 x3_0 hc31.out hc32.out w_).trans (by simp)) _ _ rfl rfl rfl) rfl ?_)
                | ((with_reducible refine gate_d (N := 23) rfl ?_); refine ag_fix (.int .i8 (nt a0 x3_0.toNat 0)) (ex_get sT42 gb1 (x3_0.toNat) (.int .i8 (nt a0 x3_0.toNat 0)) ((bv a0)) BKb1.out (av_get 0 (by have h_ : a0.length = 64 := LN_a0.out; have h1_ := hc31.out; have h2_ := hc32.out; omega)) _ rfl rfl) rfl ?_)
                | ((with_reducible refine gate_d (N := 27) rfl ?_); refine ag_fix (.pointer (some ⟨gb1, x3_0.toNat, none⟩)) (ex_at 44 (.pointer (some ⟨gb1, 0, none⟩)) (.int .i64 x3_0) (.pointer (some ⟨gb1, x3_0.toNat, none⟩)) (fun w_ => (run_atv 42 uT44 sT42.size gb1 0 x3_0 hc31.out hc32.out w_).trans (by simp)) _ _ rfl rfl rfl) rfl ?_)
                | ((with_reducible refine gate_d (N := 28) rfl ?_); refine ag_fix (.int .i8 (nt a0 x3_0.toNat 0)) (ex_get sT42 gb1 (x3_0.toNat) (.int .i8 (nt a0 x3_0.toNat 0)) ((bv a0)) BKb1.out (av_get 0 (by have h_ : a0.length = 64 := LN_a0.out; have h1_ := hc31.out; have h2_ := hc32.out; omega)) _ rfl rfl) rfl ?_)
                | ((with_reducible refine gate_d (N := 34) rfl ?_); refine ag_fix (.pointer (some ⟨gb1, (wrap64 (56 + x3_0)).toNat, none⟩)) (ex_at 44 (.pointer (some ⟨gb1, 0, none⟩)) (.int .i64 (wrap64 (56 + x3_0))) (.pointer (some ⟨gb1, (wrap64 (56 + x3_0)).toNat, none⟩)) (fun w_ => (run_atv 42 uT44 sT42.size gb1 0 (wrap64 (56 + x3_0)) hc35.out hc36.out w_).trans (by simp)) _ _ rfl rfl rfl) rfl ?_)
                | ((with_reducible refine gate_d (N := 35) rfl ?_); refine ag_fix (.int .i8 (nt a0 ((wrap64 (56 + x3_0)).toNat) 0)) (ex_get sT42 gb1 ((wrap64 (56 + x3_0)).toNat) (.int .i8 (nt a0 ((wrap64 (56 + x3_0)).toNat) 0)) ((bv a0)) BKb1.out (av_get 0 (by have h_ : a0.length = 64 := LN_a0.out; have h1_ := hc35.out; have h2_ := hc36.out; omega)) _ rfl rfl) rfl ?_)
                | ((with_reducible refine gate_d (N := 41) rfl ?_); refine ag_fix (.pointer (some ⟨gb1, (wrap64 (56 + x3_0)).toNat, none⟩)) (ex_at 44 (.pointer (some ⟨gb1, 0, none⟩)) (.int .i64 (wrap64 (56 + x3_0))) (.pointer (some ⟨gb1, (wrap64 (56 + x3_0)).toNat, none⟩)) (fun w_ => (run_atv 42 uT44 sT42.size gb1 0 (wrap64 (56 + x3_0)) hc35.out hc36.out w_).trans (by simp)) _ _ rfl rfl rfl) rfl ?_)
                | ((with_reducible refine gate_d (N := 42) rfl ?_); refine ag_fix (.int .i8 (nt a0 ((wrap64 (56 + x3_0)).toNat) 0)) (ex_get sT42 gb1 ((wrap64 (56 + x3_0)).toNat) (.int .i8 (nt a0 ((wrap64 (56 + x3_0)).toNat) 0)) ((bv a0)) BKb1.out (av_get 0 (by have h_ : a0.length = 64 := LN_a0.out; have h1_ := hc35.out; have h2_ := hc36.out; omega)) _ rfl rfl) rfl ?_))
               (try simp only [Act.put, sI, sZ, sS])
               go_ret
               exact ⟨by first | rfl | (simp; done) | (simp [*]; done), HL.out⟩
              ·
               rw [if_neg c38] at H
               have c38b0 : ((nt a0 ((wrap64 (56 + x3_0)).toNat) 0) == (-1)) = false := beq_eq_false_iff_ne.mpr c38
               have c38b1 : ((nt a0 ((wrap64 (56 + x3_0)).toNat) 0) != (-1)) = true := bne_iff_ne.mpr c38
               have hc38 := hid c38
               clear c38
               have H' := hid H
               clear H
               go_wp2_with (first
                | ((with_reducible refine gate_d (N := 22) rfl ?_); refine ag_fix (.pointer (some ⟨gb1, x3_0.toNat, none⟩)) (ex_at 44 (.pointer (some ⟨gb1, 0, none⟩)) (.int .i64 x3_0) (.pointer (some ⟨gb1, x3_0.toNat, none⟩)) (fun w_ => (run_atv 42 uT44 sT42.size gb1 0 x3_0 hc31.out hc32.out w_).trans (by simp)) _ _ rfl rfl rfl) rfl ?_)
                | ((with_reducible refine gate_d (N := 23) rfl ?_); refine ag_fix (.int .i8 (nt a0 x3_0.toNat 0)) (ex_get sT42 gb1 (x3_0.toNat) (.int .i8 (nt a0 x3_0.toNat 0)) ((bv a0)) BKb1.out (av_get 0 (by have h_ : a0.length = 64 := LN_a0.out; have h1_ := hc31.out; have h2_ := hc32.out; omega)) _ rfl rfl) rfl ?_)
                | ((with_reducible refine gate_d (N := 27) rfl ?_); refine ag_fix (.pointer (some ⟨gb1, x3_0.toNat, none⟩)) (ex_at 44 (.pointer (some ⟨gb1, 0, none⟩)) (.int .i64 x3_0) (.pointer (some ⟨gb1, x3_0.toNat, none⟩)) (fun w_ => (run_atv 42 uT44 sT42.size gb1 0 x3_0 hc31.out hc32.out w_).trans (by simp)) _ _ rfl rfl rfl) rfl ?_)
                | ((with_reducible refine gate_d (N := 28) rfl ?_); refine ag_fix (.int .i8 (nt a0 x3_0.toNat 0)) (ex_get sT42 gb1 (x3_0.toNat) (.int .i8 (nt a0 x3_0.toNat 0)) ((bv a0)) BKb1.out (av_get 0 (by have h_ : a0.length = 64 := LN_a0.out; have h1_ := hc31.out; have h2_ := hc32.out; omega)) _ rfl rfl) rfl ?_)
                | ((with_reducible refine gate_d (N := 34) rfl ?_); refine ag_fix (.pointer (some ⟨gb1, (wrap64 (56 + x3_0)).toNat, none⟩)) (ex_at 44 (.pointer (some ⟨gb1, 0, none⟩)) (.int .i64 (wrap64 (56 + x3_0))) (.pointer (some ⟨gb1, (wrap64 (56 + x3_0)).toNat, none⟩)) (fun w_ => (run_atv 42 uT44 sT42.size gb1 0 (wrap64 (56 + x3_0)) hc35.out hc36.out w_).trans (by simp)) _ _ rfl rfl rfl) rfl ?_)
                | ((with_reducible refine gate_d (N := 35) rfl ?_); refine ag_fix (.int .i8 (nt a0 ((wrap64 (56 + x3_0)).toNat) 0)) (ex_get sT42 gb1 ((wrap64 (56 + x3_0)).toNat) (.int .i8 (nt a0 ((wrap64 (56 + x3_0)).toNat) 0)) ((bv a0)) BKb1.out (av_get 0 (by have h_ : a0.length = 64 := LN_a0.out; have h1_ := hc35.out; have h2_ := hc36.out; omega)) _ rfl rfl) rfl ?_)
                | ((with_reducible refine gate_d (N := 41) rfl ?_); refine ag_fix (.pointer (some ⟨gb1, (wrap64 (56 + x3_0)).toNat, none⟩)) (ex_at 44 (.pointer (some ⟨gb1, 0, none⟩)) (.int .i64 (wrap64 (56 + x3_0))) (.pointer (some ⟨gb1, (wrap64 (56 + x3_0)).toNat, none⟩)) (fun w_ => (run_atv 42 uT44 sT42.size gb1 0 (wrap64 (56 + x3_0)) hc35.out hc36.out w_).trans (by simp)) _ _ rfl rfl rfl) rfl ?_)
                | ((with_reducible refine gate_d (N := 42) rfl ?_); refine ag_fix (.int .i8 (nt a0 ((wrap64 (56 + x3_0)).toNat) 0)) (ex_get sT42 gb1 ((wrap64 (56 + x3_0)).toNat) (.int .i8 (nt a0 ((wrap64 (56 + x3_0)).toNat) 0)) ((bv a0)) BKb1.out (av_get 0 (by have h_ : a0.length = 64 := LN_a0.out; have h1_ := hc35.out; have h2_ := hc36.out; omega)) _ rfl rfl) rfl ?_))
               (try simp only [Act.put, sI, sZ, sS])
               go_roundg k29
               case measure => have := HK28.out; omega
               case rel => exact ⟨wrap64 (x3_0 + 1), (by first | rfl | (simp; done) | (simp [*]; done)), H', (hid (by first | omega | (have := HK28.out; omega))), (hid (by exact BKb1.out)), SWt3, SWt4, HL⟩
            ·
             rw [if_neg c36] at H
             exact absurd H (by simp)
           ·
            rw [if_neg c35] at H
            exact absurd H (by simp)
        ·
         rw [if_neg c32] at H
         exact absurd H (by simp)
       ·
        rw [if_neg c31] at H
        exact absurd H (by simp)
      ·
       rw [if_neg c30] at H
       have c30b0 : decide (x3_0 < 8) = false := decide_eq_false c30
       have hc30 := hid c30
       clear c30
       replace H := Option.bind_eq_some_iff.mp H
       obtain ⟨t7, A39_, H⟩ := H
       have A39 := hid A39_
       clear A39_
       by_cases c40 : t7 > 16
       ·
        rw [if_pos c40] at H
        have c40b0 : decide (16 < t7) = true := decide_eq_true c40
        have hc40 := hid c40
        clear c40
        obtain rfl := Option.some.inj H
        clear H
        have k41 := True.intro
        go_wp2_with (first
         | ((with_reducible refine gate_d (N := 45) rfl ?_); refine ag_fix (.agg (bv a0)) (ex_load boardT gb1 0 (bv a0) (bv a0) BKb1.out (av_le LN_a0.out) (av_ex LN_a0.out) _ rfl rfl) rfl ?_)
         | (go_at_call 63; clear k41; refine (i_alfilref03_Many.calls k29 a0 0 0 LN_a0.out t7 _ A39.out).mono ?_; rintro e_ w42 ⟨rfl, hb_⟩; replace BKb1 := hid (BKb1.out.below hb_ BKb1.out.lt); replace SWt3 := hid (SWt3.out.below hb_); replace SWt4 := hid (SWt4.out.below hb_); replace HL := hid (HL.out.trans (hb_.mono HL.out.size)); clear hb_))
        (try simp only [Act.put, sI, sZ, sS])
        go_ret
        exact ⟨by first | rfl | (simp; done) | (simp [*]; done), HL.out⟩
       ·
        rw [if_neg c40] at H
        have c40b0 : decide (16 < t7) = false := decide_eq_false c40
        have hc40 := hid c40
        clear c40
        have H' := hid H
        clear H
        have k44 := True.intro
        go_wp2_with (first
         | ((with_reducible refine gate_d (N := 45) rfl ?_); refine ag_fix (.agg (bv a0)) (ex_load boardT gb1 0 (bv a0) (bv a0) BKb1.out (av_le LN_a0.out) (av_ex LN_a0.out) _ rfl rfl) rfl ?_)
         | (go_at_call 63; clear k44; refine (i_alfilref03_Many.calls k29 a0 0 0 LN_a0.out t7 _ A39.out).mono ?_; rintro e_ w45 ⟨rfl, hb_⟩; replace BKb1 := hid (BKb1.out.below hb_ BKb1.out.lt); replace SWt3 := hid (SWt3.out.below hb_); replace SWt4 := hid (SWt4.out.below hb_); replace HL := hid (HL.out.trans (hb_.mono HL.out.size)); clear hb_)
         | ((with_reducible refine gate_d (N := 49) rfl ?_); refine ag_fix (.agg (bv a0)) (ex_load boardT gb1 0 (bv a0) (bv a0) BKb1.out (av_le LN_a0.out) (av_ex LN_a0.out) _ rfl rfl) rfl ?_))
        (try simp only [Act.put, sI, sZ, sS])
        have H := H'.out
        clear H'
        replace H := Option.bind_eq_some_iff.mp H
        obtain ⟨t8, A43_, H⟩ := H
        have A43 := hid A43_
        clear A43_
        by_cases c46 : t8 > 16
        ·
         rw [if_pos c46] at H
         have c46b0 : decide (16 < t8) = true := decide_eq_true c46
         have hc46 := hid c46
         clear c46
         obtain rfl := Option.some.inj H
         clear H
         have k47 := True.intro
         go_wp2_with (first
          | (go_at_call 63; clear k47; refine (i_alfilref03_Many.calls k29 a0 0 1 LN_a0.out t8 _ A43.out).mono ?_; rintro e_ w48 ⟨rfl, hb_⟩; replace BKb1 := hid (BKb1.out.below hb_ BKb1.out.lt); replace SWt3 := hid (SWt3.out.below hb_); replace SWt4 := hid (SWt4.out.below hb_); replace HL := hid (HL.out.trans (hb_.mono HL.out.size)); clear hb_))
         (try simp only [Act.put, sI, sZ, sS])
         go_ret
         exact ⟨by first | rfl | (simp; done) | (simp [*]; done), HL.out⟩
        ·
         rw [if_neg c46] at H
         have c46b0 : decide (16 < t8) = false := decide_eq_false c46
         have hc46 := hid c46
         clear c46
         obtain rfl := Option.some.inj H
         clear H
         have k49 := True.intro
         go_wp2_with (first
          | (go_at_call 63; clear k49; refine (i_alfilref03_Many.calls k29 a0 0 1 LN_a0.out t8 _ A43.out).mono ?_; rintro e_ w50 ⟨rfl, hb_⟩; replace BKb1 := hid (BKb1.out.below hb_ BKb1.out.lt); replace SWt3 := hid (SWt3.out.below hb_); replace SWt4 := hid (SWt4.out.below hb_); replace HL := hid (HL.out.trans (hb_.mono HL.out.size)); clear hb_))
         (try simp only [Act.put, sI, sZ, sS])
         go_ret
         exact ⟨by first | rfl | (simp; done) | (simp [*]; done), HL.out⟩
   ·
    rw [if_neg c22] at H
    have c22b0 : ((t4.length : Int) == 1) = false := beq_eq_false_iff_ne.mpr c22
    have c22b1 : ((t4.length : Int) != 1) = true := bne_iff_ne.mpr c22
    have hc22 := hid c22
    clear c22
    obtain rfl := Option.some.inj H
    clear H
    have k51 := True.intro
    go_wp2_with (first
     | (go_at_call 73; clear k51; refine (i_alfilref03_Where.calls k a0 (-6) LN_a0.out t4 _ A16.out).mono ?_; rintro e_ w52 ⟨ut4, rfl, so_t4, hb_⟩; replace so_t4 := so_t4.mono HL.out.size; have SWn_t4 := hid so_t4; clear so_t4; replace BKb1 := hid (BKb1.out.below hb_ BKb1.out.lt); replace SWt3 := hid (SWt3.out.below hb_); replace HL := hid (HL.out.trans (hb_.mono HL.out.size)); clear hb_; have SWt4 := SWn_t4; clear SWn_t4)
     | ((with_reducible refine gate_d (N := 14) rfl ?_); obtain ⟨A53, c54, hv55⟩ := SWt4.out.sl.shape; rw [List.length_map] at hv55; refine ag_fix (.int .i64 (t4.length : Int)) (ex_len us27 _ _ _ _ hv55 _ rfl rfl) rfl ?_; clear hv55))
    (try simp only [Act.put, sI, sZ, sS])
    go_ret
    exact ⟨by first | rfl | (simp; done) | (simp [*]; done), HL.out⟩
  ·
   rw [if_neg c15] at H
   have c15b0 : ((t3.length : Int) == 1) = false := beq_eq_false_iff_ne.mpr c15
   have c15b1 : ((t3.length : Int) != 1) = true := bne_iff_ne.mpr c15
   have hc15 := hid c15
   clear c15
   obtain rfl := Option.some.inj H
   clear H
   have k56 := True.intro
   go_wp2_with (first
    | (go_at_call 73; clear k56; refine (i_alfilref03_Where.calls k a0 6 LN_a0.out t3 _ A11.out).mono ?_; rintro e_ w57 ⟨ut3, rfl, so_t3, hb_⟩; replace so_t3 := so_t3.mono HL.out.size; have SWn_t3 := hid so_t3; clear so_t3; replace BKb1 := hid (BKb1.out.below hb_ BKb1.out.lt); replace HL := hid (HL.out.trans (hb_.mono HL.out.size)); clear hb_; have SWt3 := SWn_t3; clear SWn_t3)
    | ((with_reducible refine gate_d (N := 9) rfl ?_); obtain ⟨A58, c59, hv60⟩ := SWt3.out.sl.shape; rw [List.length_map] at hv60; refine ag_fix (.int .i64 (t3.length : Int)) (ex_len us27 _ _ _ _ hv60 _ rfl rfl) rfl ?_; clear hv60))
   (try simp only [Act.put, sI, sZ, sS])
   go_ret
   exact ⟨by first | rfl | (simp; done) | (simp [*]; done), HL.out⟩
 | false =>
  rw [if_neg (show ¬ (false = true) by decide)] at H
  obtain rfl := Option.some.inj H
  clear H
  go_enter Try.func65, Try.ntmps65
  have k62 := True.intro
  go_wp2_with (first
   | ((with_reducible refine gate_d (N := 1) rfl ?_); obtain ⟨gb1, hgb1⟩ : ∃ g_, w.heap.size = g_ := ⟨_, rfl⟩; refine ag_box (bv a0) gb1 hgb1 rfl _ rfl rfl ?_; intro w61 hb_ hB_ hs_; have GEb1 : Hid (w.heap.size ≤ gb1) := hid (by have := HL.out.size; omega); replace HL := hid (HL.out.trans (hb_.mono GEb1.out)); have BKb1 := hid hB_; clear hb_ hB_ hs_ hgb1)
   | ((with_reducible refine gate_d (N := 4) rfl ?_); refine ag_fix (.agg (bv a0)) (ex_load boardT gb1 0 (bv a0) (bv a0) BKb1.out (av_le LN_a0.out) (av_ex LN_a0.out) _ rfl rfl) rfl ?_)
   | (go_at_call 37; clear k62; refine (i_alfilref03_Right.calls k a0 LN_a0.out false _ A9.out).mono ?_; rintro e_ w63 ⟨rfl, hb_⟩; replace BKb1 := hid (BKb1.out.below hb_ BKb1.out.lt); replace HL := hid (HL.out.trans (hb_.mono HL.out.size)); clear hb_))
  (try simp only [Act.put, sI, sZ, sS])
  go_ret
  exact ⟨by first | rfl | (simp; done) | (simp [*]; done), HL.out⟩
/-! i_alfilref24_Why: function 38 -/
mutual
def i_alfilref24_Why.l0 : Nat → List Int → Int → Option (Int)
  | 0, _, _ => none
  | k + 1, a0, x3_0 => if x3_0 < 2 then ((i_alfilref03_Many.f k a0 1 x3_0).bind fun t15 => ((i_alfilref24_Promoted.f k a0 x3_0).bind fun t16 => (if (wrap64 (t15 + t16)) > 8 then (some (wrap64 (2 + x3_0))) else (i_alfilref24_Why.l0 k a0 (wrap64 (x3_0 + 1)))))) else (i_alfilref24_Why.l1 k a0 0)
def i_alfilref24_Why.l1 : Nat → List Int → Int → Option (Int)
  | 0, _, _ => none
  | k + 1, a0, x4_1 => if x4_1 < 2 then ((i_alfilref24_Least.f k a0 x4_1).bind fun t22 => (if t22 < 0 then (some (wrap64 (4 + x4_1))) else (i_alfilref24_Why.l1 k a0 (wrap64 (x4_1 + 1))))) else (i_alfilref24_Why.l2 k a0 0)
def i_alfilref24_Why.l2 : Nat → List Int → Int → Option (Int)
  | 0, _, _ => none
  | k + 1, a0, x5_2 => if x5_2 < 2 then ((i_alfilref24_Least.f k a0 x5_2).bind fun t25 => ((i_alfilref03_Many.f k a0 0 (wrap64 (1 - x5_2))).bind fun t26 => (if t25 > (wrap64 (16 - t26)) then (some (wrap64 (6 + x5_2))) else (i_alfilref24_Why.l2 k a0 (wrap64 (x5_2 + 1)))))) else (some 0)
end
def i_alfilref24_Why.f (k : Nat) (a0 : List Int) : Option (Int) := (i_alfilref03_Wrong.f k a0).bind fun t2 => (if t2 = 0 then (i_alfilref24_Why.l0 k a0 0) else (some 1))
set_option maxHeartbeats 40000000 in
set_option maxRecDepth 100000 in
theorem i_alfilref24_Why.calls (k : Nat) (a0 : List Int) (hla0 : a0.length = 64) (r1 : Int) (w : World) (h : i_alfilref24_Why.f k a0 = some r1) :
    Calls Try.prog 38 #[.agg (bv a0)] w fun e w' => e = .returned (.int .i64 r1) ∧ Below w.heap.size w w' := by
 have LN_a0 := hid hla0
 clear hla0
 have HL := hid (Below.refl w.heap.size w)
 have H : ((i_alfilref03_Wrong.f k a0).bind fun t2 => (if t2 = 0 then (i_alfilref24_Why.l0 k a0 0) else (some 1))) = some r1 := h
 clear h
 replace H := Option.bind_eq_some_iff.mp H
 obtain ⟨t2, A27_, H⟩ := H
 have A27 := hid A27_
 clear A27_
 by_cases c28 : t2 = 0
 ·
  rw [if_pos c28] at H
  have c28b0 : (t2 == 0) = true := beq_iff_eq.mpr c28
  have c28b1 : (t2 != 0) = false := bne_eq_false_iff_eq.mpr c28
  have hc28 := hid c28
  clear c28
  have H' := hid H
  clear H
  go_enter Try.func38, Try.ntmps38
  have k30 := True.intro
  go_wp2_with (first
   | ((with_reducible refine gate_d (N := 1) rfl ?_); obtain ⟨gb1, hgb1⟩ : ∃ g_, w.heap.size = g_ := ⟨_, rfl⟩; refine ag_box (bv a0) gb1 hgb1 rfl _ rfl rfl ?_; intro w29 hb_ hB_ hs_; have GEb1 : Hid (w.heap.size ≤ gb1) := hid (by have := HL.out.size; omega); replace HL := hid (HL.out.trans (hb_.mono GEb1.out)); have BKb1 := hid hB_; clear hb_ hB_ hs_ hgb1)
   | ((with_reducible refine gate_d (N := 6) rfl ?_); refine ag_fix (.agg (bv a0)) (ex_load boardT gb1 0 (bv a0) (bv a0) BKb1.out (av_le LN_a0.out) (av_ex LN_a0.out) _ rfl rfl) rfl ?_)
   | (go_at_call 65; clear k30; refine (i_alfilref03_Wrong.calls k a0 LN_a0.out t2 _ A27.out).mono ?_; rintro e_ w31 ⟨rfl, hb_⟩; replace BKb1 := hid (BKb1.out.below hb_ BKb1.out.lt); replace HL := hid (HL.out.trans (hb_.mono HL.out.size)); clear hb_))
  (try simp only [Act.put, sI, sZ, sS])
  go_loopg [3] k (fun kq v3 w' => ∃ (x3_0 : Int), v3 = .int .i64 x3_0 ∧ Hid (i_alfilref24_Why.l0 kq a0 x3_0 = some r1) ∧ Hid (kq ≤ k) ∧ Hid (Blk w' gb1 44 (bv a0)) ∧ Hid (Below w.heap.size w w'))
  case atStart => exact ⟨(0 : Int), (by first | rfl | (simp; done) | (simp [*]; done)), H', (hid (by first | omega | (omega))), (hid (by exact BKb1.out)), HL⟩
  case round =>
   clear H'
   clear HL BKb1
   obtain ⟨x3_0, rfl, HA, HK32, BKb1, HL⟩ := hrel
   cases gk with
   | zero => exact absurd HA.out (by simp [i_alfilref24_Why.l0])
   | succ k33 =>
    have H := HA.out
    clear HA
    simp only [i_alfilref24_Why.l0] at H
    by_cases c34 : x3_0 < 2
    ·
     rw [if_pos c34] at H
     have c34b0 : decide (x3_0 < 2) = true := decide_eq_true c34
     have hc34 := hid c34
     clear c34
     replace H := Option.bind_eq_some_iff.mp H
     obtain ⟨t15, A35_, H⟩ := H
     have A35 := hid A35_
     clear A35_
     replace H := Option.bind_eq_some_iff.mp H
     obtain ⟨t16, A36_, H⟩ := H
     have A36 := hid A36_
     clear A36_
     by_cases c37 : (wrap64 (t15 + t16)) > 8
     ·
      rw [if_pos c37] at H
      have c37b0 : decide (8 < (wrap64 (t15 + t16))) = true := decide_eq_true c37
      have hc37 := hid c37
      clear c37
      obtain rfl := Option.some.inj H
      clear H
      go_wp2_with fail
      (try simp only [Act.put, sI, sZ, sS])
      have WR64 := i64_w
      have WR32 := i32_w
      refine up_regionW (by kernel_rfl) (by kernel_rfl) ?_
      refine q_do (.agg (bv a0)) (fun w'_ hc_ => by obtain ⟨n_, hn_⟩ := hc_; exact ex_load boardT gb1 0 (bv a0) (bv a0) (by rw [hn_]; exact BKb1.out.below n_.below BKb1.out.lt) (av_le LN_a0.out) (av_ex LN_a0.out) _ rfl rfl) rfl rfl ?_
      intro ts_ ht_; simp only [sI, sZ, sS] at ht_; subst ht_
      refine q_do (.int .i64 x3_0) (fun w'_ hc_ => ex_mv (.tmp 3) (.inl rfl) _ rfl) rfl rfl ?_
      intro ts_ ht_; simp only [sI, sZ, sS] at ht_; subst ht_
      refine q_call (.int .i64 t15) 63 #[.agg (bv a0), .int .i64 1, .int .i64 x3_0] (fun w'_ => by go_simp) (fun w'_ hc_ => (i_alfilref03_Many.calls k33 a0 1 x3_0 LN_a0.out t15 _ A35.out).mono fun e_ w2_ h_ => ⟨h_.1, up_below hc_ h_.2⟩) rfl rfl ?_
      intro ts_ ht_; simp only [sI, sZ, sS] at ht_; subst ht_
      refine q_do (.agg (bv a0)) (fun w'_ hc_ => by obtain ⟨n_, hn_⟩ := hc_; exact ex_load boardT gb1 0 (bv a0) (bv a0) (by rw [hn_]; exact BKb1.out.below n_.below BKb1.out.lt) (av_le LN_a0.out) (av_ex LN_a0.out) _ rfl rfl) rfl rfl ?_
      intro ts_ ht_; simp only [sI, sZ, sS] at ht_; subst ht_
      refine q_do (.int .i64 x3_0) (fun w'_ hc_ => ex_mv (.tmp 3) (.inl rfl) _ rfl) rfl rfl ?_
      intro ts_ ht_; simp only [sI, sZ, sS] at ht_; subst ht_
      refine q_call (.int .i64 t16) 43 #[.agg (bv a0), .int .i64 x3_0] (fun w'_ => by go_simp) (fun w'_ hc_ => (i_alfilref24_Promoted.calls k33 a0 x3_0 LN_a0.out t16 _ A36.out).mono fun e_ w2_ h_ => ⟨h_.1, up_below hc_ h_.2⟩) rfl rfl ?_
      intro ts_ ht_; simp only [sI, sZ, sS] at ht_; subst ht_
      refine q_do (.int .i64 (wrap64 (t15 + t16))) (fun w'_ hc_ => by go_simp <;> (unfold wrap64; omega)) rfl rfl ?_
      intro ts_ ht_; simp only [sI, sZ, sS] at ht_; subst ht_
      refine q_do (.bool true) (fun w'_ hc_ => by go_simp <;> (unfold wrap64; omega)) rfl rfl ?_
      intro ts_ ht_; simp only [sI, sZ, sS] at ht_; subst ht_
      refine q_end ?_
      rintro w8_ ⟨n_, rfl⟩
      replace BKb1 := hid (BKb1.out.below n_.below BKb1.out.lt)
      replace HL := hid (HL.out.trans (n_.below.mono HL.out.size))
      generalize n_.world = w38 at *
      clear n_ WR64 WR32
      go_wp2_with fail
      (try simp only [Act.put, sI, sZ, sS])
      go_ret
      exact ⟨by first | rfl | (simp; done) | (simp [*]; done), HL.out⟩
     ·
      rw [if_neg c37] at H
      have c37b0 : decide (8 < (wrap64 (t15 + t16))) = false := decide_eq_false c37
      have hc37 := hid c37
      clear c37
      have H' := hid H
      clear H
      go_wp2_with fail
      (try simp only [Act.put, sI, sZ, sS])
      have WR64 := i64_w
      have WR32 := i32_w
      refine up_regionW (by kernel_rfl) (by kernel_rfl) ?_
      refine q_do (.agg (bv a0)) (fun w'_ hc_ => by obtain ⟨n_, hn_⟩ := hc_; exact ex_load boardT gb1 0 (bv a0) (bv a0) (by rw [hn_]; exact BKb1.out.below n_.below BKb1.out.lt) (av_le LN_a0.out) (av_ex LN_a0.out) _ rfl rfl) rfl rfl ?_
      intro ts_ ht_; simp only [sI, sZ, sS] at ht_; subst ht_
      refine q_do (.int .i64 x3_0) (fun w'_ hc_ => ex_mv (.tmp 3) (.inl rfl) _ rfl) rfl rfl ?_
      intro ts_ ht_; simp only [sI, sZ, sS] at ht_; subst ht_
      refine q_call (.int .i64 t15) 63 #[.agg (bv a0), .int .i64 1, .int .i64 x3_0] (fun w'_ => by go_simp) (fun w'_ hc_ => (i_alfilref03_Many.calls k33 a0 1 x3_0 LN_a0.out t15 _ A35.out).mono fun e_ w2_ h_ => ⟨h_.1, up_below hc_ h_.2⟩) rfl rfl ?_
      intro ts_ ht_; simp only [sI, sZ, sS] at ht_; subst ht_
      refine q_do (.agg (bv a0)) (fun w'_ hc_ => by obtain ⟨n_, hn_⟩ := hc_; exact ex_load boardT gb1 0 (bv a0) (bv a0) (by rw [hn_]; exact BKb1.out.below n_.below BKb1.out.lt) (av_le LN_a0.out) (av_ex LN_a0.out) _ rfl rfl) rfl rfl ?_
      intro ts_ ht_; simp only [sI, sZ, sS] at ht_; subst ht_
      refine q_do (.int .i64 x3_0) (fun w'_ hc_ => ex_mv (.tmp 3) (.inl rfl) _ rfl) rfl rfl ?_
      intro ts_ ht_; simp only [sI, sZ, sS] at ht_; subst ht_
      refine q_call (.int .i64 t16) 43 #[.agg (bv a0), .int .i64 x3_0] (fun w'_ => by go_simp) (fun w'_ hc_ => (i_alfilref24_Promoted.calls k33 a0 x3_0 LN_a0.out t16 _ A36.out).mono fun e_ w2_ h_ => ⟨h_.1, up_below hc_ h_.2⟩) rfl rfl ?_
      intro ts_ ht_; simp only [sI, sZ, sS] at ht_; subst ht_
      refine q_do (.int .i64 (wrap64 (t15 + t16))) (fun w'_ hc_ => by go_simp <;> (unfold wrap64; omega)) rfl rfl ?_
      intro ts_ ht_; simp only [sI, sZ, sS] at ht_; subst ht_
      refine q_do (.bool false) (fun w'_ hc_ => by go_simp <;> (unfold wrap64; omega)) rfl rfl ?_
      intro ts_ ht_; simp only [sI, sZ, sS] at ht_; subst ht_
      refine q_end ?_
      rintro w8_ ⟨n_, rfl⟩
      replace BKb1 := hid (BKb1.out.below n_.below BKb1.out.lt)
      replace HL := hid (HL.out.trans (n_.below.mono HL.out.size))
      generalize n_.world = w39 at *
      clear n_ WR64 WR32
      go_wp2_with fail
      (try simp only [Act.put, sI, sZ, sS])
      go_roundg k33
      case measure => have := HK32.out; omega
      case rel => exact ⟨wrap64 (x3_0 + 1), (by first | rfl | (simp; done) | (simp [*]; done)), H', (hid (by first | omega | (have := HK32.out; omega))), (hid (by exact BKb1.out)), HL⟩
    ·
     rw [if_neg c34] at H
     have c34b0 : decide (x3_0 < 2) = false := decide_eq_false c34
     have hc34 := hid c34
     clear c34
     have H' := hid H
     clear H
     go_wp2_with fail
     (try simp only [Act.put, sI, sZ, sS])
     go_loopg [4] k33 (fun kq v4 w' => ∃ (x4_1 : Int), v4 = .int .i64 x4_1 ∧ Hid (i_alfilref24_Why.l1 kq a0 x4_1 = some r1) ∧ Hid (kq ≤ k33) ∧ Hid (Blk w' gb1 44 (bv a0)) ∧ Hid (Below w.heap.size w w'))
     case atStart => exact ⟨(0 : Int), (by first | rfl | (simp; done) | (simp [*]; done)), H', (hid (by first | omega | (have := HK32.out; omega))), (hid (by exact BKb1.out)), HL⟩
     case round =>
      clear H'
      clear HL BKb1
      obtain ⟨x4_1, rfl, HA, HK40, BKb1, HL⟩ := hrel
      cases gk with
      | zero => exact absurd HA.out (by simp [i_alfilref24_Why.l1])
      | succ k41 =>
       have H := HA.out
       clear HA
       simp only [i_alfilref24_Why.l1] at H
       by_cases c42 : x4_1 < 2
       ·
        rw [if_pos c42] at H
        have c42b0 : decide (x4_1 < 2) = true := decide_eq_true c42
        have hc42 := hid c42
        clear c42
        replace H := Option.bind_eq_some_iff.mp H
        obtain ⟨t22, A43_, H⟩ := H
        have A43 := hid A43_
        clear A43_
        by_cases c44 : t22 < 0
        ·
         rw [if_pos c44] at H
         have c44b0 : decide (t22 < 0) = true := decide_eq_true c44
         have hc44 := hid c44
         clear c44
         obtain rfl := Option.some.inj H
         clear H
         have k45 := True.intro
         go_wp2_with (first
          | ((with_reducible refine gate_d (N := 27) rfl ?_); refine ag_fix (.agg (bv a0)) (ex_load boardT gb1 0 (bv a0) (bv a0) BKb1.out (av_le LN_a0.out) (av_ex LN_a0.out) _ rfl rfl) rfl ?_)
          | (go_at_call 42; clear k45; refine (i_alfilref24_Least.calls k41 a0 x4_1 LN_a0.out t22 _ A43.out).mono ?_; rintro e_ w46 ⟨rfl, hb_⟩; replace BKb1 := hid (BKb1.out.below hb_ BKb1.out.lt); replace HL := hid (HL.out.trans (hb_.mono HL.out.size)); clear hb_))
         (try simp only [Act.put, sI, sZ, sS])
         go_ret
         exact ⟨by first | rfl | (simp; done) | (simp [*]; done), HL.out⟩
        ·
         rw [if_neg c44] at H
         have c44b0 : decide (t22 < 0) = false := decide_eq_false c44
         have hc44 := hid c44
         clear c44
         have H' := hid H
         clear H
         have k47 := True.intro
         go_wp2_with (first
          | ((with_reducible refine gate_d (N := 27) rfl ?_); refine ag_fix (.agg (bv a0)) (ex_load boardT gb1 0 (bv a0) (bv a0) BKb1.out (av_le LN_a0.out) (av_ex LN_a0.out) _ rfl rfl) rfl ?_)
          | (go_at_call 42; clear k47; refine (i_alfilref24_Least.calls k41 a0 x4_1 LN_a0.out t22 _ A43.out).mono ?_; rintro e_ w48 ⟨rfl, hb_⟩; replace BKb1 := hid (BKb1.out.below hb_ BKb1.out.lt); replace HL := hid (HL.out.trans (hb_.mono HL.out.size)); clear hb_))
         (try simp only [Act.put, sI, sZ, sS])
         go_roundg k41
         case measure => have := HK32.out; have := HK40.out; omega
         case rel => exact ⟨wrap64 (x4_1 + 1), (by first | rfl | (simp; done) | (simp [*]; done)), H', (hid (by first | omega | (have := HK32.out; have := HK40.out; omega))), (hid (by exact BKb1.out)), HL⟩
       ·
        rw [if_neg c42] at H
        have c42b0 : decide (x4_1 < 2) = false := decide_eq_false c42
        have hc42 := hid c42
        clear c42
        have H' := hid H
        clear H
        go_wp2_with fail
        (try simp only [Act.put, sI, sZ, sS])
        go_loopg [5] k41 (fun kq v5 w' => ∃ (x5_2 : Int), v5 = .int .i64 x5_2 ∧ Hid (i_alfilref24_Why.l2 kq a0 x5_2 = some r1) ∧ Hid (kq ≤ k41) ∧ Hid (Blk w' gb1 44 (bv a0)) ∧ Hid (Below w.heap.size w w'))
        case atStart => exact ⟨(0 : Int), (by first | rfl | (simp; done) | (simp [*]; done)), H', (hid (by first | omega | (have := HK32.out; have := HK40.out; omega))), (hid (by exact BKb1.out)), HL⟩
        case round =>
         clear H'
         clear HL BKb1
         obtain ⟨x5_2, rfl, HA, HK49, BKb1, HL⟩ := hrel
         cases gk with
         | zero => exact absurd HA.out (by simp [i_alfilref24_Why.l2])
         | succ k50 =>
          have H := HA.out
          clear HA
          simp only [i_alfilref24_Why.l2] at H
          by_cases c51 : x5_2 < 2
          ·
           rw [if_pos c51] at H
           have c51b0 : decide (x5_2 < 2) = true := decide_eq_true c51
           have hc51 := hid c51
           clear c51
           replace H := Option.bind_eq_some_iff.mp H
           obtain ⟨t25, A52_, H⟩ := H
           have A52 := hid A52_
           clear A52_
           replace H := Option.bind_eq_some_iff.mp H
           obtain ⟨t26, A53_, H⟩ := H
           have A53 := hid A53_
           clear A53_
           by_cases c54 : t25 > (wrap64 (16 - t26))
           ·
            rw [if_pos c54] at H
            have c54b0 : decide ((wrap64 (16 - t26)) < t25) = true := decide_eq_true c54
            have hc54 := hid c54
            clear c54
            obtain rfl := Option.some.inj H
            clear H
            go_wp2_with fail
            (try simp only [Act.put, sI, sZ, sS])
            have WR64 := i64_w
            have WR32 := i32_w
            refine up_regionW (by kernel_rfl) (by kernel_rfl) ?_
            refine q_do (.agg (bv a0)) (fun w'_ hc_ => by obtain ⟨n_, hn_⟩ := hc_; exact ex_load boardT gb1 0 (bv a0) (bv a0) (by rw [hn_]; exact BKb1.out.below n_.below BKb1.out.lt) (av_le LN_a0.out) (av_ex LN_a0.out) _ rfl rfl) rfl rfl ?_
            intro ts_ ht_; simp only [sI, sZ, sS] at ht_; subst ht_
            refine q_do (.int .i64 x5_2) (fun w'_ hc_ => ex_mv (.tmp 5) (.inl rfl) _ rfl) rfl rfl ?_
            intro ts_ ht_; simp only [sI, sZ, sS] at ht_; subst ht_
            refine q_call (.int .i64 t25) 42 #[.agg (bv a0), .int .i64 x5_2] (fun w'_ => by go_simp) (fun w'_ hc_ => (i_alfilref24_Least.calls k50 a0 x5_2 LN_a0.out t25 _ A52.out).mono fun e_ w2_ h_ => ⟨h_.1, up_below hc_ h_.2⟩) rfl rfl ?_
            intro ts_ ht_; simp only [sI, sZ, sS] at ht_; subst ht_
            refine q_do (.agg (bv a0)) (fun w'_ hc_ => by obtain ⟨n_, hn_⟩ := hc_; exact ex_load boardT gb1 0 (bv a0) (bv a0) (by rw [hn_]; exact BKb1.out.below n_.below BKb1.out.lt) (av_le LN_a0.out) (av_ex LN_a0.out) _ rfl rfl) rfl rfl ?_
            intro ts_ ht_; simp only [sI, sZ, sS] at ht_; subst ht_
            refine q_do (.int .i64 x5_2) (fun w'_ hc_ => ex_mv (.tmp 5) (.inl rfl) _ rfl) rfl rfl ?_
            intro ts_ ht_; simp only [sI, sZ, sS] at ht_; subst ht_
            refine q_do (.int .i64 (wrap64 (1 - x5_2))) (fun w'_ hc_ => by go_simp <;> (unfold wrap64; omega)) rfl rfl ?_
            intro ts_ ht_; simp only [sI, sZ, sS] at ht_; subst ht_
            refine q_call (.int .i64 t26) 63 #[.agg (bv a0), .int .i64 0, .int .i64 (wrap64 (1 - x5_2))] (fun w'_ => by go_simp) (fun w'_ hc_ => (i_alfilref03_Many.calls k50 a0 0 (wrap64 (1 - x5_2)) LN_a0.out t26 _ A53.out).mono fun e_ w2_ h_ => ⟨h_.1, up_below hc_ h_.2⟩) rfl rfl ?_
            intro ts_ ht_; simp only [sI, sZ, sS] at ht_; subst ht_
            refine q_do (.int .i64 (wrap64 (16 - t26))) (fun w'_ hc_ => by go_simp <;> (unfold wrap64; omega)) rfl rfl ?_
            intro ts_ ht_; simp only [sI, sZ, sS] at ht_; subst ht_
            refine q_do (.bool true) (fun w'_ hc_ => by go_simp <;> (unfold wrap64; omega)) rfl rfl ?_
            intro ts_ ht_; simp only [sI, sZ, sS] at ht_; subst ht_
            refine q_end ?_
            rintro w8_ ⟨n_, rfl⟩
            replace BKb1 := hid (BKb1.out.below n_.below BKb1.out.lt)
            replace HL := hid (HL.out.trans (n_.below.mono HL.out.size))
            generalize n_.world = w55 at *
            clear n_ WR64 WR32
            go_wp2_with fail
            (try simp only [Act.put, sI, sZ, sS])
            go_ret
            exact ⟨by first | rfl | (simp; done) | (simp [*]; done), HL.out⟩
           ·
            rw [if_neg c54] at H
            have c54b0 : decide ((wrap64 (16 - t26)) < t25) = false := decide_eq_false c54
            have hc54 := hid c54
            clear c54
            have H' := hid H
            clear H
            go_wp2_with fail
            (try simp only [Act.put, sI, sZ, sS])
            have WR64 := i64_w
            have WR32 := i32_w
            refine up_regionW (by kernel_rfl) (by kernel_rfl) ?_
            refine q_do (.agg (bv a0)) (fun w'_ hc_ => by obtain ⟨n_, hn_⟩ := hc_; exact ex_load boardT gb1 0 (bv a0) (bv a0) (by rw [hn_]; exact BKb1.out.below n_.below BKb1.out.lt) (av_le LN_a0.out) (av_ex LN_a0.out) _ rfl rfl) rfl rfl ?_
            intro ts_ ht_; simp only [sI, sZ, sS] at ht_; subst ht_
            refine q_do (.int .i64 x5_2) (fun w'_ hc_ => ex_mv (.tmp 5) (.inl rfl) _ rfl) rfl rfl ?_
            intro ts_ ht_; simp only [sI, sZ, sS] at ht_; subst ht_
            refine q_call (.int .i64 t25) 42 #[.agg (bv a0), .int .i64 x5_2] (fun w'_ => by go_simp) (fun w'_ hc_ => (i_alfilref24_Least.calls k50 a0 x5_2 LN_a0.out t25 _ A52.out).mono fun e_ w2_ h_ => ⟨h_.1, up_below hc_ h_.2⟩) rfl rfl ?_
            intro ts_ ht_; simp only [sI, sZ, sS] at ht_; subst ht_
            refine q_do (.agg (bv a0)) (fun w'_ hc_ => by obtain ⟨n_, hn_⟩ := hc_; exact ex_load boardT gb1 0 (bv a0) (bv a0) (by rw [hn_]; exact BKb1.out.below n_.below BKb1.out.lt) (av_le LN_a0.out) (av_ex LN_a0.out) _ rfl rfl) rfl rfl ?_
            intro ts_ ht_; simp only [sI, sZ, sS] at ht_; subst ht_
            refine q_do (.int .i64 x5_2) (fun w'_ hc_ => ex_mv (.tmp 5) (.inl rfl) _ rfl) rfl rfl ?_
            intro ts_ ht_; simp only [sI, sZ, sS] at ht_; subst ht_
            refine q_do (.int .i64 (wrap64 (1 - x5_2))) (fun w'_ hc_ => by go_simp <;> (unfold wrap64; omega)) rfl rfl ?_
            intro ts_ ht_; simp only [sI, sZ, sS] at ht_; subst ht_
            refine q_call (.int .i64 t26) 63 #[.agg (bv a0), .int .i64 0, .int .i64 (wrap64 (1 - x5_2))] (fun w'_ => by go_simp) (fun w'_ hc_ => (i_alfilref03_Many.calls k50 a0 0 (wrap64 (1 - x5_2)) LN_a0.out t26 _ A53.out).mono fun e_ w2_ h_ => ⟨h_.1, up_below hc_ h_.2⟩) rfl rfl ?_
            intro ts_ ht_; simp only [sI, sZ, sS] at ht_; subst ht_
            refine q_do (.int .i64 (wrap64 (16 - t26))) (fun w'_ hc_ => by go_simp <;> (unfold wrap64; omega)) rfl rfl ?_
            intro ts_ ht_; simp only [sI, sZ, sS] at ht_; subst ht_
            refine q_do (.bool false) (fun w'_ hc_ => by go_simp <;> (unfold wrap64; omega)) rfl rfl ?_
            intro ts_ ht_; simp only [sI, sZ, sS] at ht_; subst ht_
            refine q_end ?_
            rintro w8_ ⟨n_, rfl⟩
            replace BKb1 := hid (BKb1.out.below n_.below BKb1.out.lt)
            replace HL := hid (HL.out.trans (n_.below.mono HL.out.size))
            generalize n_.world = w56 at *
            clear n_ WR64 WR32
            go_wp2_with fail
            (try simp only [Act.put, sI, sZ, sS])
            go_roundg k50
            case measure => have := HK32.out; have := HK40.out; have := HK49.out; omega
            case rel => exact ⟨wrap64 (x5_2 + 1), (by first | rfl | (simp; done) | (simp [*]; done)), H', (hid (by first | omega | (have := HK32.out; have := HK40.out; have := HK49.out; omega))), (hid (by exact BKb1.out)), HL⟩
          ·
           rw [if_neg c51] at H
           have c51b0 : decide (x5_2 < 2) = false := decide_eq_false c51
           have hc51 := hid c51
           clear c51
           obtain rfl := Option.some.inj H
           clear H
           go_wp2_with fail
           (try simp only [Act.put, sI, sZ, sS])
           go_ret
           exact ⟨by first | rfl | (simp; done) | (simp [*]; done), HL.out⟩
 ·
  rw [if_neg c28] at H
  have c28b0 : (t2 == 0) = false := beq_eq_false_iff_ne.mpr c28
  have c28b1 : (t2 != 0) = true := bne_iff_ne.mpr c28
  have hc28 := hid c28
  clear c28
  obtain rfl := Option.some.inj H
  clear H
  go_enter Try.func38, Try.ntmps38
  have k58 := True.intro
  go_wp2_with (first
   | ((with_reducible refine gate_d (N := 1) rfl ?_); obtain ⟨gb1, hgb1⟩ : ∃ g_, w.heap.size = g_ := ⟨_, rfl⟩; refine ag_box (bv a0) gb1 hgb1 rfl _ rfl rfl ?_; intro w57 hb_ hB_ hs_; have GEb1 : Hid (w.heap.size ≤ gb1) := hid (by have := HL.out.size; omega); replace HL := hid (HL.out.trans (hb_.mono GEb1.out)); have BKb1 := hid hB_; clear hb_ hB_ hs_ hgb1)
   | ((with_reducible refine gate_d (N := 6) rfl ?_); refine ag_fix (.agg (bv a0)) (ex_load boardT gb1 0 (bv a0) (bv a0) BKb1.out (av_le LN_a0.out) (av_ex LN_a0.out) _ rfl rfl) rfl ?_)
   | (go_at_call 65; clear k58; refine (i_alfilref03_Wrong.calls k a0 LN_a0.out t2 _ A27.out).mono ?_; rintro e_ w59 ⟨rfl, hb_⟩; replace BKb1 := hid (BKb1.out.below hb_ BKb1.out.lt); replace HL := hid (HL.out.trans (hb_.mono HL.out.size)); clear hb_))
  (try simp only [Act.put, sI, sZ, sS])
  go_ret
  exact ⟨by first | rfl | (simp; done) | (simp [*]; done), HL.out⟩
end Go.Proofs.Ytpjocgebnodnoaa
