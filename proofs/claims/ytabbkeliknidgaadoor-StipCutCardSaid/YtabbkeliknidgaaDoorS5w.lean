/- The walk of the law StipWrites. -/
import Derived.Test.YtabbkeliknidgaaDoorProg
import Derived.Test.YtabbkeliknidgaaDoorS4w
namespace Go.Proofs.YtabbkeliknidgaaDoor
open Go.RowKit
set_option linter.unusedVariables false
set_option linter.unusedSimpArgs false
theorem eqS23 (d : Nat) (w : World) (x0 y0 : Int) (x1 y1 : Int) (x2 y2 : Int) (x3 y3 : Bool) : (Op.equalIn (d + 2) 23 (.agg #[.int .i64 x0, .int .i64 x1, .int .i64 x2, .bool x3]) (.agg #[.int .i64 y0, .int .i64 y1, .int .i64 y2, .bool y3])).run Tryd.prog w = .ok ((x0 == y0) && ((x1 == y1) && ((x2 == y2) && ((x3 == y3))))) w := by
  refine eqs_of Tryd.underlying23 (by kernel_rfl) ?_
  refine eqs_more (by rfl) (by go_simp; rfl) (by go_simp; rfl) (by go_simp) ?_
  refine eqs_more (by rfl) (by go_simp; rfl) (by go_simp; rfl) (by go_simp) ?_
  refine eqs_more (by rfl) (by go_simp; rfl) (by go_simp; rfl) (by go_simp) ?_
  exact eqs_last (by rfl) (by go_simp; rfl) (by go_simp; rfl) (by go_simp)
theorem eqS31 (d : Nat) (w : World) (x0 y0 : Int) (x1 y1 : Int) (x2 y2 : Int) : (Op.equalIn (d + 2) 31 (.agg #[.int .i64 x0, .int .i64 x1, .int .i64 x2]) (.agg #[.int .i64 y0, .int .i64 y1, .int .i64 y2])).run Tryd.prog w = .ok ((x0 == y0) && ((x1 == y1) && ((x2 == y2)))) w := by
  refine eqs_of Tryd.underlying31 (by kernel_rfl) ?_
  refine eqs_more (by rfl) (by go_simp; rfl) (by go_simp; rfl) (by go_simp) ?_
  refine eqs_more (by rfl) (by go_simp; rfl) (by go_simp; rfl) (by go_simp) ?_
  exact eqs_last (by rfl) (by go_simp; rfl) (by go_simp; rfl) (by go_simp)
/-! i_alfillaw15_wakes: function 5 -/
def i_alfillaw15_wakes.f (k : Nat)  : Option (Bool) := (i_stip_Read.f k (⟨#[104, 35, 50, 46, 53]⟩ : ByteArray) 0).bind fun bt1 => (if ((bt1.1 == 5) && ((bt1.2.1 == 1) && ((bt1.2.2.1 == 2) && ((bt1.2.2.2.1 == true))))) = true then (if ((bt1.2.2.2.2.1 == 5) && ((bt1.2.2.2.2.2.1 == 0) && ((bt1.2.2.2.2.2.2 == 0)))) = true then ((i_stip_Begins.f bt1.1 bt1.2.1 bt1.2.2.1 bt1.2.2.2.1).bind fun t10 => (if t10 = 0 then ((i_stip_Plies.f bt1.1 bt1.2.1 bt1.2.2.1 bt1.2.2.2.1).bind fun t11 => (some (t11 == 5))) else (some false))) else (some false)) else (some false))
set_option maxHeartbeats 40000000 in
set_option maxRecDepth 100000 in
theorem i_alfillaw15_wakes.calls (k : Nat) (r1 : Bool) (w : World) (h : i_alfillaw15_wakes.f k = some r1) :
    Calls Tryd.prog 5 #[] w fun e w' => e = .returned (.bool r1) ∧ Below w.heap.size w w' := by
 have HL := hid (Below.refl w.heap.size w)
 have H : ((i_stip_Read.f k (⟨#[104, 35, 50, 46, 53]⟩ : ByteArray) 0).bind fun bt1 => (if ((bt1.1 == 5) && ((bt1.2.1 == 1) && ((bt1.2.2.1 == 2) && ((bt1.2.2.2.1 == true))))) = true then (if ((bt1.2.2.2.2.1 == 5) && ((bt1.2.2.2.2.2.1 == 0) && ((bt1.2.2.2.2.2.2 == 0)))) = true then ((i_stip_Begins.f bt1.1 bt1.2.1 bt1.2.2.1 bt1.2.2.2.1).bind fun t10 => (if t10 = 0 then ((i_stip_Plies.f bt1.1 bt1.2.1 bt1.2.2.1 bt1.2.2.2.1).bind fun t11 => (some (t11 == 5))) else (some false))) else (some false)) else (some false))) = some r1 := h
 clear h
 replace H := Option.bind_eq_some_iff.mp H
 obtain ⟨⟨t1, t2, t3, t4, t5, t6, t7⟩, A12_, H⟩ := H
 replace H : (if ((t1 == 5) && ((t2 == 1) && ((t3 == 2) && ((t4 == true))))) = true then (if ((t5 == 5) && ((t6 == 0) && ((t7 == 0)))) = true then ((i_stip_Begins.f t1 t2 t3 t4).bind fun t10 => (if t10 = 0 then ((i_stip_Plies.f t1 t2 t3 t4).bind fun t11 => (some (t11 == 5))) else (some false))) else (some false)) else (some false)) = some r1 := H
 have A12 := hid A12_
 clear A12_
 by_cases c13 : ((t1 == 5) && ((t2 == 1) && ((t3 == 2) && ((t4 == true))))) = true
 ·
  rw [if_pos c13] at H
  have c13b0 : ((t1 == 5) && ((t2 == 1) && ((t3 == 2) && ((t4 == true))))) = true := c13
  have hc13 := hid c13
  clear c13
  by_cases c14 : ((t5 == 5) && ((t6 == 0) && ((t7 == 0)))) = true
  ·
   rw [if_pos c14] at H
   have c14b0 : ((t5 == 5) && ((t6 == 0) && ((t7 == 0)))) = true := c14
   have hc14 := hid c14
   clear c14
   replace H := Option.bind_eq_some_iff.mp H
   obtain ⟨t10, A15_, H⟩ := H
   replace H : (if t10 = 0 then ((i_stip_Plies.f t1 t2 t3 t4).bind fun t11 => (some (t11 == 5))) else (some false)) = some r1 := H
   have A15 := hid A15_
   clear A15_
   by_cases c16 : t10 = 0
   ·
    rw [if_pos c16] at H
    have c16b0 : (t10 == 0) = true := beq_iff_eq.mpr c16
    have c16b1 : (t10 != 0) = false := bne_eq_false_iff_eq.mpr c16
    have hc16 := hid c16
    clear c16
    replace H := Option.bind_eq_some_iff.mp H
    obtain ⟨t11, A17_, H⟩ := H
    replace H : (some (t11 == 5)) = some r1 := H
    have A17 := hid A17_
    clear A17_
    obtain rfl := Option.some.inj H
    clear H
    go_enter Tryd.func5, Tryd.ntmps5
    have k18 := True.intro
    have k24 := True.intro
    have k26 := True.intro
    go_wp2_with (first
     | (go_at_call 10; clear k18; refine (i_stip_Read.calls k (⟨#[104, 35, 50, 46, 53]⟩ : ByteArray) 0 t1 t2 t3 t4 t5 t6 t7 _ A12.out).mono ?_; rintro e_ w19 ⟨rfl, hb_⟩; replace HL := hid (HL.out.trans (hb_.mono HL.out.size)); clear hb_)
     | ((with_reducible refine gate_d (N := 1) rfl ?_); obtain ⟨gb8, hgb8⟩ : ∃ g_, w19.heap.size = g_ := ⟨_, rfl⟩; refine ag_alloc aT23 gb8 hgb8 rfl rfl ?_; intro w20 hb_ hB_ hs_; have GEb8 : Hid (w.heap.size ≤ gb8) := hid (by have := HL.out.size; omega); replace HL := hid (HL.out.trans (hb_.mono GEb8.out)); have BKb8 := hid hB_; clear hb_ hB_ hs_ hgb8)
     | ((with_reducible refine gate_d (N := 2) rfl ?_); obtain ⟨gb9, hgb9⟩ : ∃ g_, w20.heap.size = g_ := ⟨_, rfl⟩; refine ag_alloc aT31 gb9 hgb9 rfl rfl ?_; intro w21 hb_ hB_ hs_; have GEb9 : Hid (w.heap.size ≤ gb9) := hid (by have := HL.out.size; omega); have NBb8_b9 : Hid (gb8 ≠ gb9) := hid (by have := BKb8.out.lt; omega); have NBb9_b8 : Hid (gb9 ≠ gb8) := hid (by have := NBb8_b9.out; omega); replace BKb8 := hid (BKb8.out.below hb_ (by rw [← hgb9]; exact BKb8.out.lt)); replace HL := hid (HL.out.trans (hb_.mono GEb9.out)); have BKb9 := hid hB_; clear hb_ hB_ hs_ hgb9)
     | ((with_reducible refine gate_s (t := 23) (p := 1) rfl ?_); refine ag_store aT23 gb8 0 #[.int .i64 0, .int .i64 0, .int .i64 0, .bool false] #[.int .i64 t1, .int .i64 t2, .int .i64 t3, .bool t4] #[.int .i64 t1, .int .i64 t2, .int .i64 t3, .bool t4] BKb8.out rfl (by simp) (by intro v_ hv_; simp at hv_; rcases hv_ with rfl | rfl | rfl | rfl <;> first | rfl) rfl rfl _ _ rfl rfl rfl ?_; intro w22 ho_ hB_; replace BKb9 := hid (BKb9.out.off ho_ NBb9_b8.out); replace HL := hid (ho_.below HL.out GEb8.out); replace BKb8 := hid hB_; clear ho_ hB_)
     | ((with_reducible refine gate_s (t := 31) (p := 2) rfl ?_); refine ag_store aT31 gb9 0 #[.int .i64 0, .int .i64 0, .int .i64 0] #[.int .i64 t5, .int .i64 t6, .int .i64 t7] #[.int .i64 t5, .int .i64 t6, .int .i64 t7] BKb9.out rfl (by simp) (by intro v_ hv_; simp at hv_; rcases hv_ with rfl | rfl | rfl <;> first | rfl) rfl rfl _ _ rfl rfl rfl ?_; intro w23 ho_ hB_; replace BKb8 := hid (BKb8.out.off ho_ NBb8_b9.out); replace HL := hid (ho_.below HL.out GEb9.out); replace BKb9 := hid hB_; clear ho_ hB_)
     | ((with_reducible refine gate_d (N := 7) rfl ?_); refine ag_fix (.agg #[.int .i64 t1, .int .i64 t2, .int .i64 t3, .bool t4]) (ex_load aT23 gb8 0 #[.int .i64 t1, .int .i64 t2, .int .i64 t3, .bool t4] #[.int .i64 t1, .int .i64 t2, .int .i64 t3, .bool t4] BKb8.out (by simp) rfl _ rfl rfl) rfl ?_)
     | ((with_reducible refine gate_d (N := 8) rfl ?_); refine ag_build (.agg #[.int .i64 5, .int .i64 1, .int .i64 2, .bool true]) _ rfl rfl ?_ ?_; (intro ww_; simp only [List.map_toArray, List.map_cons, List.map_nil]; kernel_rfl))
     | ((with_reducible refine gate_d (N := 9) rfl ?_); refine ag_fix (.bool true) (ex_eq .eql 23 (.agg #[.int .i64 t1, .int .i64 t2, .int .i64 t3, .bool t4]) (.agg #[.int .i64 5, .int .i64 1, .int .i64 2, .bool true]) (.bool true) (fun x_ y_ w_ => guard_any (by kernel_rfl) _ x_ y_ w_) (fun w_ => (eq_bin (fun d_ w2_ => eqS23 d_ w2_ t1 5 t2 1 t3 2 t4 true ) (by decide) w_).trans (by rw [show ((t1 == 5) && ((t2 == 1) && ((t3 == 2) && ((t4 == true))))) = true from hc13.out])) _ _ _ rfl rfl rfl) rfl ?_)
     | ((with_reducible refine gate_d (N := 11) rfl ?_); refine ag_fix (.agg #[.int .i64 t5, .int .i64 t6, .int .i64 t7]) (ex_load aT31 gb9 0 #[.int .i64 t5, .int .i64 t6, .int .i64 t7] #[.int .i64 t5, .int .i64 t6, .int .i64 t7] BKb9.out (by simp) rfl _ rfl rfl) rfl ?_)
     | ((with_reducible refine gate_d (N := 12) rfl ?_); refine ag_build (.agg #[.int .i64 5, .int .i64 0, .int .i64 0]) _ rfl rfl ?_ ?_; (intro ww_; simp only [List.map_toArray, List.map_cons, List.map_nil]; kernel_rfl))
     | ((with_reducible refine gate_d (N := 13) rfl ?_); refine ag_fix (.bool true) (ex_eq .eql 31 (.agg #[.int .i64 t5, .int .i64 t6, .int .i64 t7]) (.agg #[.int .i64 5, .int .i64 0, .int .i64 0]) (.bool true) (fun x_ y_ w_ => guard_any (by kernel_rfl) _ x_ y_ w_) (fun w_ => (eq_bin (fun d_ w2_ => eqS31 d_ w2_ t5 5 t6 0 t7 0 ) (by decide) w_).trans (by rw [show ((t5 == 5) && ((t6 == 0) && ((t7 == 0)))) = true from hc14.out])) _ _ _ rfl rfl rfl) rfl ?_)
     | ((with_reducible refine gate_d (N := 16) rfl ?_); refine ag_fix (.agg #[.int .i64 t1, .int .i64 t2, .int .i64 t3, .bool t4]) (ex_load aT23 gb8 0 #[.int .i64 t1, .int .i64 t2, .int .i64 t3, .bool t4] #[.int .i64 t1, .int .i64 t2, .int .i64 t3, .bool t4] BKb8.out (by simp) rfl _ rfl rfl) rfl ?_)
     | (go_at_call 8; clear k24; refine (i_stip_Begins.calls t1 t2 t3 t4 t10 _ A15.out).mono ?_; rintro e_ w25 ⟨rfl, hb_⟩; replace BKb8 := hid (BKb8.out.below hb_ BKb8.out.lt); replace BKb9 := hid (BKb9.out.below hb_ BKb9.out.lt); replace HL := hid (HL.out.trans (hb_.mono HL.out.size)); clear hb_)
     | ((with_reducible refine gate_d (N := 21) rfl ?_); refine ag_fix (.agg #[.int .i64 t1, .int .i64 t2, .int .i64 t3, .bool t4]) (ex_load aT23 gb8 0 #[.int .i64 t1, .int .i64 t2, .int .i64 t3, .bool t4] #[.int .i64 t1, .int .i64 t2, .int .i64 t3, .bool t4] BKb8.out (by simp) rfl _ rfl rfl) rfl ?_)
     | (go_at_call 9; clear k26; refine (i_stip_Plies.calls t1 t2 t3 t4 t11 _ A17.out).mono ?_; rintro e_ w27 ⟨rfl, hb_⟩; replace BKb8 := hid (BKb8.out.below hb_ BKb8.out.lt); replace BKb9 := hid (BKb9.out.below hb_ BKb9.out.lt); replace HL := hid (HL.out.trans (hb_.mono HL.out.size)); clear hb_))
    (try simp only [Act.put, List.setIfInBounds_toArray, List.set_cons_zero, List.set_cons_succ])
    go_ret
    exact ⟨by first | rfl | (simp; done) | (simp [*]; done), HL.out⟩
   ·
    rw [if_neg c16] at H
    have c16b0 : (t10 == 0) = false := beq_eq_false_iff_ne.mpr c16
    have c16b1 : (t10 != 0) = true := bne_iff_ne.mpr c16
    have hc16 := hid c16
    clear c16
    obtain rfl := Option.some.inj H
    clear H
    go_enter Tryd.func5, Tryd.ntmps5
    have k28 := True.intro
    have k34 := True.intro
    go_wp2_with (first
     | (go_at_call 10; clear k28; refine (i_stip_Read.calls k (⟨#[104, 35, 50, 46, 53]⟩ : ByteArray) 0 t1 t2 t3 t4 t5 t6 t7 _ A12.out).mono ?_; rintro e_ w29 ⟨rfl, hb_⟩; replace HL := hid (HL.out.trans (hb_.mono HL.out.size)); clear hb_)
     | ((with_reducible refine gate_d (N := 1) rfl ?_); obtain ⟨gb8, hgb8⟩ : ∃ g_, w29.heap.size = g_ := ⟨_, rfl⟩; refine ag_alloc aT23 gb8 hgb8 rfl rfl ?_; intro w30 hb_ hB_ hs_; have GEb8 : Hid (w.heap.size ≤ gb8) := hid (by have := HL.out.size; omega); replace HL := hid (HL.out.trans (hb_.mono GEb8.out)); have BKb8 := hid hB_; clear hb_ hB_ hs_ hgb8)
     | ((with_reducible refine gate_d (N := 2) rfl ?_); obtain ⟨gb9, hgb9⟩ : ∃ g_, w30.heap.size = g_ := ⟨_, rfl⟩; refine ag_alloc aT31 gb9 hgb9 rfl rfl ?_; intro w31 hb_ hB_ hs_; have GEb9 : Hid (w.heap.size ≤ gb9) := hid (by have := HL.out.size; omega); have NBb8_b9 : Hid (gb8 ≠ gb9) := hid (by have := BKb8.out.lt; omega); have NBb9_b8 : Hid (gb9 ≠ gb8) := hid (by have := NBb8_b9.out; omega); replace BKb8 := hid (BKb8.out.below hb_ (by rw [← hgb9]; exact BKb8.out.lt)); replace HL := hid (HL.out.trans (hb_.mono GEb9.out)); have BKb9 := hid hB_; clear hb_ hB_ hs_ hgb9)
     | ((with_reducible refine gate_s (t := 23) (p := 1) rfl ?_); refine ag_store aT23 gb8 0 #[.int .i64 0, .int .i64 0, .int .i64 0, .bool false] #[.int .i64 t1, .int .i64 t2, .int .i64 t3, .bool t4] #[.int .i64 t1, .int .i64 t2, .int .i64 t3, .bool t4] BKb8.out rfl (by simp) (by intro v_ hv_; simp at hv_; rcases hv_ with rfl | rfl | rfl | rfl <;> first | rfl) rfl rfl _ _ rfl rfl rfl ?_; intro w32 ho_ hB_; replace BKb9 := hid (BKb9.out.off ho_ NBb9_b8.out); replace HL := hid (ho_.below HL.out GEb8.out); replace BKb8 := hid hB_; clear ho_ hB_)
     | ((with_reducible refine gate_s (t := 31) (p := 2) rfl ?_); refine ag_store aT31 gb9 0 #[.int .i64 0, .int .i64 0, .int .i64 0] #[.int .i64 t5, .int .i64 t6, .int .i64 t7] #[.int .i64 t5, .int .i64 t6, .int .i64 t7] BKb9.out rfl (by simp) (by intro v_ hv_; simp at hv_; rcases hv_ with rfl | rfl | rfl <;> first | rfl) rfl rfl _ _ rfl rfl rfl ?_; intro w33 ho_ hB_; replace BKb8 := hid (BKb8.out.off ho_ NBb8_b9.out); replace HL := hid (ho_.below HL.out GEb9.out); replace BKb9 := hid hB_; clear ho_ hB_)
     | ((with_reducible refine gate_d (N := 7) rfl ?_); refine ag_fix (.agg #[.int .i64 t1, .int .i64 t2, .int .i64 t3, .bool t4]) (ex_load aT23 gb8 0 #[.int .i64 t1, .int .i64 t2, .int .i64 t3, .bool t4] #[.int .i64 t1, .int .i64 t2, .int .i64 t3, .bool t4] BKb8.out (by simp) rfl _ rfl rfl) rfl ?_)
     | ((with_reducible refine gate_d (N := 8) rfl ?_); refine ag_build (.agg #[.int .i64 5, .int .i64 1, .int .i64 2, .bool true]) _ rfl rfl ?_ ?_; (intro ww_; simp only [List.map_toArray, List.map_cons, List.map_nil]; kernel_rfl))
     | ((with_reducible refine gate_d (N := 9) rfl ?_); refine ag_fix (.bool true) (ex_eq .eql 23 (.agg #[.int .i64 t1, .int .i64 t2, .int .i64 t3, .bool t4]) (.agg #[.int .i64 5, .int .i64 1, .int .i64 2, .bool true]) (.bool true) (fun x_ y_ w_ => guard_any (by kernel_rfl) _ x_ y_ w_) (fun w_ => (eq_bin (fun d_ w2_ => eqS23 d_ w2_ t1 5 t2 1 t3 2 t4 true ) (by decide) w_).trans (by rw [show ((t1 == 5) && ((t2 == 1) && ((t3 == 2) && ((t4 == true))))) = true from hc13.out])) _ _ _ rfl rfl rfl) rfl ?_)
     | ((with_reducible refine gate_d (N := 11) rfl ?_); refine ag_fix (.agg #[.int .i64 t5, .int .i64 t6, .int .i64 t7]) (ex_load aT31 gb9 0 #[.int .i64 t5, .int .i64 t6, .int .i64 t7] #[.int .i64 t5, .int .i64 t6, .int .i64 t7] BKb9.out (by simp) rfl _ rfl rfl) rfl ?_)
     | ((with_reducible refine gate_d (N := 12) rfl ?_); refine ag_build (.agg #[.int .i64 5, .int .i64 0, .int .i64 0]) _ rfl rfl ?_ ?_; (intro ww_; simp only [List.map_toArray, List.map_cons, List.map_nil]; kernel_rfl))
     | ((with_reducible refine gate_d (N := 13) rfl ?_); refine ag_fix (.bool true) (ex_eq .eql 31 (.agg #[.int .i64 t5, .int .i64 t6, .int .i64 t7]) (.agg #[.int .i64 5, .int .i64 0, .int .i64 0]) (.bool true) (fun x_ y_ w_ => guard_any (by kernel_rfl) _ x_ y_ w_) (fun w_ => (eq_bin (fun d_ w2_ => eqS31 d_ w2_ t5 5 t6 0 t7 0 ) (by decide) w_).trans (by rw [show ((t5 == 5) && ((t6 == 0) && ((t7 == 0)))) = true from hc14.out])) _ _ _ rfl rfl rfl) rfl ?_)
     | ((with_reducible refine gate_d (N := 16) rfl ?_); refine ag_fix (.agg #[.int .i64 t1, .int .i64 t2, .int .i64 t3, .bool t4]) (ex_load aT23 gb8 0 #[.int .i64 t1, .int .i64 t2, .int .i64 t3, .bool t4] #[.int .i64 t1, .int .i64 t2, .int .i64 t3, .bool t4] BKb8.out (by simp) rfl _ rfl rfl) rfl ?_)
     | (go_at_call 8; clear k34; refine (i_stip_Begins.calls t1 t2 t3 t4 t10 _ A15.out).mono ?_; rintro e_ w35 ⟨rfl, hb_⟩; replace BKb8 := hid (BKb8.out.below hb_ BKb8.out.lt); replace BKb9 := hid (BKb9.out.below hb_ BKb9.out.lt); replace HL := hid (HL.out.trans (hb_.mono HL.out.size)); clear hb_))
    (try simp only [Act.put, List.setIfInBounds_toArray, List.set_cons_zero, List.set_cons_succ])
    go_ret
    exact ⟨by first | rfl | (simp; done) | (simp [*]; done), HL.out⟩
  ·
   rw [if_neg c14] at H
   have c14b0 : ((t5 == 5) && ((t6 == 0) && ((t7 == 0)))) = false := by simpa using c14
   have hc14 := hid c14
   clear c14
   obtain rfl := Option.some.inj H
   clear H
   go_enter Tryd.func5, Tryd.ntmps5
   have k36 := True.intro
   go_wp2_with (first
    | (go_at_call 10; clear k36; refine (i_stip_Read.calls k (⟨#[104, 35, 50, 46, 53]⟩ : ByteArray) 0 t1 t2 t3 t4 t5 t6 t7 _ A12.out).mono ?_; rintro e_ w37 ⟨rfl, hb_⟩; replace HL := hid (HL.out.trans (hb_.mono HL.out.size)); clear hb_)
    | ((with_reducible refine gate_d (N := 1) rfl ?_); obtain ⟨gb8, hgb8⟩ : ∃ g_, w37.heap.size = g_ := ⟨_, rfl⟩; refine ag_alloc aT23 gb8 hgb8 rfl rfl ?_; intro w38 hb_ hB_ hs_; have GEb8 : Hid (w.heap.size ≤ gb8) := hid (by have := HL.out.size; omega); replace HL := hid (HL.out.trans (hb_.mono GEb8.out)); have BKb8 := hid hB_; clear hb_ hB_ hs_ hgb8)
    | ((with_reducible refine gate_d (N := 2) rfl ?_); obtain ⟨gb9, hgb9⟩ : ∃ g_, w38.heap.size = g_ := ⟨_, rfl⟩; refine ag_alloc aT31 gb9 hgb9 rfl rfl ?_; intro w39 hb_ hB_ hs_; have GEb9 : Hid (w.heap.size ≤ gb9) := hid (by have := HL.out.size; omega); have NBb8_b9 : Hid (gb8 ≠ gb9) := hid (by have := BKb8.out.lt; omega); have NBb9_b8 : Hid (gb9 ≠ gb8) := hid (by have := NBb8_b9.out; omega); replace BKb8 := hid (BKb8.out.below hb_ (by rw [← hgb9]; exact BKb8.out.lt)); replace HL := hid (HL.out.trans (hb_.mono GEb9.out)); have BKb9 := hid hB_; clear hb_ hB_ hs_ hgb9)
    | ((with_reducible refine gate_s (t := 23) (p := 1) rfl ?_); refine ag_store aT23 gb8 0 #[.int .i64 0, .int .i64 0, .int .i64 0, .bool false] #[.int .i64 t1, .int .i64 t2, .int .i64 t3, .bool t4] #[.int .i64 t1, .int .i64 t2, .int .i64 t3, .bool t4] BKb8.out rfl (by simp) (by intro v_ hv_; simp at hv_; rcases hv_ with rfl | rfl | rfl | rfl <;> first | rfl) rfl rfl _ _ rfl rfl rfl ?_; intro w40 ho_ hB_; replace BKb9 := hid (BKb9.out.off ho_ NBb9_b8.out); replace HL := hid (ho_.below HL.out GEb8.out); replace BKb8 := hid hB_; clear ho_ hB_)
    | ((with_reducible refine gate_s (t := 31) (p := 2) rfl ?_); refine ag_store aT31 gb9 0 #[.int .i64 0, .int .i64 0, .int .i64 0] #[.int .i64 t5, .int .i64 t6, .int .i64 t7] #[.int .i64 t5, .int .i64 t6, .int .i64 t7] BKb9.out rfl (by simp) (by intro v_ hv_; simp at hv_; rcases hv_ with rfl | rfl | rfl <;> first | rfl) rfl rfl _ _ rfl rfl rfl ?_; intro w41 ho_ hB_; replace BKb8 := hid (BKb8.out.off ho_ NBb8_b9.out); replace HL := hid (ho_.below HL.out GEb9.out); replace BKb9 := hid hB_; clear ho_ hB_)
    | ((with_reducible refine gate_d (N := 7) rfl ?_); refine ag_fix (.agg #[.int .i64 t1, .int .i64 t2, .int .i64 t3, .bool t4]) (ex_load aT23 gb8 0 #[.int .i64 t1, .int .i64 t2, .int .i64 t3, .bool t4] #[.int .i64 t1, .int .i64 t2, .int .i64 t3, .bool t4] BKb8.out (by simp) rfl _ rfl rfl) rfl ?_)
    | ((with_reducible refine gate_d (N := 8) rfl ?_); refine ag_build (.agg #[.int .i64 5, .int .i64 1, .int .i64 2, .bool true]) _ rfl rfl ?_ ?_; (intro ww_; simp only [List.map_toArray, List.map_cons, List.map_nil]; kernel_rfl))
    | ((with_reducible refine gate_d (N := 9) rfl ?_); refine ag_fix (.bool true) (ex_eq .eql 23 (.agg #[.int .i64 t1, .int .i64 t2, .int .i64 t3, .bool t4]) (.agg #[.int .i64 5, .int .i64 1, .int .i64 2, .bool true]) (.bool true) (fun x_ y_ w_ => guard_any (by kernel_rfl) _ x_ y_ w_) (fun w_ => (eq_bin (fun d_ w2_ => eqS23 d_ w2_ t1 5 t2 1 t3 2 t4 true ) (by decide) w_).trans (by rw [show ((t1 == 5) && ((t2 == 1) && ((t3 == 2) && ((t4 == true))))) = true from hc13.out])) _ _ _ rfl rfl rfl) rfl ?_)
    | ((with_reducible refine gate_d (N := 11) rfl ?_); refine ag_fix (.agg #[.int .i64 t5, .int .i64 t6, .int .i64 t7]) (ex_load aT31 gb9 0 #[.int .i64 t5, .int .i64 t6, .int .i64 t7] #[.int .i64 t5, .int .i64 t6, .int .i64 t7] BKb9.out (by simp) rfl _ rfl rfl) rfl ?_)
    | ((with_reducible refine gate_d (N := 12) rfl ?_); refine ag_build (.agg #[.int .i64 5, .int .i64 0, .int .i64 0]) _ rfl rfl ?_ ?_; (intro ww_; simp only [List.map_toArray, List.map_cons, List.map_nil]; kernel_rfl))
    | ((with_reducible refine gate_d (N := 13) rfl ?_); refine ag_fix (.bool false) (ex_eq .eql 31 (.agg #[.int .i64 t5, .int .i64 t6, .int .i64 t7]) (.agg #[.int .i64 5, .int .i64 0, .int .i64 0]) (.bool false) (fun x_ y_ w_ => guard_any (by kernel_rfl) _ x_ y_ w_) (fun w_ => (eq_bin (fun d_ w2_ => eqS31 d_ w2_ t5 5 t6 0 t7 0 ) (by decide) w_).trans (by rw [show ((t5 == 5) && ((t6 == 0) && ((t7 == 0)))) = false from Bool.eq_false_iff.mpr hc14.out])) _ _ _ rfl rfl rfl) rfl ?_))
   (try simp only [Act.put, List.setIfInBounds_toArray, List.set_cons_zero, List.set_cons_succ])
   go_ret
   exact ⟨by first | rfl | (simp; done) | (simp [*]; done), HL.out⟩
 ·
  rw [if_neg c13] at H
  have c13b0 : ((t1 == 5) && ((t2 == 1) && ((t3 == 2) && ((t4 == true))))) = false := by simpa using c13
  have hc13 := hid c13
  clear c13
  obtain rfl := Option.some.inj H
  clear H
  go_enter Tryd.func5, Tryd.ntmps5
  have k42 := True.intro
  go_wp2_with (first
   | (go_at_call 10; clear k42; refine (i_stip_Read.calls k (⟨#[104, 35, 50, 46, 53]⟩ : ByteArray) 0 t1 t2 t3 t4 t5 t6 t7 _ A12.out).mono ?_; rintro e_ w43 ⟨rfl, hb_⟩; replace HL := hid (HL.out.trans (hb_.mono HL.out.size)); clear hb_)
   | ((with_reducible refine gate_d (N := 1) rfl ?_); obtain ⟨gb8, hgb8⟩ : ∃ g_, w43.heap.size = g_ := ⟨_, rfl⟩; refine ag_alloc aT23 gb8 hgb8 rfl rfl ?_; intro w44 hb_ hB_ hs_; have GEb8 : Hid (w.heap.size ≤ gb8) := hid (by have := HL.out.size; omega); replace HL := hid (HL.out.trans (hb_.mono GEb8.out)); have BKb8 := hid hB_; clear hb_ hB_ hs_ hgb8)
   | ((with_reducible refine gate_d (N := 2) rfl ?_); obtain ⟨gb9, hgb9⟩ : ∃ g_, w44.heap.size = g_ := ⟨_, rfl⟩; refine ag_alloc aT31 gb9 hgb9 rfl rfl ?_; intro w45 hb_ hB_ hs_; have GEb9 : Hid (w.heap.size ≤ gb9) := hid (by have := HL.out.size; omega); have NBb8_b9 : Hid (gb8 ≠ gb9) := hid (by have := BKb8.out.lt; omega); have NBb9_b8 : Hid (gb9 ≠ gb8) := hid (by have := NBb8_b9.out; omega); replace BKb8 := hid (BKb8.out.below hb_ (by rw [← hgb9]; exact BKb8.out.lt)); replace HL := hid (HL.out.trans (hb_.mono GEb9.out)); have BKb9 := hid hB_; clear hb_ hB_ hs_ hgb9)
   | ((with_reducible refine gate_s (t := 23) (p := 1) rfl ?_); refine ag_store aT23 gb8 0 #[.int .i64 0, .int .i64 0, .int .i64 0, .bool false] #[.int .i64 t1, .int .i64 t2, .int .i64 t3, .bool t4] #[.int .i64 t1, .int .i64 t2, .int .i64 t3, .bool t4] BKb8.out rfl (by simp) (by intro v_ hv_; simp at hv_; rcases hv_ with rfl | rfl | rfl | rfl <;> first | rfl) rfl rfl _ _ rfl rfl rfl ?_; intro w46 ho_ hB_; replace BKb9 := hid (BKb9.out.off ho_ NBb9_b8.out); replace HL := hid (ho_.below HL.out GEb8.out); replace BKb8 := hid hB_; clear ho_ hB_)
   | ((with_reducible refine gate_s (t := 31) (p := 2) rfl ?_); refine ag_store aT31 gb9 0 #[.int .i64 0, .int .i64 0, .int .i64 0] #[.int .i64 t5, .int .i64 t6, .int .i64 t7] #[.int .i64 t5, .int .i64 t6, .int .i64 t7] BKb9.out rfl (by simp) (by intro v_ hv_; simp at hv_; rcases hv_ with rfl | rfl | rfl <;> first | rfl) rfl rfl _ _ rfl rfl rfl ?_; intro w47 ho_ hB_; replace BKb8 := hid (BKb8.out.off ho_ NBb8_b9.out); replace HL := hid (ho_.below HL.out GEb9.out); replace BKb9 := hid hB_; clear ho_ hB_)
   | ((with_reducible refine gate_d (N := 7) rfl ?_); refine ag_fix (.agg #[.int .i64 t1, .int .i64 t2, .int .i64 t3, .bool t4]) (ex_load aT23 gb8 0 #[.int .i64 t1, .int .i64 t2, .int .i64 t3, .bool t4] #[.int .i64 t1, .int .i64 t2, .int .i64 t3, .bool t4] BKb8.out (by simp) rfl _ rfl rfl) rfl ?_)
   | ((with_reducible refine gate_d (N := 8) rfl ?_); refine ag_build (.agg #[.int .i64 5, .int .i64 1, .int .i64 2, .bool true]) _ rfl rfl ?_ ?_; (intro ww_; simp only [List.map_toArray, List.map_cons, List.map_nil]; kernel_rfl))
   | ((with_reducible refine gate_d (N := 9) rfl ?_); refine ag_fix (.bool false) (ex_eq .eql 23 (.agg #[.int .i64 t1, .int .i64 t2, .int .i64 t3, .bool t4]) (.agg #[.int .i64 5, .int .i64 1, .int .i64 2, .bool true]) (.bool false) (fun x_ y_ w_ => guard_any (by kernel_rfl) _ x_ y_ w_) (fun w_ => (eq_bin (fun d_ w2_ => eqS23 d_ w2_ t1 5 t2 1 t3 2 t4 true ) (by decide) w_).trans (by rw [show ((t1 == 5) && ((t2 == 1) && ((t3 == 2) && ((t4 == true))))) = false from Bool.eq_false_iff.mpr hc13.out])) _ _ _ rfl rfl rfl) rfl ?_))
  (try simp only [Act.put, List.setIfInBounds_toArray, List.set_cons_zero, List.set_cons_succ])
  go_ret
  exact ⟨by first | rfl | (simp; done) | (simp [*]; done), HL.out⟩
/-! i_alfillaw15_StipWrites: function 3 -/
def i_alfillaw15_StipWrites.f (k : Nat) (a0_0 : Int) (a0_1 : Int) (a0_2 : Int) (a0_3 : Bool) : Option (Bool) := (i_alfillaw15_wakes.f k).bind fun t2 => (if t2 = true then ((i_stip_Write.f a0_0 a0_1 a0_2 a0_3).bind fun bt3 => ((i_alfilref15_Right.f a0_0 a0_1 a0_2 a0_3).bind fun t5 => (if t5 = true then (if bt3.1.size + 1 ≤ 9223372036854775807 then ((i_stip_Read.f k (bt3.1 ++ (⟨#[10]⟩ : ByteArray)) 0).bind fun bt6 => (if bt3.2 = true then ((i_alfilref15_Text.f a0_0 a0_1 a0_2 a0_3).bind fun t15 => (if bt3.1.toList = t15.toList then (if ((bt6.1 == a0_0) && ((bt6.2.1 == a0_1) && ((bt6.2.2.1 == a0_2) && ((bt6.2.2.2.1 == a0_3))))) = true then (if ((bt6.2.2.2.2.1 == (bt3.1.size : Int)) && ((bt6.2.2.2.2.2.1 == 0) && ((bt6.2.2.2.2.2.2 == 0)))) = true then ((i_stip_Begins.f a0_0 a0_1 a0_2 a0_3).bind fun t16 => ((i_alfilref15_Begins.f a0_0 a0_1 a0_2 a0_3).bind fun t17 => (if t16 = t17 then ((i_stip_Plies.f a0_0 a0_1 a0_2 a0_3).bind fun t18 => ((i_alfilref15_Plies.f a0_0 a0_1 a0_2 a0_3).bind fun t19 => (some (t18 == t19)))) else (some false)))) else (some false)) else (some false)) else (some false))) else (some false))) else (none)) else (if bt3.1.toList = ([] : List UInt8) then (if bt3.2 = true then (some false) else ((i_stip_Begins.f a0_0 a0_1 a0_2 a0_3).bind fun t20 => (if t20 = (-1) then ((i_stip_Plies.f a0_0 a0_1 a0_2 a0_3).bind fun t21 => (some (t21 == (-1)))) else (some false)))) else (some false))))) else (some false))
set_option maxHeartbeats 40000000 in
set_option maxRecDepth 100000 in
theorem i_alfillaw15_StipWrites.calls (k : Nat) (a0_0 : Int) (a0_1 : Int) (a0_2 : Int) (a0_3 : Bool) (r1 : Bool) (w : World) (h : i_alfillaw15_StipWrites.f k a0_0 a0_1 a0_2 a0_3 = some r1) :
    Calls Tryd.prog 3 #[.agg #[.int .i64 a0_0, .int .i64 a0_1, .int .i64 a0_2, .bool a0_3]] w fun e w' => e = .returned (.bool r1) ∧ Below w.heap.size w w' := by
 have HL := hid (Below.refl w.heap.size w)
 have H : ((i_alfillaw15_wakes.f k).bind fun t2 => (if t2 = true then ((i_stip_Write.f a0_0 a0_1 a0_2 a0_3).bind fun bt3 => ((i_alfilref15_Right.f a0_0 a0_1 a0_2 a0_3).bind fun t5 => (if t5 = true then (if bt3.1.size + 1 ≤ 9223372036854775807 then ((i_stip_Read.f k (bt3.1 ++ (⟨#[10]⟩ : ByteArray)) 0).bind fun bt6 => (if bt3.2 = true then ((i_alfilref15_Text.f a0_0 a0_1 a0_2 a0_3).bind fun t15 => (if bt3.1.toList = t15.toList then (if ((bt6.1 == a0_0) && ((bt6.2.1 == a0_1) && ((bt6.2.2.1 == a0_2) && ((bt6.2.2.2.1 == a0_3))))) = true then (if ((bt6.2.2.2.2.1 == (bt3.1.size : Int)) && ((bt6.2.2.2.2.2.1 == 0) && ((bt6.2.2.2.2.2.2 == 0)))) = true then ((i_stip_Begins.f a0_0 a0_1 a0_2 a0_3).bind fun t16 => ((i_alfilref15_Begins.f a0_0 a0_1 a0_2 a0_3).bind fun t17 => (if t16 = t17 then ((i_stip_Plies.f a0_0 a0_1 a0_2 a0_3).bind fun t18 => ((i_alfilref15_Plies.f a0_0 a0_1 a0_2 a0_3).bind fun t19 => (some (t18 == t19)))) else (some false)))) else (some false)) else (some false)) else (some false))) else (some false))) else (none)) else (if bt3.1.toList = ([] : List UInt8) then (if bt3.2 = true then (some false) else ((i_stip_Begins.f a0_0 a0_1 a0_2 a0_3).bind fun t20 => (if t20 = (-1) then ((i_stip_Plies.f a0_0 a0_1 a0_2 a0_3).bind fun t21 => (some (t21 == (-1)))) else (some false)))) else (some false))))) else (some false))) = some r1 := h
 clear h
 replace H := Option.bind_eq_some_iff.mp H
 obtain ⟨t2, A22_, H⟩ := H
 replace H : (if t2 = true then ((i_stip_Write.f a0_0 a0_1 a0_2 a0_3).bind fun bt3 => ((i_alfilref15_Right.f a0_0 a0_1 a0_2 a0_3).bind fun t5 => (if t5 = true then (if bt3.1.size + 1 ≤ 9223372036854775807 then ((i_stip_Read.f k (bt3.1 ++ (⟨#[10]⟩ : ByteArray)) 0).bind fun bt6 => (if bt3.2 = true then ((i_alfilref15_Text.f a0_0 a0_1 a0_2 a0_3).bind fun t15 => (if bt3.1.toList = t15.toList then (if ((bt6.1 == a0_0) && ((bt6.2.1 == a0_1) && ((bt6.2.2.1 == a0_2) && ((bt6.2.2.2.1 == a0_3))))) = true then (if ((bt6.2.2.2.2.1 == (bt3.1.size : Int)) && ((bt6.2.2.2.2.2.1 == 0) && ((bt6.2.2.2.2.2.2 == 0)))) = true then ((i_stip_Begins.f a0_0 a0_1 a0_2 a0_3).bind fun t16 => ((i_alfilref15_Begins.f a0_0 a0_1 a0_2 a0_3).bind fun t17 => (if t16 = t17 then ((i_stip_Plies.f a0_0 a0_1 a0_2 a0_3).bind fun t18 => ((i_alfilref15_Plies.f a0_0 a0_1 a0_2 a0_3).bind fun t19 => (some (t18 == t19)))) else (some false)))) else (some false)) else (some false)) else (some false))) else (some false))) else (none)) else (if bt3.1.toList = ([] : List UInt8) then (if bt3.2 = true then (some false) else ((i_stip_Begins.f a0_0 a0_1 a0_2 a0_3).bind fun t20 => (if t20 = (-1) then ((i_stip_Plies.f a0_0 a0_1 a0_2 a0_3).bind fun t21 => (some (t21 == (-1)))) else (some false)))) else (some false))))) else (some false)) = some r1 := H
 have A22 := hid A22_
 clear A22_
 cases t2 with
 | true =>
  rw [if_pos rfl] at H
  replace H := Option.bind_eq_some_iff.mp H
  obtain ⟨⟨t3, t4⟩, A24_, H⟩ := H
  replace H : ((i_alfilref15_Right.f a0_0 a0_1 a0_2 a0_3).bind fun t5 => (if t5 = true then (if t3.size + 1 ≤ 9223372036854775807 then ((i_stip_Read.f k (t3 ++ (⟨#[10]⟩ : ByteArray)) 0).bind fun bt6 => (if t4 = true then ((i_alfilref15_Text.f a0_0 a0_1 a0_2 a0_3).bind fun t15 => (if t3.toList = t15.toList then (if ((bt6.1 == a0_0) && ((bt6.2.1 == a0_1) && ((bt6.2.2.1 == a0_2) && ((bt6.2.2.2.1 == a0_3))))) = true then (if ((bt6.2.2.2.2.1 == (t3.size : Int)) && ((bt6.2.2.2.2.2.1 == 0) && ((bt6.2.2.2.2.2.2 == 0)))) = true then ((i_stip_Begins.f a0_0 a0_1 a0_2 a0_3).bind fun t16 => ((i_alfilref15_Begins.f a0_0 a0_1 a0_2 a0_3).bind fun t17 => (if t16 = t17 then ((i_stip_Plies.f a0_0 a0_1 a0_2 a0_3).bind fun t18 => ((i_alfilref15_Plies.f a0_0 a0_1 a0_2 a0_3).bind fun t19 => (some (t18 == t19)))) else (some false)))) else (some false)) else (some false)) else (some false))) else (some false))) else (none)) else (if t3.toList = ([] : List UInt8) then (if t4 = true then (some false) else ((i_stip_Begins.f a0_0 a0_1 a0_2 a0_3).bind fun t20 => (if t20 = (-1) then ((i_stip_Plies.f a0_0 a0_1 a0_2 a0_3).bind fun t21 => (some (t21 == (-1)))) else (some false)))) else (some false)))) = some r1 := H
  have A24 := hid A24_
  clear A24_
  replace H := Option.bind_eq_some_iff.mp H
  obtain ⟨t5, A25_, H⟩ := H
  replace H : (if t5 = true then (if t3.size + 1 ≤ 9223372036854775807 then ((i_stip_Read.f k (t3 ++ (⟨#[10]⟩ : ByteArray)) 0).bind fun bt6 => (if t4 = true then ((i_alfilref15_Text.f a0_0 a0_1 a0_2 a0_3).bind fun t15 => (if t3.toList = t15.toList then (if ((bt6.1 == a0_0) && ((bt6.2.1 == a0_1) && ((bt6.2.2.1 == a0_2) && ((bt6.2.2.2.1 == a0_3))))) = true then (if ((bt6.2.2.2.2.1 == (t3.size : Int)) && ((bt6.2.2.2.2.2.1 == 0) && ((bt6.2.2.2.2.2.2 == 0)))) = true then ((i_stip_Begins.f a0_0 a0_1 a0_2 a0_3).bind fun t16 => ((i_alfilref15_Begins.f a0_0 a0_1 a0_2 a0_3).bind fun t17 => (if t16 = t17 then ((i_stip_Plies.f a0_0 a0_1 a0_2 a0_3).bind fun t18 => ((i_alfilref15_Plies.f a0_0 a0_1 a0_2 a0_3).bind fun t19 => (some (t18 == t19)))) else (some false)))) else (some false)) else (some false)) else (some false))) else (some false))) else (none)) else (if t3.toList = ([] : List UInt8) then (if t4 = true then (some false) else ((i_stip_Begins.f a0_0 a0_1 a0_2 a0_3).bind fun t20 => (if t20 = (-1) then ((i_stip_Plies.f a0_0 a0_1 a0_2 a0_3).bind fun t21 => (some (t21 == (-1)))) else (some false)))) else (some false))) = some r1 := H
  have A25 := hid A25_
  clear A25_
  cases t5 with
  | true =>
   rw [if_pos rfl] at H
   by_cases c27 : t3.size + 1 ≤ 9223372036854775807
   ·
    rw [if_pos c27] at H
    have hc27 := hid c27
    clear c27
    replace H := Option.bind_eq_some_iff.mp H
    obtain ⟨⟨t6, t7, t8, t9, t10, t11, t12⟩, A28_, H⟩ := H
    replace H : (if t4 = true then ((i_alfilref15_Text.f a0_0 a0_1 a0_2 a0_3).bind fun t15 => (if t3.toList = t15.toList then (if ((t6 == a0_0) && ((t7 == a0_1) && ((t8 == a0_2) && ((t9 == a0_3))))) = true then (if ((t10 == (t3.size : Int)) && ((t11 == 0) && ((t12 == 0)))) = true then ((i_stip_Begins.f a0_0 a0_1 a0_2 a0_3).bind fun t16 => ((i_alfilref15_Begins.f a0_0 a0_1 a0_2 a0_3).bind fun t17 => (if t16 = t17 then ((i_stip_Plies.f a0_0 a0_1 a0_2 a0_3).bind fun t18 => ((i_alfilref15_Plies.f a0_0 a0_1 a0_2 a0_3).bind fun t19 => (some (t18 == t19)))) else (some false)))) else (some false)) else (some false)) else (some false))) else (some false)) = some r1 := H
    have A28 := hid A28_
    clear A28_
    cases t4 with
    | true =>
     rw [if_pos rfl] at H
     replace H := Option.bind_eq_some_iff.mp H
     obtain ⟨t15, A30_, H⟩ := H
     replace H : (if t3.toList = t15.toList then (if ((t6 == a0_0) && ((t7 == a0_1) && ((t8 == a0_2) && ((t9 == a0_3))))) = true then (if ((t10 == (t3.size : Int)) && ((t11 == 0) && ((t12 == 0)))) = true then ((i_stip_Begins.f a0_0 a0_1 a0_2 a0_3).bind fun t16 => ((i_alfilref15_Begins.f a0_0 a0_1 a0_2 a0_3).bind fun t17 => (if t16 = t17 then ((i_stip_Plies.f a0_0 a0_1 a0_2 a0_3).bind fun t18 => ((i_alfilref15_Plies.f a0_0 a0_1 a0_2 a0_3).bind fun t19 => (some (t18 == t19)))) else (some false)))) else (some false)) else (some false)) else (some false)) = some r1 := H
     have A30 := hid A30_
     clear A30_
     by_cases c31 : t3.toList = t15.toList
     ·
      rw [if_pos c31] at H
      have c31b0 : (t3.toList == t15.toList) = true := beq_iff_eq.mpr c31
      have c31b1 : (t3.toList != t15.toList) = false := bne_eq_false_iff_eq.mpr c31
      have hc31 := hid c31
      clear c31
      by_cases c32 : ((t6 == a0_0) && ((t7 == a0_1) && ((t8 == a0_2) && ((t9 == a0_3))))) = true
      ·
       rw [if_pos c32] at H
       have c32b0 : ((t6 == a0_0) && ((t7 == a0_1) && ((t8 == a0_2) && ((t9 == a0_3))))) = true := c32
       have hc32 := hid c32
       clear c32
       by_cases c33 : ((t10 == (t3.size : Int)) && ((t11 == 0) && ((t12 == 0)))) = true
       ·
        rw [if_pos c33] at H
        have c33b0 : ((t10 == (t3.size : Int)) && ((t11 == 0) && ((t12 == 0)))) = true := c33
        have hc33 := hid c33
        clear c33
        replace H := Option.bind_eq_some_iff.mp H
        obtain ⟨t16, A34_, H⟩ := H
        replace H : ((i_alfilref15_Begins.f a0_0 a0_1 a0_2 a0_3).bind fun t17 => (if t16 = t17 then ((i_stip_Plies.f a0_0 a0_1 a0_2 a0_3).bind fun t18 => ((i_alfilref15_Plies.f a0_0 a0_1 a0_2 a0_3).bind fun t19 => (some (t18 == t19)))) else (some false))) = some r1 := H
        have A34 := hid A34_
        clear A34_
        replace H := Option.bind_eq_some_iff.mp H
        obtain ⟨t17, A35_, H⟩ := H
        replace H : (if t16 = t17 then ((i_stip_Plies.f a0_0 a0_1 a0_2 a0_3).bind fun t18 => ((i_alfilref15_Plies.f a0_0 a0_1 a0_2 a0_3).bind fun t19 => (some (t18 == t19)))) else (some false)) = some r1 := H
        have A35 := hid A35_
        clear A35_
        by_cases c36 : t16 = t17
        ·
         rw [if_pos c36] at H
         have c36b0 : (t16 == t17) = true := beq_iff_eq.mpr c36
         have c36b1 : (t16 != t17) = false := bne_eq_false_iff_eq.mpr c36
         have hc36 := hid c36
         clear c36
         replace H := Option.bind_eq_some_iff.mp H
         obtain ⟨t18, A37_, H⟩ := H
         replace H : ((i_alfilref15_Plies.f a0_0 a0_1 a0_2 a0_3).bind fun t19 => (some (t18 == t19))) = some r1 := H
         have A37 := hid A37_
         clear A37_
         replace H := Option.bind_eq_some_iff.mp H
         obtain ⟨t19, A38_, H⟩ := H
         replace H : (some (t18 == t19)) = some r1 := H
         have A38 := hid A38_
         clear A38_
         obtain rfl := Option.some.inj H
         clear H
         go_enter Tryd.func3, Tryd.ntmps3
         have k40 := True.intro
         have k42 := True.intro
         have k44 := True.intro
         have k46 := True.intro
         go_wp2_with (first
          | ((with_reducible refine gate_d (N := 1) rfl ?_); obtain ⟨gb1, hgb1⟩ : ∃ g_, w.heap.size = g_ := ⟨_, rfl⟩; refine ag_box #[.int .i64 a0_0, .int .i64 a0_1, .int .i64 a0_2, .bool a0_3] gb1 hgb1 rfl _ rfl rfl ?_; intro w39 hb_ hB_ hs_; have GEb1 : Hid (w.heap.size ≤ gb1) := hid (by have := HL.out.size; omega); replace HL := hid (HL.out.trans (hb_.mono GEb1.out)); have BKb1 := hid hB_; clear hb_ hB_ hs_ hgb1)
          | (go_at_call 5; clear k40; refine (i_alfillaw15_wakes.calls k true _ A22.out).mono ?_; rintro e_ w41 ⟨rfl, hb_⟩; replace BKb1 := hid (BKb1.out.below hb_ BKb1.out.lt); replace HL := hid (HL.out.trans (hb_.mono HL.out.size)); clear hb_)
          | ((with_reducible refine gate_d (N := 10) rfl ?_); refine ag_fix (.agg #[.int .i64 a0_0, .int .i64 a0_1, .int .i64 a0_2, .bool a0_3]) (ex_load aT23 gb1 0 #[.int .i64 a0_0, .int .i64 a0_1, .int .i64 a0_2, .bool a0_3] #[.int .i64 a0_0, .int .i64 a0_1, .int .i64 a0_2, .bool a0_3] BKb1.out (by simp) rfl _ rfl rfl) rfl ?_)
          | (go_at_call 6; clear k42; refine (i_stip_Write.calls a0_0 a0_1 a0_2 a0_3 t3 true _ A24.out).mono ?_; rintro e_ w43 ⟨rfl, hb_⟩; replace BKb1 := hid (BKb1.out.below hb_ BKb1.out.lt); replace HL := hid (HL.out.trans (hb_.mono HL.out.size)); clear hb_)
          | ((with_reducible refine gate_d (N := 14) rfl ?_); refine ag_fix (.agg #[.int .i64 a0_0, .int .i64 a0_1, .int .i64 a0_2, .bool a0_3]) (ex_load aT23 gb1 0 #[.int .i64 a0_0, .int .i64 a0_1, .int .i64 a0_2, .bool a0_3] #[.int .i64 a0_0, .int .i64 a0_1, .int .i64 a0_2, .bool a0_3] BKb1.out (by simp) rfl _ rfl rfl) rfl ?_)
          | (go_at_call 7; clear k44; refine (i_alfilref15_Right.calls a0_0 a0_1 a0_2 a0_3 true _ A25.out).mono ?_; rintro e_ w45 ⟨rfl, hb_⟩; replace BKb1 := hid (BKb1.out.below hb_ BKb1.out.lt); replace HL := hid (HL.out.trans (hb_.mono HL.out.size)); clear hb_)
          | ((with_reducible refine gate_d (N := 35) rfl ?_); refine ag_fix (.string (t3 ++ (⟨#[10]⟩ : ByteArray))) (ex_cat 9 t3 (⟨#[10]⟩ : ByteArray) hc27.out _ _ _ rfl rfl rfl) rfl ?_)
          | (go_at_call 10; clear k46; refine (i_stip_Read.calls k (t3 ++ (⟨#[10]⟩ : ByteArray)) 0 t6 t7 t8 t9 t10 t11 t12 _ A28.out).mono ?_; rintro e_ w47 ⟨rfl, hb_⟩; replace BKb1 := hid (BKb1.out.below hb_ BKb1.out.lt); replace HL := hid (HL.out.trans (hb_.mono HL.out.size)); clear hb_)
          | ((with_reducible refine gate_d (N := 5) rfl ?_); obtain ⟨gb13, hgb13⟩ : ∃ g_, w47.heap.size = g_ := ⟨_, rfl⟩; refine ag_alloc aT23 gb13 hgb13 rfl rfl ?_; intro w48 hb_ hB_ hs_; have GEb13 : Hid (w.heap.size ≤ gb13) := hid (by have := HL.out.size; omega); have NBb1_b13 : Hid (gb1 ≠ gb13) := hid (by have := BKb1.out.lt; omega); have NBb13_b1 : Hid (gb13 ≠ gb1) := hid (by have := NBb1_b13.out; omega); replace BKb1 := hid (BKb1.out.below hb_ (by rw [← hgb13]; exact BKb1.out.lt)); replace HL := hid (HL.out.trans (hb_.mono GEb13.out)); have BKb13 := hid hB_; clear hb_ hB_ hs_ hgb13)
          | ((with_reducible refine gate_d (N := 6) rfl ?_); obtain ⟨gb14, hgb14⟩ : ∃ g_, w48.heap.size = g_ := ⟨_, rfl⟩; refine ag_alloc aT31 gb14 hgb14 rfl rfl ?_; intro w49 hb_ hB_ hs_; have GEb14 : Hid (w.heap.size ≤ gb14) := hid (by have := HL.out.size; omega); have NBb1_b14 : Hid (gb1 ≠ gb14) := hid (by have := BKb1.out.lt; omega); have NBb14_b1 : Hid (gb14 ≠ gb1) := hid (by have := NBb1_b14.out; omega); replace BKb1 := hid (BKb1.out.below hb_ (by rw [← hgb14]; exact BKb1.out.lt)); have NBb13_b14 : Hid (gb13 ≠ gb14) := hid (by have := BKb13.out.lt; omega); have NBb14_b13 : Hid (gb14 ≠ gb13) := hid (by have := NBb13_b14.out; omega); replace BKb13 := hid (BKb13.out.below hb_ (by rw [← hgb14]; exact BKb13.out.lt)); replace HL := hid (HL.out.trans (hb_.mono GEb14.out)); have BKb14 := hid hB_; clear hb_ hB_ hs_ hgb14)
          | ((with_reducible refine gate_s (t := 23) (p := 5) rfl ?_); refine ag_store aT23 gb13 0 #[.int .i64 0, .int .i64 0, .int .i64 0, .bool false] #[.int .i64 t6, .int .i64 t7, .int .i64 t8, .bool t9] #[.int .i64 t6, .int .i64 t7, .int .i64 t8, .bool t9] BKb13.out rfl (by simp) (by intro v_ hv_; simp at hv_; rcases hv_ with rfl | rfl | rfl | rfl <;> first | rfl) rfl rfl _ _ rfl rfl rfl ?_; intro w50 ho_ hB_; replace BKb1 := hid (BKb1.out.off ho_ NBb1_b13.out); replace BKb14 := hid (BKb14.out.off ho_ NBb14_b13.out); replace HL := hid (ho_.below HL.out GEb13.out); replace BKb13 := hid hB_; clear ho_ hB_)
          | ((with_reducible refine gate_s (t := 31) (p := 6) rfl ?_); refine ag_store aT31 gb14 0 #[.int .i64 0, .int .i64 0, .int .i64 0] #[.int .i64 t10, .int .i64 t11, .int .i64 t12] #[.int .i64 t10, .int .i64 t11, .int .i64 t12] BKb14.out rfl (by simp) (by intro v_ hv_; simp at hv_; rcases hv_ with rfl | rfl | rfl <;> first | rfl) rfl rfl _ _ rfl rfl rfl ?_; intro w51 ho_ hB_; replace BKb1 := hid (BKb1.out.off ho_ NBb1_b14.out); replace BKb13 := hid (BKb13.out.off ho_ NBb13_b14.out); replace HL := hid (ho_.below HL.out GEb14.out); replace BKb14 := hid hB_; clear ho_ hB_))
         (try simp only [Act.put, List.setIfInBounds_toArray, List.set_cons_zero, List.set_cons_succ])
         have WR64 := i64_w
         have WR32 := i32_w
         refine up_regionW (by kernel_rfl) (by kernel_rfl) ?_
         refine q_do (.bool true) (fun w'_ hc_ => ex_mv (.tmp 4) (.inl rfl) _ rfl) rfl rfl ?_
         intro ts_ ht_; simp only [List.setIfInBounds_toArray, List.set_cons_zero, List.set_cons_succ] at ht_; subst ht_
         refine q_do (.bool true) (fun w'_ hc_ => ex_mv (.tmp 39) (.inl rfl) _ rfl) rfl rfl ?_
         intro ts_ ht_; simp only [List.setIfInBounds_toArray, List.set_cons_zero, List.set_cons_succ] at ht_; subst ht_
         refine q_do (.string t3) (fun w'_ hc_ => ex_mv (.tmp 3) (.inl rfl) _ rfl) rfl rfl ?_
         intro ts_ ht_; simp only [List.setIfInBounds_toArray, List.set_cons_zero, List.set_cons_succ] at ht_; subst ht_
         refine q_do (.agg #[.int .i64 a0_0, .int .i64 a0_1, .int .i64 a0_2, .bool a0_3]) (fun w'_ hc_ => by obtain ⟨n_, hn_⟩ := hc_; exact ex_load aT23 gb1 0 #[.int .i64 a0_0, .int .i64 a0_1, .int .i64 a0_2, .bool a0_3] #[.int .i64 a0_0, .int .i64 a0_1, .int .i64 a0_2, .bool a0_3] (by rw [hn_]; exact BKb1.out.below n_.below BKb1.out.lt) (by simp) rfl _ rfl rfl) rfl rfl ?_
         intro ts_ ht_; simp only [List.setIfInBounds_toArray, List.set_cons_zero, List.set_cons_succ] at ht_; subst ht_
         refine q_call (.string t15) 11 #[.agg #[.int .i64 a0_0, .int .i64 a0_1, .int .i64 a0_2, .bool a0_3]] (fun w'_ => by go_simp) (fun w'_ hc_ => (i_alfilref15_Text.calls a0_0 a0_1 a0_2 a0_3 t15 _ A30.out).mono fun e_ w2_ h_ => ⟨h_.1, up_below hc_ h_.2⟩) rfl rfl ?_
         intro ts_ ht_; simp only [List.setIfInBounds_toArray, List.set_cons_zero, List.set_cons_succ] at ht_; subst ht_
         refine q_do (.bool true) (fun w'_ hc_ => by go_simp) rfl rfl ?_
         intro ts_ ht_; simp only [List.setIfInBounds_toArray, List.set_cons_zero, List.set_cons_succ] at ht_; subst ht_
         refine q_do (.bool true) (fun w'_ hc_ => by go_simp) rfl rfl ?_
         intro ts_ ht_; simp only [List.setIfInBounds_toArray, List.set_cons_zero, List.set_cons_succ] at ht_; subst ht_
         refine q_do (.bool true) (fun w'_ hc_ => ex_mv (.tmp 45) (.inl rfl) _ rfl) rfl rfl ?_
         intro ts_ ht_; simp only [List.setIfInBounds_toArray, List.set_cons_zero, List.set_cons_succ] at ht_; subst ht_
         refine q_do (.agg #[.int .i64 t6, .int .i64 t7, .int .i64 t8, .bool t9]) (fun w'_ hc_ => by obtain ⟨n_, hn_⟩ := hc_; exact ex_load aT23 gb13 0 #[.int .i64 t6, .int .i64 t7, .int .i64 t8, .bool t9] #[.int .i64 t6, .int .i64 t7, .int .i64 t8, .bool t9] (by rw [hn_]; exact BKb13.out.below n_.below BKb13.out.lt) (by simp) rfl _ rfl rfl) rfl rfl ?_
         intro ts_ ht_; simp only [List.setIfInBounds_toArray, List.set_cons_zero, List.set_cons_succ] at ht_; subst ht_
         refine q_do (.agg #[.int .i64 a0_0, .int .i64 a0_1, .int .i64 a0_2, .bool a0_3]) (fun w'_ hc_ => by obtain ⟨n_, hn_⟩ := hc_; exact ex_load aT23 gb1 0 #[.int .i64 a0_0, .int .i64 a0_1, .int .i64 a0_2, .bool a0_3] #[.int .i64 a0_0, .int .i64 a0_1, .int .i64 a0_2, .bool a0_3] (by rw [hn_]; exact BKb1.out.below n_.below BKb1.out.lt) (by simp) rfl _ rfl rfl) rfl rfl ?_
         intro ts_ ht_; simp only [List.setIfInBounds_toArray, List.set_cons_zero, List.set_cons_succ] at ht_; subst ht_
         refine q_do (.bool true) (fun w'_ hc_ => by obtain ⟨n_, hn_⟩ := hc_; exact ex_eq .eql 23 (.agg #[.int .i64 t6, .int .i64 t7, .int .i64 t8, .bool t9]) (.agg #[.int .i64 a0_0, .int .i64 a0_1, .int .i64 a0_2, .bool a0_3]) (.bool true) (fun x_ y_ w_ => guard_any (by kernel_rfl) _ x_ y_ w_) (fun w_ => (eq_bin (fun d_ w2_ => eqS23 d_ w2_ t6 a0_0 t7 a0_1 t8 a0_2 t9 a0_3 ) (by decide) w_).trans (by rw [show ((t6 == a0_0) && ((t7 == a0_1) && ((t8 == a0_2) && ((t9 == a0_3))))) = true from hc32.out])) _ _ _ rfl rfl rfl) rfl rfl ?_
         intro ts_ ht_; simp only [List.setIfInBounds_toArray, List.set_cons_zero, List.set_cons_succ] at ht_; subst ht_
         refine q_do (.bool true) (fun w'_ hc_ => by go_simp) rfl rfl ?_
         intro ts_ ht_; simp only [List.setIfInBounds_toArray, List.set_cons_zero, List.set_cons_succ] at ht_; subst ht_
         refine q_do (.bool true) (fun w'_ hc_ => ex_mv (.tmp 50) (.inl rfl) _ rfl) rfl rfl ?_
         intro ts_ ht_; simp only [List.setIfInBounds_toArray, List.set_cons_zero, List.set_cons_succ] at ht_; subst ht_
         refine q_do (.agg #[.int .i64 t10, .int .i64 t11, .int .i64 t12]) (fun w'_ hc_ => by obtain ⟨n_, hn_⟩ := hc_; exact ex_load aT31 gb14 0 #[.int .i64 t10, .int .i64 t11, .int .i64 t12] #[.int .i64 t10, .int .i64 t11, .int .i64 t12] (by rw [hn_]; exact BKb14.out.below n_.below BKb14.out.lt) (by simp) rfl _ rfl rfl) rfl rfl ?_
         intro ts_ ht_; simp only [List.setIfInBounds_toArray, List.set_cons_zero, List.set_cons_succ] at ht_; subst ht_
         refine q_do (.string t3) (fun w'_ hc_ => ex_mv (.tmp 3) (.inl rfl) _ rfl) rfl rfl ?_
         intro ts_ ht_; simp only [List.setIfInBounds_toArray, List.set_cons_zero, List.set_cons_succ] at ht_; subst ht_
         refine q_do (.int .i64 (t3.size : Int)) (fun w'_ hc_ => by go_simp) rfl rfl ?_
         intro ts_ ht_; simp only [List.setIfInBounds_toArray, List.set_cons_zero, List.set_cons_succ] at ht_; subst ht_
         refine q_do (.agg #[.int .i64 (t3.size : Int), .int .i64 0, .int .i64 0]) (fun w'_ hc_ => by obtain ⟨n_, hn_⟩ := hc_; exact ex_build (.agg #[.int .i64 (t3.size : Int), .int .i64 0, .int .i64 0]) _ rfl (by intro ww_; simp only [List.map_toArray, List.map_cons, List.map_nil]; kernel_rfl)) rfl rfl ?_
         intro ts_ ht_; simp only [List.setIfInBounds_toArray, List.set_cons_zero, List.set_cons_succ] at ht_; subst ht_
         refine q_do (.bool true) (fun w'_ hc_ => by obtain ⟨n_, hn_⟩ := hc_; exact ex_eq .eql 31 (.agg #[.int .i64 t10, .int .i64 t11, .int .i64 t12]) (.agg #[.int .i64 (t3.size : Int), .int .i64 0, .int .i64 0]) (.bool true) (fun x_ y_ w_ => guard_any (by kernel_rfl) _ x_ y_ w_) (fun w_ => (eq_bin (fun d_ w2_ => eqS31 d_ w2_ t10 (t3.size : Int) t11 0 t12 0 ) (by decide) w_).trans (by rw [show ((t10 == (t3.size : Int)) && ((t11 == 0) && ((t12 == 0)))) = true from hc33.out])) _ _ _ rfl rfl rfl) rfl rfl ?_
         intro ts_ ht_; simp only [List.setIfInBounds_toArray, List.set_cons_zero, List.set_cons_succ] at ht_; subst ht_
         refine q_do (.bool true) (fun w'_ hc_ => by go_simp) rfl rfl ?_
         intro ts_ ht_; simp only [List.setIfInBounds_toArray, List.set_cons_zero, List.set_cons_succ] at ht_; subst ht_
         refine q_do (.bool true) (fun w'_ hc_ => ex_mv (.tmp 57) (.inl rfl) _ rfl) rfl rfl ?_
         intro ts_ ht_; simp only [List.setIfInBounds_toArray, List.set_cons_zero, List.set_cons_succ] at ht_; subst ht_
         refine q_do (.agg #[.int .i64 a0_0, .int .i64 a0_1, .int .i64 a0_2, .bool a0_3]) (fun w'_ hc_ => by obtain ⟨n_, hn_⟩ := hc_; exact ex_load aT23 gb1 0 #[.int .i64 a0_0, .int .i64 a0_1, .int .i64 a0_2, .bool a0_3] #[.int .i64 a0_0, .int .i64 a0_1, .int .i64 a0_2, .bool a0_3] (by rw [hn_]; exact BKb1.out.below n_.below BKb1.out.lt) (by simp) rfl _ rfl rfl) rfl rfl ?_
         intro ts_ ht_; simp only [List.setIfInBounds_toArray, List.set_cons_zero, List.set_cons_succ] at ht_; subst ht_
         refine q_call (.int .i64 t16) 8 #[.agg #[.int .i64 a0_0, .int .i64 a0_1, .int .i64 a0_2, .bool a0_3]] (fun w'_ => by go_simp) (fun w'_ hc_ => (i_stip_Begins.calls a0_0 a0_1 a0_2 a0_3 t16 _ A34.out).mono fun e_ w2_ h_ => ⟨h_.1, up_below hc_ h_.2⟩) rfl rfl ?_
         intro ts_ ht_; simp only [List.setIfInBounds_toArray, List.set_cons_zero, List.set_cons_succ] at ht_; subst ht_
         refine q_do (.agg #[.int .i64 a0_0, .int .i64 a0_1, .int .i64 a0_2, .bool a0_3]) (fun w'_ hc_ => by obtain ⟨n_, hn_⟩ := hc_; exact ex_load aT23 gb1 0 #[.int .i64 a0_0, .int .i64 a0_1, .int .i64 a0_2, .bool a0_3] #[.int .i64 a0_0, .int .i64 a0_1, .int .i64 a0_2, .bool a0_3] (by rw [hn_]; exact BKb1.out.below n_.below BKb1.out.lt) (by simp) rfl _ rfl rfl) rfl rfl ?_
         intro ts_ ht_; simp only [List.setIfInBounds_toArray, List.set_cons_zero, List.set_cons_succ] at ht_; subst ht_
         refine q_call (.int .i64 t17) 12 #[.agg #[.int .i64 a0_0, .int .i64 a0_1, .int .i64 a0_2, .bool a0_3]] (fun w'_ => by go_simp) (fun w'_ hc_ => (i_alfilref15_Begins.calls a0_0 a0_1 a0_2 a0_3 t17 _ A35.out).mono fun e_ w2_ h_ => ⟨h_.1, up_below hc_ h_.2⟩) rfl rfl ?_
         intro ts_ ht_; simp only [List.setIfInBounds_toArray, List.set_cons_zero, List.set_cons_succ] at ht_; subst ht_
         refine q_do (.bool true) (fun w'_ hc_ => by go_simp) rfl rfl ?_
         intro ts_ ht_; simp only [List.setIfInBounds_toArray, List.set_cons_zero, List.set_cons_succ] at ht_; subst ht_
         refine q_do (.bool true) (fun w'_ hc_ => by go_simp) rfl rfl ?_
         intro ts_ ht_; simp only [List.setIfInBounds_toArray, List.set_cons_zero, List.set_cons_succ] at ht_; subst ht_
         refine q_do (.bool true) (fun w'_ hc_ => ex_mv (.tmp 64) (.inl rfl) _ rfl) rfl rfl ?_
         intro ts_ ht_; simp only [List.setIfInBounds_toArray, List.set_cons_zero, List.set_cons_succ] at ht_; subst ht_
         refine q_do (.agg #[.int .i64 a0_0, .int .i64 a0_1, .int .i64 a0_2, .bool a0_3]) (fun w'_ hc_ => by obtain ⟨n_, hn_⟩ := hc_; exact ex_load aT23 gb1 0 #[.int .i64 a0_0, .int .i64 a0_1, .int .i64 a0_2, .bool a0_3] #[.int .i64 a0_0, .int .i64 a0_1, .int .i64 a0_2, .bool a0_3] (by rw [hn_]; exact BKb1.out.below n_.below BKb1.out.lt) (by simp) rfl _ rfl rfl) rfl rfl ?_
         intro ts_ ht_; simp only [List.setIfInBounds_toArray, List.set_cons_zero, List.set_cons_succ] at ht_; subst ht_
         refine q_call (.int .i64 t18) 9 #[.agg #[.int .i64 a0_0, .int .i64 a0_1, .int .i64 a0_2, .bool a0_3]] (fun w'_ => by go_simp) (fun w'_ hc_ => (i_stip_Plies.calls a0_0 a0_1 a0_2 a0_3 t18 _ A37.out).mono fun e_ w2_ h_ => ⟨h_.1, up_below hc_ h_.2⟩) rfl rfl ?_
         intro ts_ ht_; simp only [List.setIfInBounds_toArray, List.set_cons_zero, List.set_cons_succ] at ht_; subst ht_
         refine q_do (.agg #[.int .i64 a0_0, .int .i64 a0_1, .int .i64 a0_2, .bool a0_3]) (fun w'_ hc_ => by obtain ⟨n_, hn_⟩ := hc_; exact ex_load aT23 gb1 0 #[.int .i64 a0_0, .int .i64 a0_1, .int .i64 a0_2, .bool a0_3] #[.int .i64 a0_0, .int .i64 a0_1, .int .i64 a0_2, .bool a0_3] (by rw [hn_]; exact BKb1.out.below n_.below BKb1.out.lt) (by simp) rfl _ rfl rfl) rfl rfl ?_
         intro ts_ ht_; simp only [List.setIfInBounds_toArray, List.set_cons_zero, List.set_cons_succ] at ht_; subst ht_
         refine q_call (.int .i64 t19) 13 #[.agg #[.int .i64 a0_0, .int .i64 a0_1, .int .i64 a0_2, .bool a0_3]] (fun w'_ => by go_simp) (fun w'_ hc_ => (i_alfilref15_Plies.calls a0_0 a0_1 a0_2 a0_3 t19 _ A38.out).mono fun e_ w2_ h_ => ⟨h_.1, up_below hc_ h_.2⟩) rfl rfl ?_
         intro ts_ ht_; simp only [List.setIfInBounds_toArray, List.set_cons_zero, List.set_cons_succ] at ht_; subst ht_
         refine q_do (.bool (t18 == t19)) (fun w'_ hc_ => by go_simp) rfl rfl ?_
         intro ts_ ht_; simp only [List.setIfInBounds_toArray, List.set_cons_zero, List.set_cons_succ] at ht_; subst ht_
         refine q_do (.bool (t18 == t19)) (fun w'_ hc_ => by go_simp) rfl rfl ?_
         intro ts_ ht_; simp only [List.setIfInBounds_toArray, List.set_cons_zero, List.set_cons_succ] at ht_; subst ht_
         refine q_do (.bool (t18 == t19)) (fun w'_ hc_ => ex_mv (.tmp 71) (.inr rfl) _ rfl) rfl rfl ?_
         intro ts_ ht_; simp only [List.setIfInBounds_toArray, List.set_cons_zero, List.set_cons_succ] at ht_; subst ht_
         refine q_end ?_
         rintro w8_ ⟨n_, rfl⟩
         replace BKb1 := hid (BKb1.out.below n_.below BKb1.out.lt)
         replace BKb13 := hid (BKb13.out.below n_.below BKb13.out.lt)
         replace BKb14 := hid (BKb14.out.below n_.below BKb14.out.lt)
         replace HL := hid (HL.out.trans (n_.below.mono HL.out.size))
         generalize n_.world = w52 at *
         clear n_ WR64 WR32
         go_wp2_with fail
         (try simp only [Act.put, List.setIfInBounds_toArray, List.set_cons_zero, List.set_cons_succ])
         go_ret
         exact ⟨by first | rfl | (simp; done) | (simp [*]; done), HL.out⟩
        ·
         rw [if_neg c36] at H
         have c36b0 : (t16 == t17) = false := beq_eq_false_iff_ne.mpr c36
         have c36b1 : (t16 != t17) = true := bne_iff_ne.mpr c36
         have hc36 := hid c36
         clear c36
         obtain rfl := Option.some.inj H
         clear H
         go_enter Tryd.func3, Tryd.ntmps3
         have k54 := True.intro
         have k56 := True.intro
         have k58 := True.intro
         have k60 := True.intro
         go_wp2_with (first
          | ((with_reducible refine gate_d (N := 1) rfl ?_); obtain ⟨gb1, hgb1⟩ : ∃ g_, w.heap.size = g_ := ⟨_, rfl⟩; refine ag_box #[.int .i64 a0_0, .int .i64 a0_1, .int .i64 a0_2, .bool a0_3] gb1 hgb1 rfl _ rfl rfl ?_; intro w53 hb_ hB_ hs_; have GEb1 : Hid (w.heap.size ≤ gb1) := hid (by have := HL.out.size; omega); replace HL := hid (HL.out.trans (hb_.mono GEb1.out)); have BKb1 := hid hB_; clear hb_ hB_ hs_ hgb1)
          | (go_at_call 5; clear k54; refine (i_alfillaw15_wakes.calls k true _ A22.out).mono ?_; rintro e_ w55 ⟨rfl, hb_⟩; replace BKb1 := hid (BKb1.out.below hb_ BKb1.out.lt); replace HL := hid (HL.out.trans (hb_.mono HL.out.size)); clear hb_)
          | ((with_reducible refine gate_d (N := 10) rfl ?_); refine ag_fix (.agg #[.int .i64 a0_0, .int .i64 a0_1, .int .i64 a0_2, .bool a0_3]) (ex_load aT23 gb1 0 #[.int .i64 a0_0, .int .i64 a0_1, .int .i64 a0_2, .bool a0_3] #[.int .i64 a0_0, .int .i64 a0_1, .int .i64 a0_2, .bool a0_3] BKb1.out (by simp) rfl _ rfl rfl) rfl ?_)
          | (go_at_call 6; clear k56; refine (i_stip_Write.calls a0_0 a0_1 a0_2 a0_3 t3 true _ A24.out).mono ?_; rintro e_ w57 ⟨rfl, hb_⟩; replace BKb1 := hid (BKb1.out.below hb_ BKb1.out.lt); replace HL := hid (HL.out.trans (hb_.mono HL.out.size)); clear hb_)
          | ((with_reducible refine gate_d (N := 14) rfl ?_); refine ag_fix (.agg #[.int .i64 a0_0, .int .i64 a0_1, .int .i64 a0_2, .bool a0_3]) (ex_load aT23 gb1 0 #[.int .i64 a0_0, .int .i64 a0_1, .int .i64 a0_2, .bool a0_3] #[.int .i64 a0_0, .int .i64 a0_1, .int .i64 a0_2, .bool a0_3] BKb1.out (by simp) rfl _ rfl rfl) rfl ?_)
          | (go_at_call 7; clear k58; refine (i_alfilref15_Right.calls a0_0 a0_1 a0_2 a0_3 true _ A25.out).mono ?_; rintro e_ w59 ⟨rfl, hb_⟩; replace BKb1 := hid (BKb1.out.below hb_ BKb1.out.lt); replace HL := hid (HL.out.trans (hb_.mono HL.out.size)); clear hb_)
          | ((with_reducible refine gate_d (N := 35) rfl ?_); refine ag_fix (.string (t3 ++ (⟨#[10]⟩ : ByteArray))) (ex_cat 9 t3 (⟨#[10]⟩ : ByteArray) hc27.out _ _ _ rfl rfl rfl) rfl ?_)
          | (go_at_call 10; clear k60; refine (i_stip_Read.calls k (t3 ++ (⟨#[10]⟩ : ByteArray)) 0 t6 t7 t8 t9 t10 t11 t12 _ A28.out).mono ?_; rintro e_ w61 ⟨rfl, hb_⟩; replace BKb1 := hid (BKb1.out.below hb_ BKb1.out.lt); replace HL := hid (HL.out.trans (hb_.mono HL.out.size)); clear hb_)
          | ((with_reducible refine gate_d (N := 5) rfl ?_); obtain ⟨gb13, hgb13⟩ : ∃ g_, w61.heap.size = g_ := ⟨_, rfl⟩; refine ag_alloc aT23 gb13 hgb13 rfl rfl ?_; intro w62 hb_ hB_ hs_; have GEb13 : Hid (w.heap.size ≤ gb13) := hid (by have := HL.out.size; omega); have NBb1_b13 : Hid (gb1 ≠ gb13) := hid (by have := BKb1.out.lt; omega); have NBb13_b1 : Hid (gb13 ≠ gb1) := hid (by have := NBb1_b13.out; omega); replace BKb1 := hid (BKb1.out.below hb_ (by rw [← hgb13]; exact BKb1.out.lt)); replace HL := hid (HL.out.trans (hb_.mono GEb13.out)); have BKb13 := hid hB_; clear hb_ hB_ hs_ hgb13)
          | ((with_reducible refine gate_d (N := 6) rfl ?_); obtain ⟨gb14, hgb14⟩ : ∃ g_, w62.heap.size = g_ := ⟨_, rfl⟩; refine ag_alloc aT31 gb14 hgb14 rfl rfl ?_; intro w63 hb_ hB_ hs_; have GEb14 : Hid (w.heap.size ≤ gb14) := hid (by have := HL.out.size; omega); have NBb1_b14 : Hid (gb1 ≠ gb14) := hid (by have := BKb1.out.lt; omega); have NBb14_b1 : Hid (gb14 ≠ gb1) := hid (by have := NBb1_b14.out; omega); replace BKb1 := hid (BKb1.out.below hb_ (by rw [← hgb14]; exact BKb1.out.lt)); have NBb13_b14 : Hid (gb13 ≠ gb14) := hid (by have := BKb13.out.lt; omega); have NBb14_b13 : Hid (gb14 ≠ gb13) := hid (by have := NBb13_b14.out; omega); replace BKb13 := hid (BKb13.out.below hb_ (by rw [← hgb14]; exact BKb13.out.lt)); replace HL := hid (HL.out.trans (hb_.mono GEb14.out)); have BKb14 := hid hB_; clear hb_ hB_ hs_ hgb14)
          | ((with_reducible refine gate_s (t := 23) (p := 5) rfl ?_); refine ag_store aT23 gb13 0 #[.int .i64 0, .int .i64 0, .int .i64 0, .bool false] #[.int .i64 t6, .int .i64 t7, .int .i64 t8, .bool t9] #[.int .i64 t6, .int .i64 t7, .int .i64 t8, .bool t9] BKb13.out rfl (by simp) (by intro v_ hv_; simp at hv_; rcases hv_ with rfl | rfl | rfl | rfl <;> first | rfl) rfl rfl _ _ rfl rfl rfl ?_; intro w64 ho_ hB_; replace BKb1 := hid (BKb1.out.off ho_ NBb1_b13.out); replace BKb14 := hid (BKb14.out.off ho_ NBb14_b13.out); replace HL := hid (ho_.below HL.out GEb13.out); replace BKb13 := hid hB_; clear ho_ hB_)
          | ((with_reducible refine gate_s (t := 31) (p := 6) rfl ?_); refine ag_store aT31 gb14 0 #[.int .i64 0, .int .i64 0, .int .i64 0] #[.int .i64 t10, .int .i64 t11, .int .i64 t12] #[.int .i64 t10, .int .i64 t11, .int .i64 t12] BKb14.out rfl (by simp) (by intro v_ hv_; simp at hv_; rcases hv_ with rfl | rfl | rfl <;> first | rfl) rfl rfl _ _ rfl rfl rfl ?_; intro w65 ho_ hB_; replace BKb1 := hid (BKb1.out.off ho_ NBb1_b14.out); replace BKb13 := hid (BKb13.out.off ho_ NBb13_b14.out); replace HL := hid (ho_.below HL.out GEb14.out); replace BKb14 := hid hB_; clear ho_ hB_))
         (try simp only [Act.put, List.setIfInBounds_toArray, List.set_cons_zero, List.set_cons_succ])
         have WR64 := i64_w
         have WR32 := i32_w
         refine up_regionW (by kernel_rfl) (by kernel_rfl) ?_
         refine q_do (.bool true) (fun w'_ hc_ => ex_mv (.tmp 4) (.inl rfl) _ rfl) rfl rfl ?_
         intro ts_ ht_; simp only [List.setIfInBounds_toArray, List.set_cons_zero, List.set_cons_succ] at ht_; subst ht_
         refine q_do (.bool true) (fun w'_ hc_ => ex_mv (.tmp 39) (.inl rfl) _ rfl) rfl rfl ?_
         intro ts_ ht_; simp only [List.setIfInBounds_toArray, List.set_cons_zero, List.set_cons_succ] at ht_; subst ht_
         refine q_do (.string t3) (fun w'_ hc_ => ex_mv (.tmp 3) (.inl rfl) _ rfl) rfl rfl ?_
         intro ts_ ht_; simp only [List.setIfInBounds_toArray, List.set_cons_zero, List.set_cons_succ] at ht_; subst ht_
         refine q_do (.agg #[.int .i64 a0_0, .int .i64 a0_1, .int .i64 a0_2, .bool a0_3]) (fun w'_ hc_ => by obtain ⟨n_, hn_⟩ := hc_; exact ex_load aT23 gb1 0 #[.int .i64 a0_0, .int .i64 a0_1, .int .i64 a0_2, .bool a0_3] #[.int .i64 a0_0, .int .i64 a0_1, .int .i64 a0_2, .bool a0_3] (by rw [hn_]; exact BKb1.out.below n_.below BKb1.out.lt) (by simp) rfl _ rfl rfl) rfl rfl ?_
         intro ts_ ht_; simp only [List.setIfInBounds_toArray, List.set_cons_zero, List.set_cons_succ] at ht_; subst ht_
         refine q_call (.string t15) 11 #[.agg #[.int .i64 a0_0, .int .i64 a0_1, .int .i64 a0_2, .bool a0_3]] (fun w'_ => by go_simp) (fun w'_ hc_ => (i_alfilref15_Text.calls a0_0 a0_1 a0_2 a0_3 t15 _ A30.out).mono fun e_ w2_ h_ => ⟨h_.1, up_below hc_ h_.2⟩) rfl rfl ?_
         intro ts_ ht_; simp only [List.setIfInBounds_toArray, List.set_cons_zero, List.set_cons_succ] at ht_; subst ht_
         refine q_do (.bool true) (fun w'_ hc_ => by go_simp) rfl rfl ?_
         intro ts_ ht_; simp only [List.setIfInBounds_toArray, List.set_cons_zero, List.set_cons_succ] at ht_; subst ht_
         refine q_do (.bool true) (fun w'_ hc_ => by go_simp) rfl rfl ?_
         intro ts_ ht_; simp only [List.setIfInBounds_toArray, List.set_cons_zero, List.set_cons_succ] at ht_; subst ht_
         refine q_do (.bool true) (fun w'_ hc_ => ex_mv (.tmp 45) (.inl rfl) _ rfl) rfl rfl ?_
         intro ts_ ht_; simp only [List.setIfInBounds_toArray, List.set_cons_zero, List.set_cons_succ] at ht_; subst ht_
         refine q_do (.agg #[.int .i64 t6, .int .i64 t7, .int .i64 t8, .bool t9]) (fun w'_ hc_ => by obtain ⟨n_, hn_⟩ := hc_; exact ex_load aT23 gb13 0 #[.int .i64 t6, .int .i64 t7, .int .i64 t8, .bool t9] #[.int .i64 t6, .int .i64 t7, .int .i64 t8, .bool t9] (by rw [hn_]; exact BKb13.out.below n_.below BKb13.out.lt) (by simp) rfl _ rfl rfl) rfl rfl ?_
         intro ts_ ht_; simp only [List.setIfInBounds_toArray, List.set_cons_zero, List.set_cons_succ] at ht_; subst ht_
         refine q_do (.agg #[.int .i64 a0_0, .int .i64 a0_1, .int .i64 a0_2, .bool a0_3]) (fun w'_ hc_ => by obtain ⟨n_, hn_⟩ := hc_; exact ex_load aT23 gb1 0 #[.int .i64 a0_0, .int .i64 a0_1, .int .i64 a0_2, .bool a0_3] #[.int .i64 a0_0, .int .i64 a0_1, .int .i64 a0_2, .bool a0_3] (by rw [hn_]; exact BKb1.out.below n_.below BKb1.out.lt) (by simp) rfl _ rfl rfl) rfl rfl ?_
         intro ts_ ht_; simp only [List.setIfInBounds_toArray, List.set_cons_zero, List.set_cons_succ] at ht_; subst ht_
         refine q_do (.bool true) (fun w'_ hc_ => by obtain ⟨n_, hn_⟩ := hc_; exact ex_eq .eql 23 (.agg #[.int .i64 t6, .int .i64 t7, .int .i64 t8, .bool t9]) (.agg #[.int .i64 a0_0, .int .i64 a0_1, .int .i64 a0_2, .bool a0_3]) (.bool true) (fun x_ y_ w_ => guard_any (by kernel_rfl) _ x_ y_ w_) (fun w_ => (eq_bin (fun d_ w2_ => eqS23 d_ w2_ t6 a0_0 t7 a0_1 t8 a0_2 t9 a0_3 ) (by decide) w_).trans (by rw [show ((t6 == a0_0) && ((t7 == a0_1) && ((t8 == a0_2) && ((t9 == a0_3))))) = true from hc32.out])) _ _ _ rfl rfl rfl) rfl rfl ?_
         intro ts_ ht_; simp only [List.setIfInBounds_toArray, List.set_cons_zero, List.set_cons_succ] at ht_; subst ht_
         refine q_do (.bool true) (fun w'_ hc_ => by go_simp) rfl rfl ?_
         intro ts_ ht_; simp only [List.setIfInBounds_toArray, List.set_cons_zero, List.set_cons_succ] at ht_; subst ht_
         refine q_do (.bool true) (fun w'_ hc_ => ex_mv (.tmp 50) (.inl rfl) _ rfl) rfl rfl ?_
         intro ts_ ht_; simp only [List.setIfInBounds_toArray, List.set_cons_zero, List.set_cons_succ] at ht_; subst ht_
         refine q_do (.agg #[.int .i64 t10, .int .i64 t11, .int .i64 t12]) (fun w'_ hc_ => by obtain ⟨n_, hn_⟩ := hc_; exact ex_load aT31 gb14 0 #[.int .i64 t10, .int .i64 t11, .int .i64 t12] #[.int .i64 t10, .int .i64 t11, .int .i64 t12] (by rw [hn_]; exact BKb14.out.below n_.below BKb14.out.lt) (by simp) rfl _ rfl rfl) rfl rfl ?_
         intro ts_ ht_; simp only [List.setIfInBounds_toArray, List.set_cons_zero, List.set_cons_succ] at ht_; subst ht_
         refine q_do (.string t3) (fun w'_ hc_ => ex_mv (.tmp 3) (.inl rfl) _ rfl) rfl rfl ?_
         intro ts_ ht_; simp only [List.setIfInBounds_toArray, List.set_cons_zero, List.set_cons_succ] at ht_; subst ht_
         refine q_do (.int .i64 (t3.size : Int)) (fun w'_ hc_ => by go_simp) rfl rfl ?_
         intro ts_ ht_; simp only [List.setIfInBounds_toArray, List.set_cons_zero, List.set_cons_succ] at ht_; subst ht_
         refine q_do (.agg #[.int .i64 (t3.size : Int), .int .i64 0, .int .i64 0]) (fun w'_ hc_ => by obtain ⟨n_, hn_⟩ := hc_; exact ex_build (.agg #[.int .i64 (t3.size : Int), .int .i64 0, .int .i64 0]) _ rfl (by intro ww_; simp only [List.map_toArray, List.map_cons, List.map_nil]; kernel_rfl)) rfl rfl ?_
         intro ts_ ht_; simp only [List.setIfInBounds_toArray, List.set_cons_zero, List.set_cons_succ] at ht_; subst ht_
         refine q_do (.bool true) (fun w'_ hc_ => by obtain ⟨n_, hn_⟩ := hc_; exact ex_eq .eql 31 (.agg #[.int .i64 t10, .int .i64 t11, .int .i64 t12]) (.agg #[.int .i64 (t3.size : Int), .int .i64 0, .int .i64 0]) (.bool true) (fun x_ y_ w_ => guard_any (by kernel_rfl) _ x_ y_ w_) (fun w_ => (eq_bin (fun d_ w2_ => eqS31 d_ w2_ t10 (t3.size : Int) t11 0 t12 0 ) (by decide) w_).trans (by rw [show ((t10 == (t3.size : Int)) && ((t11 == 0) && ((t12 == 0)))) = true from hc33.out])) _ _ _ rfl rfl rfl) rfl rfl ?_
         intro ts_ ht_; simp only [List.setIfInBounds_toArray, List.set_cons_zero, List.set_cons_succ] at ht_; subst ht_
         refine q_do (.bool true) (fun w'_ hc_ => by go_simp) rfl rfl ?_
         intro ts_ ht_; simp only [List.setIfInBounds_toArray, List.set_cons_zero, List.set_cons_succ] at ht_; subst ht_
         refine q_do (.bool true) (fun w'_ hc_ => ex_mv (.tmp 57) (.inl rfl) _ rfl) rfl rfl ?_
         intro ts_ ht_; simp only [List.setIfInBounds_toArray, List.set_cons_zero, List.set_cons_succ] at ht_; subst ht_
         refine q_do (.agg #[.int .i64 a0_0, .int .i64 a0_1, .int .i64 a0_2, .bool a0_3]) (fun w'_ hc_ => by obtain ⟨n_, hn_⟩ := hc_; exact ex_load aT23 gb1 0 #[.int .i64 a0_0, .int .i64 a0_1, .int .i64 a0_2, .bool a0_3] #[.int .i64 a0_0, .int .i64 a0_1, .int .i64 a0_2, .bool a0_3] (by rw [hn_]; exact BKb1.out.below n_.below BKb1.out.lt) (by simp) rfl _ rfl rfl) rfl rfl ?_
         intro ts_ ht_; simp only [List.setIfInBounds_toArray, List.set_cons_zero, List.set_cons_succ] at ht_; subst ht_
         refine q_call (.int .i64 t16) 8 #[.agg #[.int .i64 a0_0, .int .i64 a0_1, .int .i64 a0_2, .bool a0_3]] (fun w'_ => by go_simp) (fun w'_ hc_ => (i_stip_Begins.calls a0_0 a0_1 a0_2 a0_3 t16 _ A34.out).mono fun e_ w2_ h_ => ⟨h_.1, up_below hc_ h_.2⟩) rfl rfl ?_
         intro ts_ ht_; simp only [List.setIfInBounds_toArray, List.set_cons_zero, List.set_cons_succ] at ht_; subst ht_
         refine q_do (.agg #[.int .i64 a0_0, .int .i64 a0_1, .int .i64 a0_2, .bool a0_3]) (fun w'_ hc_ => by obtain ⟨n_, hn_⟩ := hc_; exact ex_load aT23 gb1 0 #[.int .i64 a0_0, .int .i64 a0_1, .int .i64 a0_2, .bool a0_3] #[.int .i64 a0_0, .int .i64 a0_1, .int .i64 a0_2, .bool a0_3] (by rw [hn_]; exact BKb1.out.below n_.below BKb1.out.lt) (by simp) rfl _ rfl rfl) rfl rfl ?_
         intro ts_ ht_; simp only [List.setIfInBounds_toArray, List.set_cons_zero, List.set_cons_succ] at ht_; subst ht_
         refine q_call (.int .i64 t17) 12 #[.agg #[.int .i64 a0_0, .int .i64 a0_1, .int .i64 a0_2, .bool a0_3]] (fun w'_ => by go_simp) (fun w'_ hc_ => (i_alfilref15_Begins.calls a0_0 a0_1 a0_2 a0_3 t17 _ A35.out).mono fun e_ w2_ h_ => ⟨h_.1, up_below hc_ h_.2⟩) rfl rfl ?_
         intro ts_ ht_; simp only [List.setIfInBounds_toArray, List.set_cons_zero, List.set_cons_succ] at ht_; subst ht_
         refine q_do (.bool false) (fun w'_ hc_ => by go_simp) rfl rfl ?_
         intro ts_ ht_; simp only [List.setIfInBounds_toArray, List.set_cons_zero, List.set_cons_succ] at ht_; subst ht_
         refine q_do (.bool false) (fun w'_ hc_ => by go_simp) rfl rfl ?_
         intro ts_ ht_; simp only [List.setIfInBounds_toArray, List.set_cons_zero, List.set_cons_succ] at ht_; subst ht_
         refine q_do (.bool false) (fun w'_ hc_ => ex_mv (.tmp 64) (.inl rfl) _ rfl) rfl rfl ?_
         intro ts_ ht_; simp only [List.setIfInBounds_toArray, List.set_cons_zero, List.set_cons_succ] at ht_; subst ht_
         refine q_not 26 false rfl rfl rfl ?_
         intro ts_ ht_; simp only [List.setIfInBounds_toArray, List.set_cons_zero, List.set_cons_succ] at ht_; subst ht_
         refine q_not 26 false rfl rfl rfl ?_
         intro ts_ ht_; simp only [List.setIfInBounds_toArray, List.set_cons_zero, List.set_cons_succ] at ht_; subst ht_
         refine q_not 26 false rfl rfl rfl ?_
         intro ts_ ht_; simp only [List.setIfInBounds_toArray, List.set_cons_zero, List.set_cons_succ] at ht_; subst ht_
         refine q_not 26 false rfl rfl rfl ?_
         intro ts_ ht_; simp only [List.setIfInBounds_toArray, List.set_cons_zero, List.set_cons_succ] at ht_; subst ht_
         refine q_not 26 false rfl rfl rfl ?_
         intro ts_ ht_; simp only [List.setIfInBounds_toArray, List.set_cons_zero, List.set_cons_succ] at ht_; subst ht_
         refine q_do (.bool false) (fun w'_ hc_ => by go_simp) rfl rfl ?_
         intro ts_ ht_; simp only [List.setIfInBounds_toArray, List.set_cons_zero, List.set_cons_succ] at ht_; subst ht_
         refine q_do (.bool false) (fun w'_ hc_ => ex_mv (.tmp 71) (.inr rfl) _ rfl) rfl rfl ?_
         intro ts_ ht_; simp only [List.setIfInBounds_toArray, List.set_cons_zero, List.set_cons_succ] at ht_; subst ht_
         refine q_end ?_
         rintro w8_ ⟨n_, rfl⟩
         replace BKb1 := hid (BKb1.out.below n_.below BKb1.out.lt)
         replace BKb13 := hid (BKb13.out.below n_.below BKb13.out.lt)
         replace BKb14 := hid (BKb14.out.below n_.below BKb14.out.lt)
         replace HL := hid (HL.out.trans (n_.below.mono HL.out.size))
         generalize n_.world = w66 at *
         clear n_ WR64 WR32
         go_wp2_with fail
         (try simp only [Act.put, List.setIfInBounds_toArray, List.set_cons_zero, List.set_cons_succ])
         go_ret
         exact ⟨by first | rfl | (simp; done) | (simp [*]; done), HL.out⟩
       ·
        rw [if_neg c33] at H
        have c33b0 : ((t10 == (t3.size : Int)) && ((t11 == 0) && ((t12 == 0)))) = false := by simpa using c33
        have hc33 := hid c33
        clear c33
        obtain rfl := Option.some.inj H
        clear H
        go_enter Tryd.func3, Tryd.ntmps3
        have k68 := True.intro
        have k70 := True.intro
        have k72 := True.intro
        have k74 := True.intro
        go_wp2_with (first
         | ((with_reducible refine gate_d (N := 1) rfl ?_); obtain ⟨gb1, hgb1⟩ : ∃ g_, w.heap.size = g_ := ⟨_, rfl⟩; refine ag_box #[.int .i64 a0_0, .int .i64 a0_1, .int .i64 a0_2, .bool a0_3] gb1 hgb1 rfl _ rfl rfl ?_; intro w67 hb_ hB_ hs_; have GEb1 : Hid (w.heap.size ≤ gb1) := hid (by have := HL.out.size; omega); replace HL := hid (HL.out.trans (hb_.mono GEb1.out)); have BKb1 := hid hB_; clear hb_ hB_ hs_ hgb1)
         | (go_at_call 5; clear k68; refine (i_alfillaw15_wakes.calls k true _ A22.out).mono ?_; rintro e_ w69 ⟨rfl, hb_⟩; replace BKb1 := hid (BKb1.out.below hb_ BKb1.out.lt); replace HL := hid (HL.out.trans (hb_.mono HL.out.size)); clear hb_)
         | ((with_reducible refine gate_d (N := 10) rfl ?_); refine ag_fix (.agg #[.int .i64 a0_0, .int .i64 a0_1, .int .i64 a0_2, .bool a0_3]) (ex_load aT23 gb1 0 #[.int .i64 a0_0, .int .i64 a0_1, .int .i64 a0_2, .bool a0_3] #[.int .i64 a0_0, .int .i64 a0_1, .int .i64 a0_2, .bool a0_3] BKb1.out (by simp) rfl _ rfl rfl) rfl ?_)
         | (go_at_call 6; clear k70; refine (i_stip_Write.calls a0_0 a0_1 a0_2 a0_3 t3 true _ A24.out).mono ?_; rintro e_ w71 ⟨rfl, hb_⟩; replace BKb1 := hid (BKb1.out.below hb_ BKb1.out.lt); replace HL := hid (HL.out.trans (hb_.mono HL.out.size)); clear hb_)
         | ((with_reducible refine gate_d (N := 14) rfl ?_); refine ag_fix (.agg #[.int .i64 a0_0, .int .i64 a0_1, .int .i64 a0_2, .bool a0_3]) (ex_load aT23 gb1 0 #[.int .i64 a0_0, .int .i64 a0_1, .int .i64 a0_2, .bool a0_3] #[.int .i64 a0_0, .int .i64 a0_1, .int .i64 a0_2, .bool a0_3] BKb1.out (by simp) rfl _ rfl rfl) rfl ?_)
         | (go_at_call 7; clear k72; refine (i_alfilref15_Right.calls a0_0 a0_1 a0_2 a0_3 true _ A25.out).mono ?_; rintro e_ w73 ⟨rfl, hb_⟩; replace BKb1 := hid (BKb1.out.below hb_ BKb1.out.lt); replace HL := hid (HL.out.trans (hb_.mono HL.out.size)); clear hb_)
         | ((with_reducible refine gate_d (N := 35) rfl ?_); refine ag_fix (.string (t3 ++ (⟨#[10]⟩ : ByteArray))) (ex_cat 9 t3 (⟨#[10]⟩ : ByteArray) hc27.out _ _ _ rfl rfl rfl) rfl ?_)
         | (go_at_call 10; clear k74; refine (i_stip_Read.calls k (t3 ++ (⟨#[10]⟩ : ByteArray)) 0 t6 t7 t8 t9 t10 t11 t12 _ A28.out).mono ?_; rintro e_ w75 ⟨rfl, hb_⟩; replace BKb1 := hid (BKb1.out.below hb_ BKb1.out.lt); replace HL := hid (HL.out.trans (hb_.mono HL.out.size)); clear hb_)
         | ((with_reducible refine gate_d (N := 5) rfl ?_); obtain ⟨gb13, hgb13⟩ : ∃ g_, w75.heap.size = g_ := ⟨_, rfl⟩; refine ag_alloc aT23 gb13 hgb13 rfl rfl ?_; intro w76 hb_ hB_ hs_; have GEb13 : Hid (w.heap.size ≤ gb13) := hid (by have := HL.out.size; omega); have NBb1_b13 : Hid (gb1 ≠ gb13) := hid (by have := BKb1.out.lt; omega); have NBb13_b1 : Hid (gb13 ≠ gb1) := hid (by have := NBb1_b13.out; omega); replace BKb1 := hid (BKb1.out.below hb_ (by rw [← hgb13]; exact BKb1.out.lt)); replace HL := hid (HL.out.trans (hb_.mono GEb13.out)); have BKb13 := hid hB_; clear hb_ hB_ hs_ hgb13)
         | ((with_reducible refine gate_d (N := 6) rfl ?_); obtain ⟨gb14, hgb14⟩ : ∃ g_, w76.heap.size = g_ := ⟨_, rfl⟩; refine ag_alloc aT31 gb14 hgb14 rfl rfl ?_; intro w77 hb_ hB_ hs_; have GEb14 : Hid (w.heap.size ≤ gb14) := hid (by have := HL.out.size; omega); have NBb1_b14 : Hid (gb1 ≠ gb14) := hid (by have := BKb1.out.lt; omega); have NBb14_b1 : Hid (gb14 ≠ gb1) := hid (by have := NBb1_b14.out; omega); replace BKb1 := hid (BKb1.out.below hb_ (by rw [← hgb14]; exact BKb1.out.lt)); have NBb13_b14 : Hid (gb13 ≠ gb14) := hid (by have := BKb13.out.lt; omega); have NBb14_b13 : Hid (gb14 ≠ gb13) := hid (by have := NBb13_b14.out; omega); replace BKb13 := hid (BKb13.out.below hb_ (by rw [← hgb14]; exact BKb13.out.lt)); replace HL := hid (HL.out.trans (hb_.mono GEb14.out)); have BKb14 := hid hB_; clear hb_ hB_ hs_ hgb14)
         | ((with_reducible refine gate_s (t := 23) (p := 5) rfl ?_); refine ag_store aT23 gb13 0 #[.int .i64 0, .int .i64 0, .int .i64 0, .bool false] #[.int .i64 t6, .int .i64 t7, .int .i64 t8, .bool t9] #[.int .i64 t6, .int .i64 t7, .int .i64 t8, .bool t9] BKb13.out rfl (by simp) (by intro v_ hv_; simp at hv_; rcases hv_ with rfl | rfl | rfl | rfl <;> first | rfl) rfl rfl _ _ rfl rfl rfl ?_; intro w78 ho_ hB_; replace BKb1 := hid (BKb1.out.off ho_ NBb1_b13.out); replace BKb14 := hid (BKb14.out.off ho_ NBb14_b13.out); replace HL := hid (ho_.below HL.out GEb13.out); replace BKb13 := hid hB_; clear ho_ hB_)
         | ((with_reducible refine gate_s (t := 31) (p := 6) rfl ?_); refine ag_store aT31 gb14 0 #[.int .i64 0, .int .i64 0, .int .i64 0] #[.int .i64 t10, .int .i64 t11, .int .i64 t12] #[.int .i64 t10, .int .i64 t11, .int .i64 t12] BKb14.out rfl (by simp) (by intro v_ hv_; simp at hv_; rcases hv_ with rfl | rfl | rfl <;> first | rfl) rfl rfl _ _ rfl rfl rfl ?_; intro w79 ho_ hB_; replace BKb1 := hid (BKb1.out.off ho_ NBb1_b14.out); replace BKb13 := hid (BKb13.out.off ho_ NBb13_b14.out); replace HL := hid (ho_.below HL.out GEb14.out); replace BKb14 := hid hB_; clear ho_ hB_))
        (try simp only [Act.put, List.setIfInBounds_toArray, List.set_cons_zero, List.set_cons_succ])
        have WR64 := i64_w
        have WR32 := i32_w
        refine up_regionW (by kernel_rfl) (by kernel_rfl) ?_
        refine q_do (.bool true) (fun w'_ hc_ => ex_mv (.tmp 4) (.inl rfl) _ rfl) rfl rfl ?_
        intro ts_ ht_; simp only [List.setIfInBounds_toArray, List.set_cons_zero, List.set_cons_succ] at ht_; subst ht_
        refine q_do (.bool true) (fun w'_ hc_ => ex_mv (.tmp 39) (.inl rfl) _ rfl) rfl rfl ?_
        intro ts_ ht_; simp only [List.setIfInBounds_toArray, List.set_cons_zero, List.set_cons_succ] at ht_; subst ht_
        refine q_do (.string t3) (fun w'_ hc_ => ex_mv (.tmp 3) (.inl rfl) _ rfl) rfl rfl ?_
        intro ts_ ht_; simp only [List.setIfInBounds_toArray, List.set_cons_zero, List.set_cons_succ] at ht_; subst ht_
        refine q_do (.agg #[.int .i64 a0_0, .int .i64 a0_1, .int .i64 a0_2, .bool a0_3]) (fun w'_ hc_ => by obtain ⟨n_, hn_⟩ := hc_; exact ex_load aT23 gb1 0 #[.int .i64 a0_0, .int .i64 a0_1, .int .i64 a0_2, .bool a0_3] #[.int .i64 a0_0, .int .i64 a0_1, .int .i64 a0_2, .bool a0_3] (by rw [hn_]; exact BKb1.out.below n_.below BKb1.out.lt) (by simp) rfl _ rfl rfl) rfl rfl ?_
        intro ts_ ht_; simp only [List.setIfInBounds_toArray, List.set_cons_zero, List.set_cons_succ] at ht_; subst ht_
        refine q_call (.string t15) 11 #[.agg #[.int .i64 a0_0, .int .i64 a0_1, .int .i64 a0_2, .bool a0_3]] (fun w'_ => by go_simp) (fun w'_ hc_ => (i_alfilref15_Text.calls a0_0 a0_1 a0_2 a0_3 t15 _ A30.out).mono fun e_ w2_ h_ => ⟨h_.1, up_below hc_ h_.2⟩) rfl rfl ?_
        intro ts_ ht_; simp only [List.setIfInBounds_toArray, List.set_cons_zero, List.set_cons_succ] at ht_; subst ht_
        refine q_do (.bool true) (fun w'_ hc_ => by go_simp) rfl rfl ?_
        intro ts_ ht_; simp only [List.setIfInBounds_toArray, List.set_cons_zero, List.set_cons_succ] at ht_; subst ht_
        refine q_do (.bool true) (fun w'_ hc_ => by go_simp) rfl rfl ?_
        intro ts_ ht_; simp only [List.setIfInBounds_toArray, List.set_cons_zero, List.set_cons_succ] at ht_; subst ht_
        refine q_do (.bool true) (fun w'_ hc_ => ex_mv (.tmp 45) (.inl rfl) _ rfl) rfl rfl ?_
        intro ts_ ht_; simp only [List.setIfInBounds_toArray, List.set_cons_zero, List.set_cons_succ] at ht_; subst ht_
        refine q_do (.agg #[.int .i64 t6, .int .i64 t7, .int .i64 t8, .bool t9]) (fun w'_ hc_ => by obtain ⟨n_, hn_⟩ := hc_; exact ex_load aT23 gb13 0 #[.int .i64 t6, .int .i64 t7, .int .i64 t8, .bool t9] #[.int .i64 t6, .int .i64 t7, .int .i64 t8, .bool t9] (by rw [hn_]; exact BKb13.out.below n_.below BKb13.out.lt) (by simp) rfl _ rfl rfl) rfl rfl ?_
        intro ts_ ht_; simp only [List.setIfInBounds_toArray, List.set_cons_zero, List.set_cons_succ] at ht_; subst ht_
        refine q_do (.agg #[.int .i64 a0_0, .int .i64 a0_1, .int .i64 a0_2, .bool a0_3]) (fun w'_ hc_ => by obtain ⟨n_, hn_⟩ := hc_; exact ex_load aT23 gb1 0 #[.int .i64 a0_0, .int .i64 a0_1, .int .i64 a0_2, .bool a0_3] #[.int .i64 a0_0, .int .i64 a0_1, .int .i64 a0_2, .bool a0_3] (by rw [hn_]; exact BKb1.out.below n_.below BKb1.out.lt) (by simp) rfl _ rfl rfl) rfl rfl ?_
        intro ts_ ht_; simp only [List.setIfInBounds_toArray, List.set_cons_zero, List.set_cons_succ] at ht_; subst ht_
        refine q_do (.bool true) (fun w'_ hc_ => by obtain ⟨n_, hn_⟩ := hc_; exact ex_eq .eql 23 (.agg #[.int .i64 t6, .int .i64 t7, .int .i64 t8, .bool t9]) (.agg #[.int .i64 a0_0, .int .i64 a0_1, .int .i64 a0_2, .bool a0_3]) (.bool true) (fun x_ y_ w_ => guard_any (by kernel_rfl) _ x_ y_ w_) (fun w_ => (eq_bin (fun d_ w2_ => eqS23 d_ w2_ t6 a0_0 t7 a0_1 t8 a0_2 t9 a0_3 ) (by decide) w_).trans (by rw [show ((t6 == a0_0) && ((t7 == a0_1) && ((t8 == a0_2) && ((t9 == a0_3))))) = true from hc32.out])) _ _ _ rfl rfl rfl) rfl rfl ?_
        intro ts_ ht_; simp only [List.setIfInBounds_toArray, List.set_cons_zero, List.set_cons_succ] at ht_; subst ht_
        refine q_do (.bool true) (fun w'_ hc_ => by go_simp) rfl rfl ?_
        intro ts_ ht_; simp only [List.setIfInBounds_toArray, List.set_cons_zero, List.set_cons_succ] at ht_; subst ht_
        refine q_do (.bool true) (fun w'_ hc_ => ex_mv (.tmp 50) (.inl rfl) _ rfl) rfl rfl ?_
        intro ts_ ht_; simp only [List.setIfInBounds_toArray, List.set_cons_zero, List.set_cons_succ] at ht_; subst ht_
        refine q_do (.agg #[.int .i64 t10, .int .i64 t11, .int .i64 t12]) (fun w'_ hc_ => by obtain ⟨n_, hn_⟩ := hc_; exact ex_load aT31 gb14 0 #[.int .i64 t10, .int .i64 t11, .int .i64 t12] #[.int .i64 t10, .int .i64 t11, .int .i64 t12] (by rw [hn_]; exact BKb14.out.below n_.below BKb14.out.lt) (by simp) rfl _ rfl rfl) rfl rfl ?_
        intro ts_ ht_; simp only [List.setIfInBounds_toArray, List.set_cons_zero, List.set_cons_succ] at ht_; subst ht_
        refine q_do (.string t3) (fun w'_ hc_ => ex_mv (.tmp 3) (.inl rfl) _ rfl) rfl rfl ?_
        intro ts_ ht_; simp only [List.setIfInBounds_toArray, List.set_cons_zero, List.set_cons_succ] at ht_; subst ht_
        refine q_do (.int .i64 (t3.size : Int)) (fun w'_ hc_ => by go_simp) rfl rfl ?_
        intro ts_ ht_; simp only [List.setIfInBounds_toArray, List.set_cons_zero, List.set_cons_succ] at ht_; subst ht_
        refine q_do (.agg #[.int .i64 (t3.size : Int), .int .i64 0, .int .i64 0]) (fun w'_ hc_ => by obtain ⟨n_, hn_⟩ := hc_; exact ex_build (.agg #[.int .i64 (t3.size : Int), .int .i64 0, .int .i64 0]) _ rfl (by intro ww_; simp only [List.map_toArray, List.map_cons, List.map_nil]; kernel_rfl)) rfl rfl ?_
        intro ts_ ht_; simp only [List.setIfInBounds_toArray, List.set_cons_zero, List.set_cons_succ] at ht_; subst ht_
        refine q_do (.bool false) (fun w'_ hc_ => by obtain ⟨n_, hn_⟩ := hc_; exact ex_eq .eql 31 (.agg #[.int .i64 t10, .int .i64 t11, .int .i64 t12]) (.agg #[.int .i64 (t3.size : Int), .int .i64 0, .int .i64 0]) (.bool false) (fun x_ y_ w_ => guard_any (by kernel_rfl) _ x_ y_ w_) (fun w_ => (eq_bin (fun d_ w2_ => eqS31 d_ w2_ t10 (t3.size : Int) t11 0 t12 0 ) (by decide) w_).trans (by rw [show ((t10 == (t3.size : Int)) && ((t11 == 0) && ((t12 == 0)))) = false from Bool.eq_false_iff.mpr hc33.out])) _ _ _ rfl rfl rfl) rfl rfl ?_
        intro ts_ ht_; simp only [List.setIfInBounds_toArray, List.set_cons_zero, List.set_cons_succ] at ht_; subst ht_
        refine q_do (.bool false) (fun w'_ hc_ => by go_simp) rfl rfl ?_
        intro ts_ ht_; simp only [List.setIfInBounds_toArray, List.set_cons_zero, List.set_cons_succ] at ht_; subst ht_
        refine q_do (.bool false) (fun w'_ hc_ => ex_mv (.tmp 57) (.inl rfl) _ rfl) rfl rfl ?_
        intro ts_ ht_; simp only [List.setIfInBounds_toArray, List.set_cons_zero, List.set_cons_succ] at ht_; subst ht_
        refine q_not 19 false rfl rfl rfl ?_
        intro ts_ ht_; simp only [List.setIfInBounds_toArray, List.set_cons_zero, List.set_cons_succ] at ht_; subst ht_
        refine q_not 19 false rfl rfl rfl ?_
        intro ts_ ht_; simp only [List.setIfInBounds_toArray, List.set_cons_zero, List.set_cons_succ] at ht_; subst ht_
        refine q_not 19 false rfl rfl rfl ?_
        intro ts_ ht_; simp only [List.setIfInBounds_toArray, List.set_cons_zero, List.set_cons_succ] at ht_; subst ht_
        refine q_not 19 false rfl rfl rfl ?_
        intro ts_ ht_; simp only [List.setIfInBounds_toArray, List.set_cons_zero, List.set_cons_succ] at ht_; subst ht_
        refine q_not 19 false rfl rfl rfl ?_
        intro ts_ ht_; simp only [List.setIfInBounds_toArray, List.set_cons_zero, List.set_cons_succ] at ht_; subst ht_
        refine q_do (.bool false) (fun w'_ hc_ => by go_simp) rfl rfl ?_
        intro ts_ ht_; simp only [List.setIfInBounds_toArray, List.set_cons_zero, List.set_cons_succ] at ht_; subst ht_
        refine q_do (.bool false) (fun w'_ hc_ => ex_mv (.tmp 64) (.inl rfl) _ rfl) rfl rfl ?_
        intro ts_ ht_; simp only [List.setIfInBounds_toArray, List.set_cons_zero, List.set_cons_succ] at ht_; subst ht_
        refine q_not 26 false rfl rfl rfl ?_
        intro ts_ ht_; simp only [List.setIfInBounds_toArray, List.set_cons_zero, List.set_cons_succ] at ht_; subst ht_
        refine q_not 26 false rfl rfl rfl ?_
        intro ts_ ht_; simp only [List.setIfInBounds_toArray, List.set_cons_zero, List.set_cons_succ] at ht_; subst ht_
        refine q_not 26 false rfl rfl rfl ?_
        intro ts_ ht_; simp only [List.setIfInBounds_toArray, List.set_cons_zero, List.set_cons_succ] at ht_; subst ht_
        refine q_not 26 false rfl rfl rfl ?_
        intro ts_ ht_; simp only [List.setIfInBounds_toArray, List.set_cons_zero, List.set_cons_succ] at ht_; subst ht_
        refine q_not 26 false rfl rfl rfl ?_
        intro ts_ ht_; simp only [List.setIfInBounds_toArray, List.set_cons_zero, List.set_cons_succ] at ht_; subst ht_
        refine q_do (.bool false) (fun w'_ hc_ => by go_simp) rfl rfl ?_
        intro ts_ ht_; simp only [List.setIfInBounds_toArray, List.set_cons_zero, List.set_cons_succ] at ht_; subst ht_
        refine q_do (.bool false) (fun w'_ hc_ => ex_mv (.tmp 71) (.inr rfl) _ rfl) rfl rfl ?_
        intro ts_ ht_; simp only [List.setIfInBounds_toArray, List.set_cons_zero, List.set_cons_succ] at ht_; subst ht_
        refine q_end ?_
        rintro w8_ ⟨n_, rfl⟩
        replace BKb1 := hid (BKb1.out.below n_.below BKb1.out.lt)
        replace BKb13 := hid (BKb13.out.below n_.below BKb13.out.lt)
        replace BKb14 := hid (BKb14.out.below n_.below BKb14.out.lt)
        replace HL := hid (HL.out.trans (n_.below.mono HL.out.size))
        generalize n_.world = w80 at *
        clear n_ WR64 WR32
        go_wp2_with fail
        (try simp only [Act.put, List.setIfInBounds_toArray, List.set_cons_zero, List.set_cons_succ])
        go_ret
        exact ⟨by first | rfl | (simp; done) | (simp [*]; done), HL.out⟩
      ·
       rw [if_neg c32] at H
       have c32b0 : ((t6 == a0_0) && ((t7 == a0_1) && ((t8 == a0_2) && ((t9 == a0_3))))) = false := by simpa using c32
       have hc32 := hid c32
       clear c32
       obtain rfl := Option.some.inj H
       clear H
       go_enter Tryd.func3, Tryd.ntmps3
       have k82 := True.intro
       have k84 := True.intro
       have k86 := True.intro
       have k88 := True.intro
       go_wp2_with (first
        | ((with_reducible refine gate_d (N := 1) rfl ?_); obtain ⟨gb1, hgb1⟩ : ∃ g_, w.heap.size = g_ := ⟨_, rfl⟩; refine ag_box #[.int .i64 a0_0, .int .i64 a0_1, .int .i64 a0_2, .bool a0_3] gb1 hgb1 rfl _ rfl rfl ?_; intro w81 hb_ hB_ hs_; have GEb1 : Hid (w.heap.size ≤ gb1) := hid (by have := HL.out.size; omega); replace HL := hid (HL.out.trans (hb_.mono GEb1.out)); have BKb1 := hid hB_; clear hb_ hB_ hs_ hgb1)
        | (go_at_call 5; clear k82; refine (i_alfillaw15_wakes.calls k true _ A22.out).mono ?_; rintro e_ w83 ⟨rfl, hb_⟩; replace BKb1 := hid (BKb1.out.below hb_ BKb1.out.lt); replace HL := hid (HL.out.trans (hb_.mono HL.out.size)); clear hb_)
        | ((with_reducible refine gate_d (N := 10) rfl ?_); refine ag_fix (.agg #[.int .i64 a0_0, .int .i64 a0_1, .int .i64 a0_2, .bool a0_3]) (ex_load aT23 gb1 0 #[.int .i64 a0_0, .int .i64 a0_1, .int .i64 a0_2, .bool a0_3] #[.int .i64 a0_0, .int .i64 a0_1, .int .i64 a0_2, .bool a0_3] BKb1.out (by simp) rfl _ rfl rfl) rfl ?_)
        | (go_at_call 6; clear k84; refine (i_stip_Write.calls a0_0 a0_1 a0_2 a0_3 t3 true _ A24.out).mono ?_; rintro e_ w85 ⟨rfl, hb_⟩; replace BKb1 := hid (BKb1.out.below hb_ BKb1.out.lt); replace HL := hid (HL.out.trans (hb_.mono HL.out.size)); clear hb_)
        | ((with_reducible refine gate_d (N := 14) rfl ?_); refine ag_fix (.agg #[.int .i64 a0_0, .int .i64 a0_1, .int .i64 a0_2, .bool a0_3]) (ex_load aT23 gb1 0 #[.int .i64 a0_0, .int .i64 a0_1, .int .i64 a0_2, .bool a0_3] #[.int .i64 a0_0, .int .i64 a0_1, .int .i64 a0_2, .bool a0_3] BKb1.out (by simp) rfl _ rfl rfl) rfl ?_)
        | (go_at_call 7; clear k86; refine (i_alfilref15_Right.calls a0_0 a0_1 a0_2 a0_3 true _ A25.out).mono ?_; rintro e_ w87 ⟨rfl, hb_⟩; replace BKb1 := hid (BKb1.out.below hb_ BKb1.out.lt); replace HL := hid (HL.out.trans (hb_.mono HL.out.size)); clear hb_)
        | ((with_reducible refine gate_d (N := 35) rfl ?_); refine ag_fix (.string (t3 ++ (⟨#[10]⟩ : ByteArray))) (ex_cat 9 t3 (⟨#[10]⟩ : ByteArray) hc27.out _ _ _ rfl rfl rfl) rfl ?_)
        | (go_at_call 10; clear k88; refine (i_stip_Read.calls k (t3 ++ (⟨#[10]⟩ : ByteArray)) 0 t6 t7 t8 t9 t10 t11 t12 _ A28.out).mono ?_; rintro e_ w89 ⟨rfl, hb_⟩; replace BKb1 := hid (BKb1.out.below hb_ BKb1.out.lt); replace HL := hid (HL.out.trans (hb_.mono HL.out.size)); clear hb_)
        | ((with_reducible refine gate_d (N := 5) rfl ?_); obtain ⟨gb13, hgb13⟩ : ∃ g_, w89.heap.size = g_ := ⟨_, rfl⟩; refine ag_alloc aT23 gb13 hgb13 rfl rfl ?_; intro w90 hb_ hB_ hs_; have GEb13 : Hid (w.heap.size ≤ gb13) := hid (by have := HL.out.size; omega); have NBb1_b13 : Hid (gb1 ≠ gb13) := hid (by have := BKb1.out.lt; omega); have NBb13_b1 : Hid (gb13 ≠ gb1) := hid (by have := NBb1_b13.out; omega); replace BKb1 := hid (BKb1.out.below hb_ (by rw [← hgb13]; exact BKb1.out.lt)); replace HL := hid (HL.out.trans (hb_.mono GEb13.out)); have BKb13 := hid hB_; clear hb_ hB_ hs_ hgb13)
        | ((with_reducible refine gate_d (N := 6) rfl ?_); obtain ⟨gb14, hgb14⟩ : ∃ g_, w90.heap.size = g_ := ⟨_, rfl⟩; refine ag_alloc aT31 gb14 hgb14 rfl rfl ?_; intro w91 hb_ hB_ hs_; have GEb14 : Hid (w.heap.size ≤ gb14) := hid (by have := HL.out.size; omega); have NBb1_b14 : Hid (gb1 ≠ gb14) := hid (by have := BKb1.out.lt; omega); have NBb14_b1 : Hid (gb14 ≠ gb1) := hid (by have := NBb1_b14.out; omega); replace BKb1 := hid (BKb1.out.below hb_ (by rw [← hgb14]; exact BKb1.out.lt)); have NBb13_b14 : Hid (gb13 ≠ gb14) := hid (by have := BKb13.out.lt; omega); have NBb14_b13 : Hid (gb14 ≠ gb13) := hid (by have := NBb13_b14.out; omega); replace BKb13 := hid (BKb13.out.below hb_ (by rw [← hgb14]; exact BKb13.out.lt)); replace HL := hid (HL.out.trans (hb_.mono GEb14.out)); have BKb14 := hid hB_; clear hb_ hB_ hs_ hgb14)
        | ((with_reducible refine gate_s (t := 23) (p := 5) rfl ?_); refine ag_store aT23 gb13 0 #[.int .i64 0, .int .i64 0, .int .i64 0, .bool false] #[.int .i64 t6, .int .i64 t7, .int .i64 t8, .bool t9] #[.int .i64 t6, .int .i64 t7, .int .i64 t8, .bool t9] BKb13.out rfl (by simp) (by intro v_ hv_; simp at hv_; rcases hv_ with rfl | rfl | rfl | rfl <;> first | rfl) rfl rfl _ _ rfl rfl rfl ?_; intro w92 ho_ hB_; replace BKb1 := hid (BKb1.out.off ho_ NBb1_b13.out); replace BKb14 := hid (BKb14.out.off ho_ NBb14_b13.out); replace HL := hid (ho_.below HL.out GEb13.out); replace BKb13 := hid hB_; clear ho_ hB_)
        | ((with_reducible refine gate_s (t := 31) (p := 6) rfl ?_); refine ag_store aT31 gb14 0 #[.int .i64 0, .int .i64 0, .int .i64 0] #[.int .i64 t10, .int .i64 t11, .int .i64 t12] #[.int .i64 t10, .int .i64 t11, .int .i64 t12] BKb14.out rfl (by simp) (by intro v_ hv_; simp at hv_; rcases hv_ with rfl | rfl | rfl <;> first | rfl) rfl rfl _ _ rfl rfl rfl ?_; intro w93 ho_ hB_; replace BKb1 := hid (BKb1.out.off ho_ NBb1_b14.out); replace BKb13 := hid (BKb13.out.off ho_ NBb13_b14.out); replace HL := hid (ho_.below HL.out GEb14.out); replace BKb14 := hid hB_; clear ho_ hB_))
       (try simp only [Act.put, List.setIfInBounds_toArray, List.set_cons_zero, List.set_cons_succ])
       have WR64 := i64_w
       have WR32 := i32_w
       refine up_regionW (by kernel_rfl) (by kernel_rfl) ?_
       refine q_do (.bool true) (fun w'_ hc_ => ex_mv (.tmp 4) (.inl rfl) _ rfl) rfl rfl ?_
       intro ts_ ht_; simp only [List.setIfInBounds_toArray, List.set_cons_zero, List.set_cons_succ] at ht_; subst ht_
       refine q_do (.bool true) (fun w'_ hc_ => ex_mv (.tmp 39) (.inl rfl) _ rfl) rfl rfl ?_
       intro ts_ ht_; simp only [List.setIfInBounds_toArray, List.set_cons_zero, List.set_cons_succ] at ht_; subst ht_
       refine q_do (.string t3) (fun w'_ hc_ => ex_mv (.tmp 3) (.inl rfl) _ rfl) rfl rfl ?_
       intro ts_ ht_; simp only [List.setIfInBounds_toArray, List.set_cons_zero, List.set_cons_succ] at ht_; subst ht_
       refine q_do (.agg #[.int .i64 a0_0, .int .i64 a0_1, .int .i64 a0_2, .bool a0_3]) (fun w'_ hc_ => by obtain ⟨n_, hn_⟩ := hc_; exact ex_load aT23 gb1 0 #[.int .i64 a0_0, .int .i64 a0_1, .int .i64 a0_2, .bool a0_3] #[.int .i64 a0_0, .int .i64 a0_1, .int .i64 a0_2, .bool a0_3] (by rw [hn_]; exact BKb1.out.below n_.below BKb1.out.lt) (by simp) rfl _ rfl rfl) rfl rfl ?_
       intro ts_ ht_; simp only [List.setIfInBounds_toArray, List.set_cons_zero, List.set_cons_succ] at ht_; subst ht_
       refine q_call (.string t15) 11 #[.agg #[.int .i64 a0_0, .int .i64 a0_1, .int .i64 a0_2, .bool a0_3]] (fun w'_ => by go_simp) (fun w'_ hc_ => (i_alfilref15_Text.calls a0_0 a0_1 a0_2 a0_3 t15 _ A30.out).mono fun e_ w2_ h_ => ⟨h_.1, up_below hc_ h_.2⟩) rfl rfl ?_
       intro ts_ ht_; simp only [List.setIfInBounds_toArray, List.set_cons_zero, List.set_cons_succ] at ht_; subst ht_
       refine q_do (.bool true) (fun w'_ hc_ => by go_simp) rfl rfl ?_
       intro ts_ ht_; simp only [List.setIfInBounds_toArray, List.set_cons_zero, List.set_cons_succ] at ht_; subst ht_
       refine q_do (.bool true) (fun w'_ hc_ => by go_simp) rfl rfl ?_
       intro ts_ ht_; simp only [List.setIfInBounds_toArray, List.set_cons_zero, List.set_cons_succ] at ht_; subst ht_
       refine q_do (.bool true) (fun w'_ hc_ => ex_mv (.tmp 45) (.inl rfl) _ rfl) rfl rfl ?_
       intro ts_ ht_; simp only [List.setIfInBounds_toArray, List.set_cons_zero, List.set_cons_succ] at ht_; subst ht_
       refine q_do (.agg #[.int .i64 t6, .int .i64 t7, .int .i64 t8, .bool t9]) (fun w'_ hc_ => by obtain ⟨n_, hn_⟩ := hc_; exact ex_load aT23 gb13 0 #[.int .i64 t6, .int .i64 t7, .int .i64 t8, .bool t9] #[.int .i64 t6, .int .i64 t7, .int .i64 t8, .bool t9] (by rw [hn_]; exact BKb13.out.below n_.below BKb13.out.lt) (by simp) rfl _ rfl rfl) rfl rfl ?_
       intro ts_ ht_; simp only [List.setIfInBounds_toArray, List.set_cons_zero, List.set_cons_succ] at ht_; subst ht_
       refine q_do (.agg #[.int .i64 a0_0, .int .i64 a0_1, .int .i64 a0_2, .bool a0_3]) (fun w'_ hc_ => by obtain ⟨n_, hn_⟩ := hc_; exact ex_load aT23 gb1 0 #[.int .i64 a0_0, .int .i64 a0_1, .int .i64 a0_2, .bool a0_3] #[.int .i64 a0_0, .int .i64 a0_1, .int .i64 a0_2, .bool a0_3] (by rw [hn_]; exact BKb1.out.below n_.below BKb1.out.lt) (by simp) rfl _ rfl rfl) rfl rfl ?_
       intro ts_ ht_; simp only [List.setIfInBounds_toArray, List.set_cons_zero, List.set_cons_succ] at ht_; subst ht_
       refine q_do (.bool false) (fun w'_ hc_ => by obtain ⟨n_, hn_⟩ := hc_; exact ex_eq .eql 23 (.agg #[.int .i64 t6, .int .i64 t7, .int .i64 t8, .bool t9]) (.agg #[.int .i64 a0_0, .int .i64 a0_1, .int .i64 a0_2, .bool a0_3]) (.bool false) (fun x_ y_ w_ => guard_any (by kernel_rfl) _ x_ y_ w_) (fun w_ => (eq_bin (fun d_ w2_ => eqS23 d_ w2_ t6 a0_0 t7 a0_1 t8 a0_2 t9 a0_3 ) (by decide) w_).trans (by rw [show ((t6 == a0_0) && ((t7 == a0_1) && ((t8 == a0_2) && ((t9 == a0_3))))) = false from Bool.eq_false_iff.mpr hc32.out])) _ _ _ rfl rfl rfl) rfl rfl ?_
       intro ts_ ht_; simp only [List.setIfInBounds_toArray, List.set_cons_zero, List.set_cons_succ] at ht_; subst ht_
       refine q_do (.bool false) (fun w'_ hc_ => by go_simp) rfl rfl ?_
       intro ts_ ht_; simp only [List.setIfInBounds_toArray, List.set_cons_zero, List.set_cons_succ] at ht_; subst ht_
       refine q_do (.bool false) (fun w'_ hc_ => ex_mv (.tmp 50) (.inl rfl) _ rfl) rfl rfl ?_
       intro ts_ ht_; simp only [List.setIfInBounds_toArray, List.set_cons_zero, List.set_cons_succ] at ht_; subst ht_
       refine q_not 12 false rfl rfl rfl ?_
       intro ts_ ht_; simp only [List.setIfInBounds_toArray, List.set_cons_zero, List.set_cons_succ] at ht_; subst ht_
       refine q_not 12 false rfl rfl rfl ?_
       intro ts_ ht_; simp only [List.setIfInBounds_toArray, List.set_cons_zero, List.set_cons_succ] at ht_; subst ht_
       refine q_not 12 false rfl rfl rfl ?_
       intro ts_ ht_; simp only [List.setIfInBounds_toArray, List.set_cons_zero, List.set_cons_succ] at ht_; subst ht_
       refine q_not 12 false rfl rfl rfl ?_
       intro ts_ ht_; simp only [List.setIfInBounds_toArray, List.set_cons_zero, List.set_cons_succ] at ht_; subst ht_
       refine q_not 12 false rfl rfl rfl ?_
       intro ts_ ht_; simp only [List.setIfInBounds_toArray, List.set_cons_zero, List.set_cons_succ] at ht_; subst ht_
       refine q_do (.bool false) (fun w'_ hc_ => by go_simp) rfl rfl ?_
       intro ts_ ht_; simp only [List.setIfInBounds_toArray, List.set_cons_zero, List.set_cons_succ] at ht_; subst ht_
       refine q_do (.bool false) (fun w'_ hc_ => ex_mv (.tmp 57) (.inl rfl) _ rfl) rfl rfl ?_
       intro ts_ ht_; simp only [List.setIfInBounds_toArray, List.set_cons_zero, List.set_cons_succ] at ht_; subst ht_
       refine q_not 19 false rfl rfl rfl ?_
       intro ts_ ht_; simp only [List.setIfInBounds_toArray, List.set_cons_zero, List.set_cons_succ] at ht_; subst ht_
       refine q_not 19 false rfl rfl rfl ?_
       intro ts_ ht_; simp only [List.setIfInBounds_toArray, List.set_cons_zero, List.set_cons_succ] at ht_; subst ht_
       refine q_not 19 false rfl rfl rfl ?_
       intro ts_ ht_; simp only [List.setIfInBounds_toArray, List.set_cons_zero, List.set_cons_succ] at ht_; subst ht_
       refine q_not 19 false rfl rfl rfl ?_
       intro ts_ ht_; simp only [List.setIfInBounds_toArray, List.set_cons_zero, List.set_cons_succ] at ht_; subst ht_
       refine q_not 19 false rfl rfl rfl ?_
       intro ts_ ht_; simp only [List.setIfInBounds_toArray, List.set_cons_zero, List.set_cons_succ] at ht_; subst ht_
       refine q_do (.bool false) (fun w'_ hc_ => by go_simp) rfl rfl ?_
       intro ts_ ht_; simp only [List.setIfInBounds_toArray, List.set_cons_zero, List.set_cons_succ] at ht_; subst ht_
       refine q_do (.bool false) (fun w'_ hc_ => ex_mv (.tmp 64) (.inl rfl) _ rfl) rfl rfl ?_
       intro ts_ ht_; simp only [List.setIfInBounds_toArray, List.set_cons_zero, List.set_cons_succ] at ht_; subst ht_
       refine q_not 26 false rfl rfl rfl ?_
       intro ts_ ht_; simp only [List.setIfInBounds_toArray, List.set_cons_zero, List.set_cons_succ] at ht_; subst ht_
       refine q_not 26 false rfl rfl rfl ?_
       intro ts_ ht_; simp only [List.setIfInBounds_toArray, List.set_cons_zero, List.set_cons_succ] at ht_; subst ht_
       refine q_not 26 false rfl rfl rfl ?_
       intro ts_ ht_; simp only [List.setIfInBounds_toArray, List.set_cons_zero, List.set_cons_succ] at ht_; subst ht_
       refine q_not 26 false rfl rfl rfl ?_
       intro ts_ ht_; simp only [List.setIfInBounds_toArray, List.set_cons_zero, List.set_cons_succ] at ht_; subst ht_
       refine q_not 26 false rfl rfl rfl ?_
       intro ts_ ht_; simp only [List.setIfInBounds_toArray, List.set_cons_zero, List.set_cons_succ] at ht_; subst ht_
       refine q_do (.bool false) (fun w'_ hc_ => by go_simp) rfl rfl ?_
       intro ts_ ht_; simp only [List.setIfInBounds_toArray, List.set_cons_zero, List.set_cons_succ] at ht_; subst ht_
       refine q_do (.bool false) (fun w'_ hc_ => ex_mv (.tmp 71) (.inr rfl) _ rfl) rfl rfl ?_
       intro ts_ ht_; simp only [List.setIfInBounds_toArray, List.set_cons_zero, List.set_cons_succ] at ht_; subst ht_
       refine q_end ?_
       rintro w8_ ⟨n_, rfl⟩
       replace BKb1 := hid (BKb1.out.below n_.below BKb1.out.lt)
       replace BKb13 := hid (BKb13.out.below n_.below BKb13.out.lt)
       replace BKb14 := hid (BKb14.out.below n_.below BKb14.out.lt)
       replace HL := hid (HL.out.trans (n_.below.mono HL.out.size))
       generalize n_.world = w94 at *
       clear n_ WR64 WR32
       go_wp2_with fail
       (try simp only [Act.put, List.setIfInBounds_toArray, List.set_cons_zero, List.set_cons_succ])
       go_ret
       exact ⟨by first | rfl | (simp; done) | (simp [*]; done), HL.out⟩
     ·
      rw [if_neg c31] at H
      have c31b0 : (t3.toList == t15.toList) = false := beq_eq_false_iff_ne.mpr c31
      have c31b1 : (t3.toList != t15.toList) = true := bne_iff_ne.mpr c31
      have hc31 := hid c31
      clear c31
      obtain rfl := Option.some.inj H
      clear H
      go_enter Tryd.func3, Tryd.ntmps3
      have k96 := True.intro
      have k98 := True.intro
      have k100 := True.intro
      have k102 := True.intro
      go_wp2_with (first
       | ((with_reducible refine gate_d (N := 1) rfl ?_); obtain ⟨gb1, hgb1⟩ : ∃ g_, w.heap.size = g_ := ⟨_, rfl⟩; refine ag_box #[.int .i64 a0_0, .int .i64 a0_1, .int .i64 a0_2, .bool a0_3] gb1 hgb1 rfl _ rfl rfl ?_; intro w95 hb_ hB_ hs_; have GEb1 : Hid (w.heap.size ≤ gb1) := hid (by have := HL.out.size; omega); replace HL := hid (HL.out.trans (hb_.mono GEb1.out)); have BKb1 := hid hB_; clear hb_ hB_ hs_ hgb1)
       | (go_at_call 5; clear k96; refine (i_alfillaw15_wakes.calls k true _ A22.out).mono ?_; rintro e_ w97 ⟨rfl, hb_⟩; replace BKb1 := hid (BKb1.out.below hb_ BKb1.out.lt); replace HL := hid (HL.out.trans (hb_.mono HL.out.size)); clear hb_)
       | ((with_reducible refine gate_d (N := 10) rfl ?_); refine ag_fix (.agg #[.int .i64 a0_0, .int .i64 a0_1, .int .i64 a0_2, .bool a0_3]) (ex_load aT23 gb1 0 #[.int .i64 a0_0, .int .i64 a0_1, .int .i64 a0_2, .bool a0_3] #[.int .i64 a0_0, .int .i64 a0_1, .int .i64 a0_2, .bool a0_3] BKb1.out (by simp) rfl _ rfl rfl) rfl ?_)
       | (go_at_call 6; clear k98; refine (i_stip_Write.calls a0_0 a0_1 a0_2 a0_3 t3 true _ A24.out).mono ?_; rintro e_ w99 ⟨rfl, hb_⟩; replace BKb1 := hid (BKb1.out.below hb_ BKb1.out.lt); replace HL := hid (HL.out.trans (hb_.mono HL.out.size)); clear hb_)
       | ((with_reducible refine gate_d (N := 14) rfl ?_); refine ag_fix (.agg #[.int .i64 a0_0, .int .i64 a0_1, .int .i64 a0_2, .bool a0_3]) (ex_load aT23 gb1 0 #[.int .i64 a0_0, .int .i64 a0_1, .int .i64 a0_2, .bool a0_3] #[.int .i64 a0_0, .int .i64 a0_1, .int .i64 a0_2, .bool a0_3] BKb1.out (by simp) rfl _ rfl rfl) rfl ?_)
       | (go_at_call 7; clear k100; refine (i_alfilref15_Right.calls a0_0 a0_1 a0_2 a0_3 true _ A25.out).mono ?_; rintro e_ w101 ⟨rfl, hb_⟩; replace BKb1 := hid (BKb1.out.below hb_ BKb1.out.lt); replace HL := hid (HL.out.trans (hb_.mono HL.out.size)); clear hb_)
       | ((with_reducible refine gate_d (N := 35) rfl ?_); refine ag_fix (.string (t3 ++ (⟨#[10]⟩ : ByteArray))) (ex_cat 9 t3 (⟨#[10]⟩ : ByteArray) hc27.out _ _ _ rfl rfl rfl) rfl ?_)
       | (go_at_call 10; clear k102; refine (i_stip_Read.calls k (t3 ++ (⟨#[10]⟩ : ByteArray)) 0 t6 t7 t8 t9 t10 t11 t12 _ A28.out).mono ?_; rintro e_ w103 ⟨rfl, hb_⟩; replace BKb1 := hid (BKb1.out.below hb_ BKb1.out.lt); replace HL := hid (HL.out.trans (hb_.mono HL.out.size)); clear hb_)
       | ((with_reducible refine gate_d (N := 5) rfl ?_); obtain ⟨gb13, hgb13⟩ : ∃ g_, w103.heap.size = g_ := ⟨_, rfl⟩; refine ag_alloc aT23 gb13 hgb13 rfl rfl ?_; intro w104 hb_ hB_ hs_; have GEb13 : Hid (w.heap.size ≤ gb13) := hid (by have := HL.out.size; omega); have NBb1_b13 : Hid (gb1 ≠ gb13) := hid (by have := BKb1.out.lt; omega); have NBb13_b1 : Hid (gb13 ≠ gb1) := hid (by have := NBb1_b13.out; omega); replace BKb1 := hid (BKb1.out.below hb_ (by rw [← hgb13]; exact BKb1.out.lt)); replace HL := hid (HL.out.trans (hb_.mono GEb13.out)); have BKb13 := hid hB_; clear hb_ hB_ hs_ hgb13)
       | ((with_reducible refine gate_d (N := 6) rfl ?_); obtain ⟨gb14, hgb14⟩ : ∃ g_, w104.heap.size = g_ := ⟨_, rfl⟩; refine ag_alloc aT31 gb14 hgb14 rfl rfl ?_; intro w105 hb_ hB_ hs_; have GEb14 : Hid (w.heap.size ≤ gb14) := hid (by have := HL.out.size; omega); have NBb1_b14 : Hid (gb1 ≠ gb14) := hid (by have := BKb1.out.lt; omega); have NBb14_b1 : Hid (gb14 ≠ gb1) := hid (by have := NBb1_b14.out; omega); replace BKb1 := hid (BKb1.out.below hb_ (by rw [← hgb14]; exact BKb1.out.lt)); have NBb13_b14 : Hid (gb13 ≠ gb14) := hid (by have := BKb13.out.lt; omega); have NBb14_b13 : Hid (gb14 ≠ gb13) := hid (by have := NBb13_b14.out; omega); replace BKb13 := hid (BKb13.out.below hb_ (by rw [← hgb14]; exact BKb13.out.lt)); replace HL := hid (HL.out.trans (hb_.mono GEb14.out)); have BKb14 := hid hB_; clear hb_ hB_ hs_ hgb14)
       | ((with_reducible refine gate_s (t := 23) (p := 5) rfl ?_); refine ag_store aT23 gb13 0 #[.int .i64 0, .int .i64 0, .int .i64 0, .bool false] #[.int .i64 t6, .int .i64 t7, .int .i64 t8, .bool t9] #[.int .i64 t6, .int .i64 t7, .int .i64 t8, .bool t9] BKb13.out rfl (by simp) (by intro v_ hv_; simp at hv_; rcases hv_ with rfl | rfl | rfl | rfl <;> first | rfl) rfl rfl _ _ rfl rfl rfl ?_; intro w106 ho_ hB_; replace BKb1 := hid (BKb1.out.off ho_ NBb1_b13.out); replace BKb14 := hid (BKb14.out.off ho_ NBb14_b13.out); replace HL := hid (ho_.below HL.out GEb13.out); replace BKb13 := hid hB_; clear ho_ hB_)
       | ((with_reducible refine gate_s (t := 31) (p := 6) rfl ?_); refine ag_store aT31 gb14 0 #[.int .i64 0, .int .i64 0, .int .i64 0] #[.int .i64 t10, .int .i64 t11, .int .i64 t12] #[.int .i64 t10, .int .i64 t11, .int .i64 t12] BKb14.out rfl (by simp) (by intro v_ hv_; simp at hv_; rcases hv_ with rfl | rfl | rfl <;> first | rfl) rfl rfl _ _ rfl rfl rfl ?_; intro w107 ho_ hB_; replace BKb1 := hid (BKb1.out.off ho_ NBb1_b14.out); replace BKb13 := hid (BKb13.out.off ho_ NBb13_b14.out); replace HL := hid (ho_.below HL.out GEb14.out); replace BKb14 := hid hB_; clear ho_ hB_))
      (try simp only [Act.put, List.setIfInBounds_toArray, List.set_cons_zero, List.set_cons_succ])
      have WR64 := i64_w
      have WR32 := i32_w
      refine up_regionW (by kernel_rfl) (by kernel_rfl) ?_
      refine q_do (.bool true) (fun w'_ hc_ => ex_mv (.tmp 4) (.inl rfl) _ rfl) rfl rfl ?_
      intro ts_ ht_; simp only [List.setIfInBounds_toArray, List.set_cons_zero, List.set_cons_succ] at ht_; subst ht_
      refine q_do (.bool true) (fun w'_ hc_ => ex_mv (.tmp 39) (.inl rfl) _ rfl) rfl rfl ?_
      intro ts_ ht_; simp only [List.setIfInBounds_toArray, List.set_cons_zero, List.set_cons_succ] at ht_; subst ht_
      refine q_do (.string t3) (fun w'_ hc_ => ex_mv (.tmp 3) (.inl rfl) _ rfl) rfl rfl ?_
      intro ts_ ht_; simp only [List.setIfInBounds_toArray, List.set_cons_zero, List.set_cons_succ] at ht_; subst ht_
      refine q_do (.agg #[.int .i64 a0_0, .int .i64 a0_1, .int .i64 a0_2, .bool a0_3]) (fun w'_ hc_ => by obtain ⟨n_, hn_⟩ := hc_; exact ex_load aT23 gb1 0 #[.int .i64 a0_0, .int .i64 a0_1, .int .i64 a0_2, .bool a0_3] #[.int .i64 a0_0, .int .i64 a0_1, .int .i64 a0_2, .bool a0_3] (by rw [hn_]; exact BKb1.out.below n_.below BKb1.out.lt) (by simp) rfl _ rfl rfl) rfl rfl ?_
      intro ts_ ht_; simp only [List.setIfInBounds_toArray, List.set_cons_zero, List.set_cons_succ] at ht_; subst ht_
      refine q_call (.string t15) 11 #[.agg #[.int .i64 a0_0, .int .i64 a0_1, .int .i64 a0_2, .bool a0_3]] (fun w'_ => by go_simp) (fun w'_ hc_ => (i_alfilref15_Text.calls a0_0 a0_1 a0_2 a0_3 t15 _ A30.out).mono fun e_ w2_ h_ => ⟨h_.1, up_below hc_ h_.2⟩) rfl rfl ?_
      intro ts_ ht_; simp only [List.setIfInBounds_toArray, List.set_cons_zero, List.set_cons_succ] at ht_; subst ht_
      refine q_do (.bool false) (fun w'_ hc_ => by go_simp) rfl rfl ?_
      intro ts_ ht_; simp only [List.setIfInBounds_toArray, List.set_cons_zero, List.set_cons_succ] at ht_; subst ht_
      refine q_do (.bool false) (fun w'_ hc_ => by go_simp) rfl rfl ?_
      intro ts_ ht_; simp only [List.setIfInBounds_toArray, List.set_cons_zero, List.set_cons_succ] at ht_; subst ht_
      refine q_do (.bool false) (fun w'_ hc_ => ex_mv (.tmp 45) (.inl rfl) _ rfl) rfl rfl ?_
      intro ts_ ht_; simp only [List.setIfInBounds_toArray, List.set_cons_zero, List.set_cons_succ] at ht_; subst ht_
      refine q_not 7 false rfl rfl rfl ?_
      intro ts_ ht_; simp only [List.setIfInBounds_toArray, List.set_cons_zero, List.set_cons_succ] at ht_; subst ht_
      refine q_not 7 false rfl rfl rfl ?_
      intro ts_ ht_; simp only [List.setIfInBounds_toArray, List.set_cons_zero, List.set_cons_succ] at ht_; subst ht_
      refine q_not 7 false rfl rfl rfl ?_
      intro ts_ ht_; simp only [List.setIfInBounds_toArray, List.set_cons_zero, List.set_cons_succ] at ht_; subst ht_
      refine q_do (.bool false) (fun w'_ hc_ => by go_simp) rfl rfl ?_
      intro ts_ ht_; simp only [List.setIfInBounds_toArray, List.set_cons_zero, List.set_cons_succ] at ht_; subst ht_
      refine q_do (.bool false) (fun w'_ hc_ => ex_mv (.tmp 50) (.inl rfl) _ rfl) rfl rfl ?_
      intro ts_ ht_; simp only [List.setIfInBounds_toArray, List.set_cons_zero, List.set_cons_succ] at ht_; subst ht_
      refine q_not 12 false rfl rfl rfl ?_
      intro ts_ ht_; simp only [List.setIfInBounds_toArray, List.set_cons_zero, List.set_cons_succ] at ht_; subst ht_
      refine q_not 12 false rfl rfl rfl ?_
      intro ts_ ht_; simp only [List.setIfInBounds_toArray, List.set_cons_zero, List.set_cons_succ] at ht_; subst ht_
      refine q_not 12 false rfl rfl rfl ?_
      intro ts_ ht_; simp only [List.setIfInBounds_toArray, List.set_cons_zero, List.set_cons_succ] at ht_; subst ht_
      refine q_not 12 false rfl rfl rfl ?_
      intro ts_ ht_; simp only [List.setIfInBounds_toArray, List.set_cons_zero, List.set_cons_succ] at ht_; subst ht_
      refine q_not 12 false rfl rfl rfl ?_
      intro ts_ ht_; simp only [List.setIfInBounds_toArray, List.set_cons_zero, List.set_cons_succ] at ht_; subst ht_
      refine q_do (.bool false) (fun w'_ hc_ => by go_simp) rfl rfl ?_
      intro ts_ ht_; simp only [List.setIfInBounds_toArray, List.set_cons_zero, List.set_cons_succ] at ht_; subst ht_
      refine q_do (.bool false) (fun w'_ hc_ => ex_mv (.tmp 57) (.inl rfl) _ rfl) rfl rfl ?_
      intro ts_ ht_; simp only [List.setIfInBounds_toArray, List.set_cons_zero, List.set_cons_succ] at ht_; subst ht_
      refine q_not 19 false rfl rfl rfl ?_
      intro ts_ ht_; simp only [List.setIfInBounds_toArray, List.set_cons_zero, List.set_cons_succ] at ht_; subst ht_
      refine q_not 19 false rfl rfl rfl ?_
      intro ts_ ht_; simp only [List.setIfInBounds_toArray, List.set_cons_zero, List.set_cons_succ] at ht_; subst ht_
      refine q_not 19 false rfl rfl rfl ?_
      intro ts_ ht_; simp only [List.setIfInBounds_toArray, List.set_cons_zero, List.set_cons_succ] at ht_; subst ht_
      refine q_not 19 false rfl rfl rfl ?_
      intro ts_ ht_; simp only [List.setIfInBounds_toArray, List.set_cons_zero, List.set_cons_succ] at ht_; subst ht_
      refine q_not 19 false rfl rfl rfl ?_
      intro ts_ ht_; simp only [List.setIfInBounds_toArray, List.set_cons_zero, List.set_cons_succ] at ht_; subst ht_
      refine q_do (.bool false) (fun w'_ hc_ => by go_simp) rfl rfl ?_
      intro ts_ ht_; simp only [List.setIfInBounds_toArray, List.set_cons_zero, List.set_cons_succ] at ht_; subst ht_
      refine q_do (.bool false) (fun w'_ hc_ => ex_mv (.tmp 64) (.inl rfl) _ rfl) rfl rfl ?_
      intro ts_ ht_; simp only [List.setIfInBounds_toArray, List.set_cons_zero, List.set_cons_succ] at ht_; subst ht_
      refine q_not 26 false rfl rfl rfl ?_
      intro ts_ ht_; simp only [List.setIfInBounds_toArray, List.set_cons_zero, List.set_cons_succ] at ht_; subst ht_
      refine q_not 26 false rfl rfl rfl ?_
      intro ts_ ht_; simp only [List.setIfInBounds_toArray, List.set_cons_zero, List.set_cons_succ] at ht_; subst ht_
      refine q_not 26 false rfl rfl rfl ?_
      intro ts_ ht_; simp only [List.setIfInBounds_toArray, List.set_cons_zero, List.set_cons_succ] at ht_; subst ht_
      refine q_not 26 false rfl rfl rfl ?_
      intro ts_ ht_; simp only [List.setIfInBounds_toArray, List.set_cons_zero, List.set_cons_succ] at ht_; subst ht_
      refine q_not 26 false rfl rfl rfl ?_
      intro ts_ ht_; simp only [List.setIfInBounds_toArray, List.set_cons_zero, List.set_cons_succ] at ht_; subst ht_
      refine q_do (.bool false) (fun w'_ hc_ => by go_simp) rfl rfl ?_
      intro ts_ ht_; simp only [List.setIfInBounds_toArray, List.set_cons_zero, List.set_cons_succ] at ht_; subst ht_
      refine q_do (.bool false) (fun w'_ hc_ => ex_mv (.tmp 71) (.inr rfl) _ rfl) rfl rfl ?_
      intro ts_ ht_; simp only [List.setIfInBounds_toArray, List.set_cons_zero, List.set_cons_succ] at ht_; subst ht_
      refine q_end ?_
      rintro w8_ ⟨n_, rfl⟩
      replace BKb1 := hid (BKb1.out.below n_.below BKb1.out.lt)
      replace BKb13 := hid (BKb13.out.below n_.below BKb13.out.lt)
      replace BKb14 := hid (BKb14.out.below n_.below BKb14.out.lt)
      replace HL := hid (HL.out.trans (n_.below.mono HL.out.size))
      generalize n_.world = w108 at *
      clear n_ WR64 WR32
      go_wp2_with fail
      (try simp only [Act.put, List.setIfInBounds_toArray, List.set_cons_zero, List.set_cons_succ])
      go_ret
      exact ⟨by first | rfl | (simp; done) | (simp [*]; done), HL.out⟩
    | false =>
     rw [if_neg (show ¬ (false = true) by decide)] at H
     obtain rfl := Option.some.inj H
     clear H
     go_enter Tryd.func3, Tryd.ntmps3
     have k110 := True.intro
     have k112 := True.intro
     have k114 := True.intro
     have k116 := True.intro
     go_wp2_with (first
      | ((with_reducible refine gate_d (N := 1) rfl ?_); obtain ⟨gb1, hgb1⟩ : ∃ g_, w.heap.size = g_ := ⟨_, rfl⟩; refine ag_box #[.int .i64 a0_0, .int .i64 a0_1, .int .i64 a0_2, .bool a0_3] gb1 hgb1 rfl _ rfl rfl ?_; intro w109 hb_ hB_ hs_; have GEb1 : Hid (w.heap.size ≤ gb1) := hid (by have := HL.out.size; omega); replace HL := hid (HL.out.trans (hb_.mono GEb1.out)); have BKb1 := hid hB_; clear hb_ hB_ hs_ hgb1)
      | (go_at_call 5; clear k110; refine (i_alfillaw15_wakes.calls k true _ A22.out).mono ?_; rintro e_ w111 ⟨rfl, hb_⟩; replace BKb1 := hid (BKb1.out.below hb_ BKb1.out.lt); replace HL := hid (HL.out.trans (hb_.mono HL.out.size)); clear hb_)
      | ((with_reducible refine gate_d (N := 10) rfl ?_); refine ag_fix (.agg #[.int .i64 a0_0, .int .i64 a0_1, .int .i64 a0_2, .bool a0_3]) (ex_load aT23 gb1 0 #[.int .i64 a0_0, .int .i64 a0_1, .int .i64 a0_2, .bool a0_3] #[.int .i64 a0_0, .int .i64 a0_1, .int .i64 a0_2, .bool a0_3] BKb1.out (by simp) rfl _ rfl rfl) rfl ?_)
      | (go_at_call 6; clear k112; refine (i_stip_Write.calls a0_0 a0_1 a0_2 a0_3 t3 false _ A24.out).mono ?_; rintro e_ w113 ⟨rfl, hb_⟩; replace BKb1 := hid (BKb1.out.below hb_ BKb1.out.lt); replace HL := hid (HL.out.trans (hb_.mono HL.out.size)); clear hb_)
      | ((with_reducible refine gate_d (N := 14) rfl ?_); refine ag_fix (.agg #[.int .i64 a0_0, .int .i64 a0_1, .int .i64 a0_2, .bool a0_3]) (ex_load aT23 gb1 0 #[.int .i64 a0_0, .int .i64 a0_1, .int .i64 a0_2, .bool a0_3] #[.int .i64 a0_0, .int .i64 a0_1, .int .i64 a0_2, .bool a0_3] BKb1.out (by simp) rfl _ rfl rfl) rfl ?_)
      | (go_at_call 7; clear k114; refine (i_alfilref15_Right.calls a0_0 a0_1 a0_2 a0_3 true _ A25.out).mono ?_; rintro e_ w115 ⟨rfl, hb_⟩; replace BKb1 := hid (BKb1.out.below hb_ BKb1.out.lt); replace HL := hid (HL.out.trans (hb_.mono HL.out.size)); clear hb_)
      | ((with_reducible refine gate_d (N := 35) rfl ?_); refine ag_fix (.string (t3 ++ (⟨#[10]⟩ : ByteArray))) (ex_cat 9 t3 (⟨#[10]⟩ : ByteArray) hc27.out _ _ _ rfl rfl rfl) rfl ?_)
      | (go_at_call 10; clear k116; refine (i_stip_Read.calls k (t3 ++ (⟨#[10]⟩ : ByteArray)) 0 t6 t7 t8 t9 t10 t11 t12 _ A28.out).mono ?_; rintro e_ w117 ⟨rfl, hb_⟩; replace BKb1 := hid (BKb1.out.below hb_ BKb1.out.lt); replace HL := hid (HL.out.trans (hb_.mono HL.out.size)); clear hb_)
      | ((with_reducible refine gate_d (N := 5) rfl ?_); obtain ⟨gb13, hgb13⟩ : ∃ g_, w117.heap.size = g_ := ⟨_, rfl⟩; refine ag_alloc aT23 gb13 hgb13 rfl rfl ?_; intro w118 hb_ hB_ hs_; have GEb13 : Hid (w.heap.size ≤ gb13) := hid (by have := HL.out.size; omega); have NBb1_b13 : Hid (gb1 ≠ gb13) := hid (by have := BKb1.out.lt; omega); have NBb13_b1 : Hid (gb13 ≠ gb1) := hid (by have := NBb1_b13.out; omega); replace BKb1 := hid (BKb1.out.below hb_ (by rw [← hgb13]; exact BKb1.out.lt)); replace HL := hid (HL.out.trans (hb_.mono GEb13.out)); have BKb13 := hid hB_; clear hb_ hB_ hs_ hgb13)
      | ((with_reducible refine gate_d (N := 6) rfl ?_); obtain ⟨gb14, hgb14⟩ : ∃ g_, w118.heap.size = g_ := ⟨_, rfl⟩; refine ag_alloc aT31 gb14 hgb14 rfl rfl ?_; intro w119 hb_ hB_ hs_; have GEb14 : Hid (w.heap.size ≤ gb14) := hid (by have := HL.out.size; omega); have NBb1_b14 : Hid (gb1 ≠ gb14) := hid (by have := BKb1.out.lt; omega); have NBb14_b1 : Hid (gb14 ≠ gb1) := hid (by have := NBb1_b14.out; omega); replace BKb1 := hid (BKb1.out.below hb_ (by rw [← hgb14]; exact BKb1.out.lt)); have NBb13_b14 : Hid (gb13 ≠ gb14) := hid (by have := BKb13.out.lt; omega); have NBb14_b13 : Hid (gb14 ≠ gb13) := hid (by have := NBb13_b14.out; omega); replace BKb13 := hid (BKb13.out.below hb_ (by rw [← hgb14]; exact BKb13.out.lt)); replace HL := hid (HL.out.trans (hb_.mono GEb14.out)); have BKb14 := hid hB_; clear hb_ hB_ hs_ hgb14)
      | ((with_reducible refine gate_s (t := 23) (p := 5) rfl ?_); refine ag_store aT23 gb13 0 #[.int .i64 0, .int .i64 0, .int .i64 0, .bool false] #[.int .i64 t6, .int .i64 t7, .int .i64 t8, .bool t9] #[.int .i64 t6, .int .i64 t7, .int .i64 t8, .bool t9] BKb13.out rfl (by simp) (by intro v_ hv_; simp at hv_; rcases hv_ with rfl | rfl | rfl | rfl <;> first | rfl) rfl rfl _ _ rfl rfl rfl ?_; intro w120 ho_ hB_; replace BKb1 := hid (BKb1.out.off ho_ NBb1_b13.out); replace BKb14 := hid (BKb14.out.off ho_ NBb14_b13.out); replace HL := hid (ho_.below HL.out GEb13.out); replace BKb13 := hid hB_; clear ho_ hB_)
      | ((with_reducible refine gate_s (t := 31) (p := 6) rfl ?_); refine ag_store aT31 gb14 0 #[.int .i64 0, .int .i64 0, .int .i64 0] #[.int .i64 t10, .int .i64 t11, .int .i64 t12] #[.int .i64 t10, .int .i64 t11, .int .i64 t12] BKb14.out rfl (by simp) (by intro v_ hv_; simp at hv_; rcases hv_ with rfl | rfl | rfl <;> first | rfl) rfl rfl _ _ rfl rfl rfl ?_; intro w121 ho_ hB_; replace BKb1 := hid (BKb1.out.off ho_ NBb1_b14.out); replace BKb13 := hid (BKb13.out.off ho_ NBb13_b14.out); replace HL := hid (ho_.below HL.out GEb14.out); replace BKb14 := hid hB_; clear ho_ hB_))
     (try simp only [Act.put, List.setIfInBounds_toArray, List.set_cons_zero, List.set_cons_succ])
     have WR64 := i64_w
     have WR32 := i32_w
     refine up_regionW (by kernel_rfl) (by kernel_rfl) ?_
     refine q_do (.bool false) (fun w'_ hc_ => ex_mv (.tmp 4) (.inl rfl) _ rfl) rfl rfl ?_
     intro ts_ ht_; simp only [List.setIfInBounds_toArray, List.set_cons_zero, List.set_cons_succ] at ht_; subst ht_
     refine q_do (.bool false) (fun w'_ hc_ => ex_mv (.tmp 39) (.inl rfl) _ rfl) rfl rfl ?_
     intro ts_ ht_; simp only [List.setIfInBounds_toArray, List.set_cons_zero, List.set_cons_succ] at ht_; subst ht_
     refine q_not 1 false rfl rfl rfl ?_
     intro ts_ ht_; simp only [List.setIfInBounds_toArray, List.set_cons_zero, List.set_cons_succ] at ht_; subst ht_
     refine q_not 1 false rfl rfl rfl ?_
     intro ts_ ht_; simp only [List.setIfInBounds_toArray, List.set_cons_zero, List.set_cons_succ] at ht_; subst ht_
     refine q_not 1 false rfl rfl rfl ?_
     intro ts_ ht_; simp only [List.setIfInBounds_toArray, List.set_cons_zero, List.set_cons_succ] at ht_; subst ht_
     refine q_not 1 false rfl rfl rfl ?_
     intro ts_ ht_; simp only [List.setIfInBounds_toArray, List.set_cons_zero, List.set_cons_succ] at ht_; subst ht_
     refine q_do (.bool false) (fun w'_ hc_ => by go_simp) rfl rfl ?_
     intro ts_ ht_; simp only [List.setIfInBounds_toArray, List.set_cons_zero, List.set_cons_succ] at ht_; subst ht_
     refine q_do (.bool false) (fun w'_ hc_ => ex_mv (.tmp 45) (.inl rfl) _ rfl) rfl rfl ?_
     intro ts_ ht_; simp only [List.setIfInBounds_toArray, List.set_cons_zero, List.set_cons_succ] at ht_; subst ht_
     refine q_not 7 false rfl rfl rfl ?_
     intro ts_ ht_; simp only [List.setIfInBounds_toArray, List.set_cons_zero, List.set_cons_succ] at ht_; subst ht_
     refine q_not 7 false rfl rfl rfl ?_
     intro ts_ ht_; simp only [List.setIfInBounds_toArray, List.set_cons_zero, List.set_cons_succ] at ht_; subst ht_
     refine q_not 7 false rfl rfl rfl ?_
     intro ts_ ht_; simp only [List.setIfInBounds_toArray, List.set_cons_zero, List.set_cons_succ] at ht_; subst ht_
     refine q_do (.bool false) (fun w'_ hc_ => by go_simp) rfl rfl ?_
     intro ts_ ht_; simp only [List.setIfInBounds_toArray, List.set_cons_zero, List.set_cons_succ] at ht_; subst ht_
     refine q_do (.bool false) (fun w'_ hc_ => ex_mv (.tmp 50) (.inl rfl) _ rfl) rfl rfl ?_
     intro ts_ ht_; simp only [List.setIfInBounds_toArray, List.set_cons_zero, List.set_cons_succ] at ht_; subst ht_
     refine q_not 12 false rfl rfl rfl ?_
     intro ts_ ht_; simp only [List.setIfInBounds_toArray, List.set_cons_zero, List.set_cons_succ] at ht_; subst ht_
     refine q_not 12 false rfl rfl rfl ?_
     intro ts_ ht_; simp only [List.setIfInBounds_toArray, List.set_cons_zero, List.set_cons_succ] at ht_; subst ht_
     refine q_not 12 false rfl rfl rfl ?_
     intro ts_ ht_; simp only [List.setIfInBounds_toArray, List.set_cons_zero, List.set_cons_succ] at ht_; subst ht_
     refine q_not 12 false rfl rfl rfl ?_
     intro ts_ ht_; simp only [List.setIfInBounds_toArray, List.set_cons_zero, List.set_cons_succ] at ht_; subst ht_
     refine q_not 12 false rfl rfl rfl ?_
     intro ts_ ht_; simp only [List.setIfInBounds_toArray, List.set_cons_zero, List.set_cons_succ] at ht_; subst ht_
     refine q_do (.bool false) (fun w'_ hc_ => by go_simp) rfl rfl ?_
     intro ts_ ht_; simp only [List.setIfInBounds_toArray, List.set_cons_zero, List.set_cons_succ] at ht_; subst ht_
     refine q_do (.bool false) (fun w'_ hc_ => ex_mv (.tmp 57) (.inl rfl) _ rfl) rfl rfl ?_
     intro ts_ ht_; simp only [List.setIfInBounds_toArray, List.set_cons_zero, List.set_cons_succ] at ht_; subst ht_
     refine q_not 19 false rfl rfl rfl ?_
     intro ts_ ht_; simp only [List.setIfInBounds_toArray, List.set_cons_zero, List.set_cons_succ] at ht_; subst ht_
     refine q_not 19 false rfl rfl rfl ?_
     intro ts_ ht_; simp only [List.setIfInBounds_toArray, List.set_cons_zero, List.set_cons_succ] at ht_; subst ht_
     refine q_not 19 false rfl rfl rfl ?_
     intro ts_ ht_; simp only [List.setIfInBounds_toArray, List.set_cons_zero, List.set_cons_succ] at ht_; subst ht_
     refine q_not 19 false rfl rfl rfl ?_
     intro ts_ ht_; simp only [List.setIfInBounds_toArray, List.set_cons_zero, List.set_cons_succ] at ht_; subst ht_
     refine q_not 19 false rfl rfl rfl ?_
     intro ts_ ht_; simp only [List.setIfInBounds_toArray, List.set_cons_zero, List.set_cons_succ] at ht_; subst ht_
     refine q_do (.bool false) (fun w'_ hc_ => by go_simp) rfl rfl ?_
     intro ts_ ht_; simp only [List.setIfInBounds_toArray, List.set_cons_zero, List.set_cons_succ] at ht_; subst ht_
     refine q_do (.bool false) (fun w'_ hc_ => ex_mv (.tmp 64) (.inl rfl) _ rfl) rfl rfl ?_
     intro ts_ ht_; simp only [List.setIfInBounds_toArray, List.set_cons_zero, List.set_cons_succ] at ht_; subst ht_
     refine q_not 26 false rfl rfl rfl ?_
     intro ts_ ht_; simp only [List.setIfInBounds_toArray, List.set_cons_zero, List.set_cons_succ] at ht_; subst ht_
     refine q_not 26 false rfl rfl rfl ?_
     intro ts_ ht_; simp only [List.setIfInBounds_toArray, List.set_cons_zero, List.set_cons_succ] at ht_; subst ht_
     refine q_not 26 false rfl rfl rfl ?_
     intro ts_ ht_; simp only [List.setIfInBounds_toArray, List.set_cons_zero, List.set_cons_succ] at ht_; subst ht_
     refine q_not 26 false rfl rfl rfl ?_
     intro ts_ ht_; simp only [List.setIfInBounds_toArray, List.set_cons_zero, List.set_cons_succ] at ht_; subst ht_
     refine q_not 26 false rfl rfl rfl ?_
     intro ts_ ht_; simp only [List.setIfInBounds_toArray, List.set_cons_zero, List.set_cons_succ] at ht_; subst ht_
     refine q_do (.bool false) (fun w'_ hc_ => by go_simp) rfl rfl ?_
     intro ts_ ht_; simp only [List.setIfInBounds_toArray, List.set_cons_zero, List.set_cons_succ] at ht_; subst ht_
     refine q_do (.bool false) (fun w'_ hc_ => ex_mv (.tmp 71) (.inr rfl) _ rfl) rfl rfl ?_
     intro ts_ ht_; simp only [List.setIfInBounds_toArray, List.set_cons_zero, List.set_cons_succ] at ht_; subst ht_
     refine q_end ?_
     rintro w8_ ⟨n_, rfl⟩
     replace BKb1 := hid (BKb1.out.below n_.below BKb1.out.lt)
     replace BKb13 := hid (BKb13.out.below n_.below BKb13.out.lt)
     replace BKb14 := hid (BKb14.out.below n_.below BKb14.out.lt)
     replace HL := hid (HL.out.trans (n_.below.mono HL.out.size))
     generalize n_.world = w122 at *
     clear n_ WR64 WR32
     go_wp2_with fail
     (try simp only [Act.put, List.setIfInBounds_toArray, List.set_cons_zero, List.set_cons_succ])
     go_ret
     exact ⟨by first | rfl | (simp; done) | (simp [*]; done), HL.out⟩
   ·
    rw [if_neg c27] at H
    exact absurd H (by simp)
  | false =>
   rw [if_neg (show ¬ (false = true) by decide)] at H
   by_cases c123 : t3.toList = ([] : List UInt8)
   ·
    rw [if_pos c123] at H
    have c123b0 : (t3.toList == ([] : List UInt8)) = true := beq_iff_eq.mpr c123
    have c123b1 : (t3.toList != ([] : List UInt8)) = false := bne_eq_false_iff_eq.mpr c123
    have hc123 := hid c123
    clear c123
    cases t4 with
    | true =>
     rw [if_pos rfl] at H
     obtain rfl := Option.some.inj H
     clear H
     go_enter Tryd.func3, Tryd.ntmps3
     have k126 := True.intro
     have k128 := True.intro
     have k130 := True.intro
     go_wp2_with (first
      | ((with_reducible refine gate_d (N := 1) rfl ?_); obtain ⟨gb1, hgb1⟩ : ∃ g_, w.heap.size = g_ := ⟨_, rfl⟩; refine ag_box #[.int .i64 a0_0, .int .i64 a0_1, .int .i64 a0_2, .bool a0_3] gb1 hgb1 rfl _ rfl rfl ?_; intro w125 hb_ hB_ hs_; have GEb1 : Hid (w.heap.size ≤ gb1) := hid (by have := HL.out.size; omega); replace HL := hid (HL.out.trans (hb_.mono GEb1.out)); have BKb1 := hid hB_; clear hb_ hB_ hs_ hgb1)
      | (go_at_call 5; clear k126; refine (i_alfillaw15_wakes.calls k true _ A22.out).mono ?_; rintro e_ w127 ⟨rfl, hb_⟩; replace BKb1 := hid (BKb1.out.below hb_ BKb1.out.lt); replace HL := hid (HL.out.trans (hb_.mono HL.out.size)); clear hb_)
      | ((with_reducible refine gate_d (N := 10) rfl ?_); refine ag_fix (.agg #[.int .i64 a0_0, .int .i64 a0_1, .int .i64 a0_2, .bool a0_3]) (ex_load aT23 gb1 0 #[.int .i64 a0_0, .int .i64 a0_1, .int .i64 a0_2, .bool a0_3] #[.int .i64 a0_0, .int .i64 a0_1, .int .i64 a0_2, .bool a0_3] BKb1.out (by simp) rfl _ rfl rfl) rfl ?_)
      | (go_at_call 6; clear k128; refine (i_stip_Write.calls a0_0 a0_1 a0_2 a0_3 t3 true _ A24.out).mono ?_; rintro e_ w129 ⟨rfl, hb_⟩; replace BKb1 := hid (BKb1.out.below hb_ BKb1.out.lt); replace HL := hid (HL.out.trans (hb_.mono HL.out.size)); clear hb_)
      | ((with_reducible refine gate_d (N := 14) rfl ?_); refine ag_fix (.agg #[.int .i64 a0_0, .int .i64 a0_1, .int .i64 a0_2, .bool a0_3]) (ex_load aT23 gb1 0 #[.int .i64 a0_0, .int .i64 a0_1, .int .i64 a0_2, .bool a0_3] #[.int .i64 a0_0, .int .i64 a0_1, .int .i64 a0_2, .bool a0_3] BKb1.out (by simp) rfl _ rfl rfl) rfl ?_)
      | (go_at_call 7; clear k130; refine (i_alfilref15_Right.calls a0_0 a0_1 a0_2 a0_3 false _ A25.out).mono ?_; rintro e_ w131 ⟨rfl, hb_⟩; replace BKb1 := hid (BKb1.out.below hb_ BKb1.out.lt); replace HL := hid (HL.out.trans (hb_.mono HL.out.size)); clear hb_))
     (try simp only [Act.put, List.setIfInBounds_toArray, List.set_cons_zero, List.set_cons_succ])
     go_ret
     exact ⟨by first | rfl | (simp; done) | (simp [*]; done), HL.out⟩
    | false =>
     rw [if_neg (show ¬ (false = true) by decide)] at H
     replace H := Option.bind_eq_some_iff.mp H
     obtain ⟨t20, A132_, H⟩ := H
     replace H : (if t20 = (-1) then ((i_stip_Plies.f a0_0 a0_1 a0_2 a0_3).bind fun t21 => (some (t21 == (-1)))) else (some false)) = some r1 := H
     have A132 := hid A132_
     clear A132_
     by_cases c133 : t20 = (-1)
     ·
      rw [if_pos c133] at H
      have c133b0 : (t20 == (-1)) = true := beq_iff_eq.mpr c133
      have c133b1 : (t20 != (-1)) = false := bne_eq_false_iff_eq.mpr c133
      have hc133 := hid c133
      clear c133
      replace H := Option.bind_eq_some_iff.mp H
      obtain ⟨t21, A134_, H⟩ := H
      replace H : (some (t21 == (-1))) = some r1 := H
      have A134 := hid A134_
      clear A134_
      obtain rfl := Option.some.inj H
      clear H
      go_enter Tryd.func3, Tryd.ntmps3
      have k136 := True.intro
      have k138 := True.intro
      have k140 := True.intro
      have k142 := True.intro
      have k144 := True.intro
      go_wp2_with (first
       | ((with_reducible refine gate_d (N := 1) rfl ?_); obtain ⟨gb1, hgb1⟩ : ∃ g_, w.heap.size = g_ := ⟨_, rfl⟩; refine ag_box #[.int .i64 a0_0, .int .i64 a0_1, .int .i64 a0_2, .bool a0_3] gb1 hgb1 rfl _ rfl rfl ?_; intro w135 hb_ hB_ hs_; have GEb1 : Hid (w.heap.size ≤ gb1) := hid (by have := HL.out.size; omega); replace HL := hid (HL.out.trans (hb_.mono GEb1.out)); have BKb1 := hid hB_; clear hb_ hB_ hs_ hgb1)
       | (go_at_call 5; clear k136; refine (i_alfillaw15_wakes.calls k true _ A22.out).mono ?_; rintro e_ w137 ⟨rfl, hb_⟩; replace BKb1 := hid (BKb1.out.below hb_ BKb1.out.lt); replace HL := hid (HL.out.trans (hb_.mono HL.out.size)); clear hb_)
       | ((with_reducible refine gate_d (N := 10) rfl ?_); refine ag_fix (.agg #[.int .i64 a0_0, .int .i64 a0_1, .int .i64 a0_2, .bool a0_3]) (ex_load aT23 gb1 0 #[.int .i64 a0_0, .int .i64 a0_1, .int .i64 a0_2, .bool a0_3] #[.int .i64 a0_0, .int .i64 a0_1, .int .i64 a0_2, .bool a0_3] BKb1.out (by simp) rfl _ rfl rfl) rfl ?_)
       | (go_at_call 6; clear k138; refine (i_stip_Write.calls a0_0 a0_1 a0_2 a0_3 t3 false _ A24.out).mono ?_; rintro e_ w139 ⟨rfl, hb_⟩; replace BKb1 := hid (BKb1.out.below hb_ BKb1.out.lt); replace HL := hid (HL.out.trans (hb_.mono HL.out.size)); clear hb_)
       | ((with_reducible refine gate_d (N := 14) rfl ?_); refine ag_fix (.agg #[.int .i64 a0_0, .int .i64 a0_1, .int .i64 a0_2, .bool a0_3]) (ex_load aT23 gb1 0 #[.int .i64 a0_0, .int .i64 a0_1, .int .i64 a0_2, .bool a0_3] #[.int .i64 a0_0, .int .i64 a0_1, .int .i64 a0_2, .bool a0_3] BKb1.out (by simp) rfl _ rfl rfl) rfl ?_)
       | (go_at_call 7; clear k140; refine (i_alfilref15_Right.calls a0_0 a0_1 a0_2 a0_3 false _ A25.out).mono ?_; rintro e_ w141 ⟨rfl, hb_⟩; replace BKb1 := hid (BKb1.out.below hb_ BKb1.out.lt); replace HL := hid (HL.out.trans (hb_.mono HL.out.size)); clear hb_)
       | ((with_reducible refine gate_d (N := 24) rfl ?_); refine ag_fix (.agg #[.int .i64 a0_0, .int .i64 a0_1, .int .i64 a0_2, .bool a0_3]) (ex_load aT23 gb1 0 #[.int .i64 a0_0, .int .i64 a0_1, .int .i64 a0_2, .bool a0_3] #[.int .i64 a0_0, .int .i64 a0_1, .int .i64 a0_2, .bool a0_3] BKb1.out (by simp) rfl _ rfl rfl) rfl ?_)
       | (go_at_call 8; clear k142; refine (i_stip_Begins.calls a0_0 a0_1 a0_2 a0_3 t20 _ A132.out).mono ?_; rintro e_ w143 ⟨rfl, hb_⟩; replace BKb1 := hid (BKb1.out.below hb_ BKb1.out.lt); replace HL := hid (HL.out.trans (hb_.mono HL.out.size)); clear hb_)
       | ((with_reducible refine gate_d (N := 29) rfl ?_); refine ag_fix (.agg #[.int .i64 a0_0, .int .i64 a0_1, .int .i64 a0_2, .bool a0_3]) (ex_load aT23 gb1 0 #[.int .i64 a0_0, .int .i64 a0_1, .int .i64 a0_2, .bool a0_3] #[.int .i64 a0_0, .int .i64 a0_1, .int .i64 a0_2, .bool a0_3] BKb1.out (by simp) rfl _ rfl rfl) rfl ?_)
       | (go_at_call 9; clear k144; refine (i_stip_Plies.calls a0_0 a0_1 a0_2 a0_3 t21 _ A134.out).mono ?_; rintro e_ w145 ⟨rfl, hb_⟩; replace BKb1 := hid (BKb1.out.below hb_ BKb1.out.lt); replace HL := hid (HL.out.trans (hb_.mono HL.out.size)); clear hb_))
      (try simp only [Act.put, List.setIfInBounds_toArray, List.set_cons_zero, List.set_cons_succ])
      go_ret
      exact ⟨by first | rfl | (simp; done) | (simp [*]; done), HL.out⟩
     ·
      rw [if_neg c133] at H
      have c133b0 : (t20 == (-1)) = false := beq_eq_false_iff_ne.mpr c133
      have c133b1 : (t20 != (-1)) = true := bne_iff_ne.mpr c133
      have hc133 := hid c133
      clear c133
      obtain rfl := Option.some.inj H
      clear H
      go_enter Tryd.func3, Tryd.ntmps3
      have k147 := True.intro
      have k149 := True.intro
      have k151 := True.intro
      have k153 := True.intro
      go_wp2_with (first
       | ((with_reducible refine gate_d (N := 1) rfl ?_); obtain ⟨gb1, hgb1⟩ : ∃ g_, w.heap.size = g_ := ⟨_, rfl⟩; refine ag_box #[.int .i64 a0_0, .int .i64 a0_1, .int .i64 a0_2, .bool a0_3] gb1 hgb1 rfl _ rfl rfl ?_; intro w146 hb_ hB_ hs_; have GEb1 : Hid (w.heap.size ≤ gb1) := hid (by have := HL.out.size; omega); replace HL := hid (HL.out.trans (hb_.mono GEb1.out)); have BKb1 := hid hB_; clear hb_ hB_ hs_ hgb1)
       | (go_at_call 5; clear k147; refine (i_alfillaw15_wakes.calls k true _ A22.out).mono ?_; rintro e_ w148 ⟨rfl, hb_⟩; replace BKb1 := hid (BKb1.out.below hb_ BKb1.out.lt); replace HL := hid (HL.out.trans (hb_.mono HL.out.size)); clear hb_)
       | ((with_reducible refine gate_d (N := 10) rfl ?_); refine ag_fix (.agg #[.int .i64 a0_0, .int .i64 a0_1, .int .i64 a0_2, .bool a0_3]) (ex_load aT23 gb1 0 #[.int .i64 a0_0, .int .i64 a0_1, .int .i64 a0_2, .bool a0_3] #[.int .i64 a0_0, .int .i64 a0_1, .int .i64 a0_2, .bool a0_3] BKb1.out (by simp) rfl _ rfl rfl) rfl ?_)
       | (go_at_call 6; clear k149; refine (i_stip_Write.calls a0_0 a0_1 a0_2 a0_3 t3 false _ A24.out).mono ?_; rintro e_ w150 ⟨rfl, hb_⟩; replace BKb1 := hid (BKb1.out.below hb_ BKb1.out.lt); replace HL := hid (HL.out.trans (hb_.mono HL.out.size)); clear hb_)
       | ((with_reducible refine gate_d (N := 14) rfl ?_); refine ag_fix (.agg #[.int .i64 a0_0, .int .i64 a0_1, .int .i64 a0_2, .bool a0_3]) (ex_load aT23 gb1 0 #[.int .i64 a0_0, .int .i64 a0_1, .int .i64 a0_2, .bool a0_3] #[.int .i64 a0_0, .int .i64 a0_1, .int .i64 a0_2, .bool a0_3] BKb1.out (by simp) rfl _ rfl rfl) rfl ?_)
       | (go_at_call 7; clear k151; refine (i_alfilref15_Right.calls a0_0 a0_1 a0_2 a0_3 false _ A25.out).mono ?_; rintro e_ w152 ⟨rfl, hb_⟩; replace BKb1 := hid (BKb1.out.below hb_ BKb1.out.lt); replace HL := hid (HL.out.trans (hb_.mono HL.out.size)); clear hb_)
       | ((with_reducible refine gate_d (N := 24) rfl ?_); refine ag_fix (.agg #[.int .i64 a0_0, .int .i64 a0_1, .int .i64 a0_2, .bool a0_3]) (ex_load aT23 gb1 0 #[.int .i64 a0_0, .int .i64 a0_1, .int .i64 a0_2, .bool a0_3] #[.int .i64 a0_0, .int .i64 a0_1, .int .i64 a0_2, .bool a0_3] BKb1.out (by simp) rfl _ rfl rfl) rfl ?_)
       | (go_at_call 8; clear k153; refine (i_stip_Begins.calls a0_0 a0_1 a0_2 a0_3 t20 _ A132.out).mono ?_; rintro e_ w154 ⟨rfl, hb_⟩; replace BKb1 := hid (BKb1.out.below hb_ BKb1.out.lt); replace HL := hid (HL.out.trans (hb_.mono HL.out.size)); clear hb_))
      (try simp only [Act.put, List.setIfInBounds_toArray, List.set_cons_zero, List.set_cons_succ])
      go_ret
      exact ⟨by first | rfl | (simp; done) | (simp [*]; done), HL.out⟩
   ·
    rw [if_neg c123] at H
    have c123b0 : (t3.toList == ([] : List UInt8)) = false := beq_eq_false_iff_ne.mpr c123
    have c123b1 : (t3.toList != ([] : List UInt8)) = true := bne_iff_ne.mpr c123
    have hc123 := hid c123
    clear c123
    obtain rfl := Option.some.inj H
    clear H
    go_enter Tryd.func3, Tryd.ntmps3
    have k156 := True.intro
    have k158 := True.intro
    have k160 := True.intro
    go_wp2_with (first
     | ((with_reducible refine gate_d (N := 1) rfl ?_); obtain ⟨gb1, hgb1⟩ : ∃ g_, w.heap.size = g_ := ⟨_, rfl⟩; refine ag_box #[.int .i64 a0_0, .int .i64 a0_1, .int .i64 a0_2, .bool a0_3] gb1 hgb1 rfl _ rfl rfl ?_; intro w155 hb_ hB_ hs_; have GEb1 : Hid (w.heap.size ≤ gb1) := hid (by have := HL.out.size; omega); replace HL := hid (HL.out.trans (hb_.mono GEb1.out)); have BKb1 := hid hB_; clear hb_ hB_ hs_ hgb1)
     | (go_at_call 5; clear k156; refine (i_alfillaw15_wakes.calls k true _ A22.out).mono ?_; rintro e_ w157 ⟨rfl, hb_⟩; replace BKb1 := hid (BKb1.out.below hb_ BKb1.out.lt); replace HL := hid (HL.out.trans (hb_.mono HL.out.size)); clear hb_)
     | ((with_reducible refine gate_d (N := 10) rfl ?_); refine ag_fix (.agg #[.int .i64 a0_0, .int .i64 a0_1, .int .i64 a0_2, .bool a0_3]) (ex_load aT23 gb1 0 #[.int .i64 a0_0, .int .i64 a0_1, .int .i64 a0_2, .bool a0_3] #[.int .i64 a0_0, .int .i64 a0_1, .int .i64 a0_2, .bool a0_3] BKb1.out (by simp) rfl _ rfl rfl) rfl ?_)
     | (go_at_call 6; clear k158; refine (i_stip_Write.calls a0_0 a0_1 a0_2 a0_3 t3 t4 _ A24.out).mono ?_; rintro e_ w159 ⟨rfl, hb_⟩; replace BKb1 := hid (BKb1.out.below hb_ BKb1.out.lt); replace HL := hid (HL.out.trans (hb_.mono HL.out.size)); clear hb_)
     | ((with_reducible refine gate_d (N := 14) rfl ?_); refine ag_fix (.agg #[.int .i64 a0_0, .int .i64 a0_1, .int .i64 a0_2, .bool a0_3]) (ex_load aT23 gb1 0 #[.int .i64 a0_0, .int .i64 a0_1, .int .i64 a0_2, .bool a0_3] #[.int .i64 a0_0, .int .i64 a0_1, .int .i64 a0_2, .bool a0_3] BKb1.out (by simp) rfl _ rfl rfl) rfl ?_)
     | (go_at_call 7; clear k160; refine (i_alfilref15_Right.calls a0_0 a0_1 a0_2 a0_3 false _ A25.out).mono ?_; rintro e_ w161 ⟨rfl, hb_⟩; replace BKb1 := hid (BKb1.out.below hb_ BKb1.out.lt); replace HL := hid (HL.out.trans (hb_.mono HL.out.size)); clear hb_))
    (try simp only [Act.put, List.setIfInBounds_toArray, List.set_cons_zero, List.set_cons_succ])
    go_ret
    exact ⟨by first | rfl | (simp; done) | (simp [*]; done), HL.out⟩
 | false =>
  rw [if_neg (show ¬ (false = true) by decide)] at H
  obtain rfl := Option.some.inj H
  clear H
  go_enter Tryd.func3, Tryd.ntmps3
  have k163 := True.intro
  go_wp2_with (first
   | ((with_reducible refine gate_d (N := 1) rfl ?_); obtain ⟨gb1, hgb1⟩ : ∃ g_, w.heap.size = g_ := ⟨_, rfl⟩; refine ag_box #[.int .i64 a0_0, .int .i64 a0_1, .int .i64 a0_2, .bool a0_3] gb1 hgb1 rfl _ rfl rfl ?_; intro w162 hb_ hB_ hs_; have GEb1 : Hid (w.heap.size ≤ gb1) := hid (by have := HL.out.size; omega); replace HL := hid (HL.out.trans (hb_.mono GEb1.out)); have BKb1 := hid hB_; clear hb_ hB_ hs_ hgb1)
   | (go_at_call 5; clear k163; refine (i_alfillaw15_wakes.calls k false _ A22.out).mono ?_; rintro e_ w164 ⟨rfl, hb_⟩; replace BKb1 := hid (BKb1.out.below hb_ BKb1.out.lt); replace HL := hid (HL.out.trans (hb_.mono HL.out.size)); clear hb_))
  (try simp only [Act.put, List.setIfInBounds_toArray, List.set_cons_zero, List.set_cons_succ])
  go_ret
  exact ⟨by first | rfl | (simp; done) | (simp [*]; done), HL.out⟩
end Go.Proofs.YtabbkeliknidgaaDoor
