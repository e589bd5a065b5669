/- The walk of the law StipMovers. -/
import Derived.Test.YtabbkeliknidgaaProg
import Derived.Test.YtabbkeliknidgaaS1w
import Derived.Test.YtabbkeliknidgaaS2w
namespace Go.Proofs.Ytabbkeliknidgaa
open Go.RowKit
set_option linter.unusedVariables false
set_option linter.unusedSimpArgs false
theorem eqS43 (d : Nat) (w : World) (x0 y0 : Int) (x1 y1 : Int) (x2 y2 : Int) (x3 y3 : Bool) : (Op.equalIn (d + 2) 43 (.agg #[.int .i64 x0, .int .i64 x1, .int .i64 x2, .bool x3]) (.agg #[.int .i64 y0, .int .i64 y1, .int .i64 y2, .bool y3])).run Try.prog w = .ok ((x0 == y0) && ((x1 == y1) && ((x2 == y2) && ((x3 == y3))))) w := by
  refine eqs_of Try.underlying43 (by kernel_rfl) ?_
  refine eqs_more (by rfl) (by go_simp; rfl) (by go_simp; rfl) (by go_simp) ?_
  refine eqs_more (by rfl) (by go_simp; rfl) (by go_simp; rfl) (by go_simp) ?_
  refine eqs_more (by rfl) (by go_simp; rfl) (by go_simp; rfl) (by go_simp) ?_
  exact eqs_last (by rfl) (by go_simp; rfl) (by go_simp; rfl) (by go_simp)
theorem eqS26 (d : Nat) (w : World) (x0 y0 : Int) (x1 y1 : Int) (x2 y2 : Int) : (Op.equalIn (d + 2) 26 (.agg #[.int .i64 x0, .int .i64 x1, .int .i64 x2]) (.agg #[.int .i64 y0, .int .i64 y1, .int .i64 y2])).run Try.prog w = .ok ((x0 == y0) && ((x1 == y1) && ((x2 == y2)))) w := by
  refine eqs_of Try.underlying26 (by kernel_rfl) ?_
  refine eqs_more (by rfl) (by go_simp; rfl) (by go_simp; rfl) (by go_simp) ?_
  refine eqs_more (by rfl) (by go_simp; rfl) (by go_simp; rfl) (by go_simp) ?_
  exact eqs_last (by rfl) (by go_simp; rfl) (by go_simp; rfl) (by go_simp)
/-! i_alfillaw15_wakes: function 21 -/
def i_alfillaw15_wakes.f (k : Nat)  : Option (Bool) := (i_stip_Read.f k (⟨#[104, 35, 50, 46, 53]⟩ : ByteArray) 0).bind fun bt3757 => (if ((bt3757.1 == 5) && ((bt3757.2.1 == 1) && ((bt3757.2.2.1 == 2) && ((bt3757.2.2.2.1 == true))))) = true then (if ((bt3757.2.2.2.2.1 == 5) && ((bt3757.2.2.2.2.2.1 == 0) && ((bt3757.2.2.2.2.2.2 == 0)))) = true then ((i_stip_Begins.f bt3757.1 bt3757.2.1 bt3757.2.2.1 bt3757.2.2.2.1).bind fun t3766 => (if t3766 = 0 then ((i_stip_Plies.f bt3757.1 bt3757.2.1 bt3757.2.2.1 bt3757.2.2.2.1).bind fun t3767 => (some (t3767 == 5))) else (some false))) else (some false)) else (some false))
set_option maxHeartbeats 40000000 in
set_option maxRecDepth 100000 in
theorem i_alfillaw15_wakes.calls (k : Nat) (r1 : Bool) (w : World) (h : i_alfillaw15_wakes.f k = some r1) :
    Calls Try.prog 21 #[] w fun e w' => e = .returned (.bool r1) ∧ Below w.heap.size w w' := by
  have HL := hid (Below.refl w.heap.size w)
  have H : ((i_stip_Read.f k (⟨#[104, 35, 50, 46, 53]⟩ : ByteArray) 0).bind fun bt3757 => (if ((bt3757.1 == 5) && ((bt3757.2.1 == 1) && ((bt3757.2.2.1 == 2) && ((bt3757.2.2.2.1 == true))))) = true then (if ((bt3757.2.2.2.2.1 == 5) && ((bt3757.2.2.2.2.2.1 == 0) && ((bt3757.2.2.2.2.2.2 == 0)))) = true then ((i_stip_Begins.f bt3757.1 bt3757.2.1 bt3757.2.2.1 bt3757.2.2.2.1).bind fun t3766 => (if t3766 = 0 then ((i_stip_Plies.f bt3757.1 bt3757.2.1 bt3757.2.2.1 bt3757.2.2.2.1).bind fun t3767 => (some (t3767 == 5))) else (some false))) else (some false)) else (some false))) = some r1 := h
  clear h
  replace H := Option.bind_eq_some_iff.mp H
  obtain ⟨⟨t3757, t3758, t3759, t3760, t3761, t3762, t3763⟩, A3768_, H⟩ := H
  replace H : (if ((t3757 == 5) && ((t3758 == 1) && ((t3759 == 2) && ((t3760 == true))))) = true then (if ((t3761 == 5) && ((t3762 == 0) && ((t3763 == 0)))) = true then ((i_stip_Begins.f t3757 t3758 t3759 t3760).bind fun t3766 => (if t3766 = 0 then ((i_stip_Plies.f t3757 t3758 t3759 t3760).bind fun t3767 => (some (t3767 == 5))) else (some false))) else (some false)) else (some false)) = some r1 := H
  have A3768 := hid A3768_
  clear A3768_
  by_cases c3769 : ((t3757 == 5) && ((t3758 == 1) && ((t3759 == 2) && ((t3760 == true))))) = true
  · rw [if_pos c3769] at H
    have c3769b0 : ((t3757 == 5) && ((t3758 == 1) && ((t3759 == 2) && ((t3760 == true))))) = true := c3769
    have hc3769 := hid c3769
    clear c3769
    by_cases c3770 : ((t3761 == 5) && ((t3762 == 0) && ((t3763 == 0)))) = true
    · rw [if_pos c3770] at H
      have c3770b0 : ((t3761 == 5) && ((t3762 == 0) && ((t3763 == 0)))) = true := c3770
      have hc3770 := hid c3770
      clear c3770
      replace H := Option.bind_eq_some_iff.mp H
      obtain ⟨t3766, A3771_, H⟩ := H
      replace H : (if t3766 = 0 then ((i_stip_Plies.f t3757 t3758 t3759 t3760).bind fun t3767 => (some (t3767 == 5))) else (some false)) = some r1 := H
      have A3771 := hid A3771_
      clear A3771_
      by_cases c3772 : t3766 = 0
      · rw [if_pos c3772] at H
        have c3772b0 : (t3766 == 0) = true := beq_iff_eq.mpr c3772
        have c3772b1 : (t3766 != 0) = false := bne_eq_false_iff_eq.mpr c3772
        have hc3772 := hid c3772
        clear c3772
        replace H := Option.bind_eq_some_iff.mp H
        obtain ⟨t3767, A3773_, H⟩ := H
        replace H : (some (t3767 == 5)) = some r1 := H
        have A3773 := hid A3773_
        clear A3773_
        obtain rfl := Option.some.inj H
        clear H
        go_enter Try.func21, Try.ntmps21
        have k3774 := True.intro
        have k3780 := True.intro
        have k3782 := True.intro
        go_wp2_with (first
          | (go_at_call 36; clear k3774; refine (i_stip_Read.calls k (⟨#[104, 35, 50, 46, 53]⟩ : ByteArray) 0 t3757 t3758 t3759 t3760 t3761 t3762 t3763 _ A3768.out).mono ?_; rintro e_ w3775 ⟨rfl, hb_⟩; replace HL := hid (HL.out.trans (hb_.mono HL.out.size)); clear hb_)
          | ((with_reducible refine gate_d (N := 1) rfl ?_); obtain ⟨gb3764, hgb3764⟩ : ∃ g_, w3775.heap.size = g_ := ⟨_, rfl⟩; refine ag_alloc aT43 gb3764 hgb3764 rfl rfl ?_; intro w3776 hb_ hB_ hs_; have GEb3764 : Hid (w.heap.size ≤ gb3764) := hid (by have := HL.out.size; omega); replace HL := hid (HL.out.trans (hb_.mono GEb3764.out)); have BKb3764 := hid hB_; clear hb_ hB_ hs_ hgb3764)
          | ((with_reducible refine gate_d (N := 2) rfl ?_); obtain ⟨gb3765, hgb3765⟩ : ∃ g_, w3776.heap.size = g_ := ⟨_, rfl⟩; refine ag_alloc aT26 gb3765 hgb3765 rfl rfl ?_; intro w3777 hb_ hB_ hs_; have GEb3765 : Hid (w.heap.size ≤ gb3765) := hid (by have := HL.out.size; omega); have NBb3764_b3765 : Hid (gb3764 ≠ gb3765) := hid (by have := BKb3764.out.lt; omega); have NBb3765_b3764 : Hid (gb3765 ≠ gb3764) := hid (by have := NBb3764_b3765.out; omega); replace BKb3764 := hid (BKb3764.out.below hb_ (by rw [← hgb3765]; exact BKb3764.out.lt)); replace HL := hid (HL.out.trans (hb_.mono GEb3765.out)); have BKb3765 := hid hB_; clear hb_ hB_ hs_ hgb3765)
          | ((with_reducible refine gate_s (t := 43) (p := 1) rfl ?_); refine ag_store aT43 gb3764 0 #[.int .i64 0, .int .i64 0, .int .i64 0, .bool false] #[.int .i64 t3757, .int .i64 t3758, .int .i64 t3759, .bool t3760] #[.int .i64 t3757, .int .i64 t3758, .int .i64 t3759, .bool t3760] BKb3764.out rfl (by simp) (by intro v_ hv_; simp at hv_; rcases hv_ with rfl | rfl | rfl | rfl <;> first | rfl) rfl rfl _ _ rfl rfl rfl ?_; intro w3778 ho_ hB_; replace BKb3765 := hid (BKb3765.out.off ho_ NBb3765_b3764.out); replace HL := hid (ho_.below HL.out GEb3764.out); replace BKb3764 := hid hB_; clear ho_ hB_)
          | ((with_reducible refine gate_s (t := 26) (p := 2) rfl ?_); refine ag_store aT26 gb3765 0 #[.int .i64 0, .int .i64 0, .int .i64 0] #[.int .i64 t3761, .int .i64 t3762, .int .i64 t3763] #[.int .i64 t3761, .int .i64 t3762, .int .i64 t3763] BKb3765.out rfl (by simp) (by intro v_ hv_; simp at hv_; rcases hv_ with rfl | rfl | rfl <;> first | rfl) rfl rfl _ _ rfl rfl rfl ?_; intro w3779 ho_ hB_; replace BKb3764 := hid (BKb3764.out.off ho_ NBb3764_b3765.out); replace HL := hid (ho_.below HL.out GEb3765.out); replace BKb3765 := hid hB_; clear ho_ hB_)
          | ((with_reducible refine gate_d (N := 7) rfl ?_); refine ag_fix (.agg #[.int .i64 t3757, .int .i64 t3758, .int .i64 t3759, .bool t3760]) (ex_load aT43 gb3764 0 #[.int .i64 t3757, .int .i64 t3758, .int .i64 t3759, .bool t3760] #[.int .i64 t3757, .int .i64 t3758, .int .i64 t3759, .bool t3760] BKb3764.out (by simp) rfl _ rfl rfl) rfl ?_)
          | ((with_reducible refine gate_d (N := 8) rfl ?_); refine ag_build (.agg #[.int .i64 5, .int .i64 1, .int .i64 2, .bool true]) _ rfl rfl ?_ ?_; (intro ww_; simp only [List.map_toArray, List.map_cons, List.map_nil]; kernel_rfl))
          | ((with_reducible refine gate_d (N := 9) rfl ?_); refine ag_fix (.bool true) (ex_eq .eql 43 (.agg #[.int .i64 t3757, .int .i64 t3758, .int .i64 t3759, .bool t3760]) (.agg #[.int .i64 5, .int .i64 1, .int .i64 2, .bool true]) (.bool true) (fun x_ y_ w_ => guard_any (by kernel_rfl) _ x_ y_ w_) (fun w_ => (eq_bin (fun d_ w2_ => eqS43 d_ w2_ t3757 5 t3758 1 t3759 2 t3760 true ) (by decide) w_).trans (by rw [show ((t3757 == 5) && ((t3758 == 1) && ((t3759 == 2) && ((t3760 == true))))) = true from hc3769.out])) _ _ _ rfl rfl rfl) rfl ?_)
          | ((with_reducible refine gate_d (N := 11) rfl ?_); refine ag_fix (.agg #[.int .i64 t3761, .int .i64 t3762, .int .i64 t3763]) (ex_load aT26 gb3765 0 #[.int .i64 t3761, .int .i64 t3762, .int .i64 t3763] #[.int .i64 t3761, .int .i64 t3762, .int .i64 t3763] BKb3765.out (by simp) rfl _ rfl rfl) rfl ?_)
          | ((with_reducible refine gate_d (N := 12) rfl ?_); refine ag_build (.agg #[.int .i64 5, .int .i64 0, .int .i64 0]) _ rfl rfl ?_ ?_; (intro ww_; simp only [List.map_toArray, List.map_cons, List.map_nil]; kernel_rfl))
          | ((with_reducible refine gate_d (N := 13) rfl ?_); refine ag_fix (.bool true) (ex_eq .eql 26 (.agg #[.int .i64 t3761, .int .i64 t3762, .int .i64 t3763]) (.agg #[.int .i64 5, .int .i64 0, .int .i64 0]) (.bool true) (fun x_ y_ w_ => guard_any (by kernel_rfl) _ x_ y_ w_) (fun w_ => (eq_bin (fun d_ w2_ => eqS26 d_ w2_ t3761 5 t3762 0 t3763 0 ) (by decide) w_).trans (by rw [show ((t3761 == 5) && ((t3762 == 0) && ((t3763 == 0)))) = true from hc3770.out])) _ _ _ rfl rfl rfl) rfl ?_)
          | ((with_reducible refine gate_d (N := 16) rfl ?_); refine ag_fix (.agg #[.int .i64 t3757, .int .i64 t3758, .int .i64 t3759, .bool t3760]) (ex_load aT43 gb3764 0 #[.int .i64 t3757, .int .i64 t3758, .int .i64 t3759, .bool t3760] #[.int .i64 t3757, .int .i64 t3758, .int .i64 t3759, .bool t3760] BKb3764.out (by simp) rfl _ rfl rfl) rfl ?_)
          | (go_at_call 37; clear k3780; refine (i_stip_Begins.calls t3757 t3758 t3759 t3760 t3766 _ A3771.out).mono ?_; rintro e_ w3781 ⟨rfl, hb_⟩; replace BKb3764 := hid (BKb3764.out.below hb_ BKb3764.out.lt); replace BKb3765 := hid (BKb3765.out.below hb_ BKb3765.out.lt); replace HL := hid (HL.out.trans (hb_.mono HL.out.size)); clear hb_)
          | ((with_reducible refine gate_d (N := 21) rfl ?_); refine ag_fix (.agg #[.int .i64 t3757, .int .i64 t3758, .int .i64 t3759, .bool t3760]) (ex_load aT43 gb3764 0 #[.int .i64 t3757, .int .i64 t3758, .int .i64 t3759, .bool t3760] #[.int .i64 t3757, .int .i64 t3758, .int .i64 t3759, .bool t3760] BKb3764.out (by simp) rfl _ rfl rfl) rfl ?_)
          | (go_at_call 38; clear k3782; refine (i_stip_Plies.calls t3757 t3758 t3759 t3760 t3767 _ A3773.out).mono ?_; rintro e_ w3783 ⟨rfl, hb_⟩; replace BKb3764 := hid (BKb3764.out.below hb_ BKb3764.out.lt); replace BKb3765 := hid (BKb3765.out.below hb_ BKb3765.out.lt); replace HL := hid (HL.out.trans (hb_.mono HL.out.size)); clear hb_))
        (try simp only [Act.put, List.setIfInBounds_toArray, List.set_cons_zero, List.set_cons_succ])
        go_ret
        exact ⟨by first | rfl | (simp; done) | (simp [*]; done), HL.out⟩
      · rw [if_neg c3772] at H
        have c3772b0 : (t3766 == 0) = false := beq_eq_false_iff_ne.mpr c3772
        have c3772b1 : (t3766 != 0) = true := bne_iff_ne.mpr c3772
        have hc3772 := hid c3772
        clear c3772
        obtain rfl := Option.some.inj H
        clear H
        go_enter Try.func21, Try.ntmps21
        have k3784 := True.intro
        have k3790 := True.intro
        go_wp2_with (first
          | (go_at_call 36; clear k3784; refine (i_stip_Read.calls k (⟨#[104, 35, 50, 46, 53]⟩ : ByteArray) 0 t3757 t3758 t3759 t3760 t3761 t3762 t3763 _ A3768.out).mono ?_; rintro e_ w3785 ⟨rfl, hb_⟩; replace HL := hid (HL.out.trans (hb_.mono HL.out.size)); clear hb_)
          | ((with_reducible refine gate_d (N := 1) rfl ?_); obtain ⟨gb3764, hgb3764⟩ : ∃ g_, w3785.heap.size = g_ := ⟨_, rfl⟩; refine ag_alloc aT43 gb3764 hgb3764 rfl rfl ?_; intro w3786 hb_ hB_ hs_; have GEb3764 : Hid (w.heap.size ≤ gb3764) := hid (by have := HL.out.size; omega); replace HL := hid (HL.out.trans (hb_.mono GEb3764.out)); have BKb3764 := hid hB_; clear hb_ hB_ hs_ hgb3764)
          | ((with_reducible refine gate_d (N := 2) rfl ?_); obtain ⟨gb3765, hgb3765⟩ : ∃ g_, w3786.heap.size = g_ := ⟨_, rfl⟩; refine ag_alloc aT26 gb3765 hgb3765 rfl rfl ?_; intro w3787 hb_ hB_ hs_; have GEb3765 : Hid (w.heap.size ≤ gb3765) := hid (by have := HL.out.size; omega); have NBb3764_b3765 : Hid (gb3764 ≠ gb3765) := hid (by have := BKb3764.out.lt; omega); have NBb3765_b3764 : Hid (gb3765 ≠ gb3764) := hid (by have := NBb3764_b3765.out; omega); replace BKb3764 := hid (BKb3764.out.below hb_ (by rw [← hgb3765]; exact BKb3764.out.lt)); replace HL := hid (HL.out.trans (hb_.mono GEb3765.out)); have BKb3765 := hid hB_; clear hb_ hB_ hs_ hgb3765)
          | ((with_reducible refine gate_s (t := 43) (p := 1) rfl ?_); refine ag_store aT43 gb3764 0 #[.int .i64 0, .int .i64 0, .int .i64 0, .bool false] #[.int .i64 t3757, .int .i64 t3758, .int .i64 t3759, .bool t3760] #[.int .i64 t3757, .int .i64 t3758, .int .i64 t3759, .bool t3760] BKb3764.out rfl (by simp) (by intro v_ hv_; simp at hv_; rcases hv_ with rfl | rfl | rfl | rfl <;> first | rfl) rfl rfl _ _ rfl rfl rfl ?_; intro w3788 ho_ hB_; replace BKb3765 := hid (BKb3765.out.off ho_ NBb3765_b3764.out); replace HL := hid (ho_.below HL.out GEb3764.out); replace BKb3764 := hid hB_; clear ho_ hB_)
          | ((with_reducible refine gate_s (t := 26) (p := 2) rfl ?_); refine ag_store aT26 gb3765 0 #[.int .i64 0, .int .i64 0, .int .i64 0] #[.int .i64 t3761, .int .i64 t3762, .int .i64 t3763] #[.int .i64 t3761, .int .i64 t3762, .int .i64 t3763] BKb3765.out rfl (by simp) (by intro v_ hv_; simp at hv_; rcases hv_ with rfl | rfl | rfl <;> first | rfl) rfl rfl _ _ rfl rfl rfl ?_; intro w3789 ho_ hB_; replace BKb3764 := hid (BKb3764.out.off ho_ NBb3764_b3765.out); replace HL := hid (ho_.below HL.out GEb3765.out); replace BKb3765 := hid hB_; clear ho_ hB_)
          | ((with_reducible refine gate_d (N := 7) rfl ?_); refine ag_fix (.agg #[.int .i64 t3757, .int .i64 t3758, .int .i64 t3759, .bool t3760]) (ex_load aT43 gb3764 0 #[.int .i64 t3757, .int .i64 t3758, .int .i64 t3759, .bool t3760] #[.int .i64 t3757, .int .i64 t3758, .int .i64 t3759, .bool t3760] BKb3764.out (by simp) rfl _ rfl rfl) rfl ?_)
          | ((with_reducible refine gate_d (N := 8) rfl ?_); refine ag_build (.agg #[.int .i64 5, .int .i64 1, .int .i64 2, .bool true]) _ rfl rfl ?_ ?_; (intro ww_; simp only [List.map_toArray, List.map_cons, List.map_nil]; kernel_rfl))
          | ((with_reducible refine gate_d (N := 9) rfl ?_); refine ag_fix (.bool true) (ex_eq .eql 43 (.agg #[.int .i64 t3757, .int .i64 t3758, .int .i64 t3759, .bool t3760]) (.agg #[.int .i64 5, .int .i64 1, .int .i64 2, .bool true]) (.bool true) (fun x_ y_ w_ => guard_any (by kernel_rfl) _ x_ y_ w_) (fun w_ => (eq_bin (fun d_ w2_ => eqS43 d_ w2_ t3757 5 t3758 1 t3759 2 t3760 true ) (by decide) w_).trans (by rw [show ((t3757 == 5) && ((t3758 == 1) && ((t3759 == 2) && ((t3760 == true))))) = true from hc3769.out])) _ _ _ rfl rfl rfl) rfl ?_)
          | ((with_reducible refine gate_d (N := 11) rfl ?_); refine ag_fix (.agg #[.int .i64 t3761, .int .i64 t3762, .int .i64 t3763]) (ex_load aT26 gb3765 0 #[.int .i64 t3761, .int .i64 t3762, .int .i64 t3763] #[.int .i64 t3761, .int .i64 t3762, .int .i64 t3763] BKb3765.out (by simp) rfl _ rfl rfl) rfl ?_)
          | ((with_reducible refine gate_d (N := 12) rfl ?_); refine ag_build (.agg #[.int .i64 5, .int .i64 0, .int .i64 0]) _ rfl rfl ?_ ?_; (intro ww_; simp only [List.map_toArray, List.map_cons, List.map_nil]; kernel_rfl))
          | ((with_reducible refine gate_d (N := 13) rfl ?_); refine ag_fix (.bool true) (ex_eq .eql 26 (.agg #[.int .i64 t3761, .int .i64 t3762, .int .i64 t3763]) (.agg #[.int .i64 5, .int .i64 0, .int .i64 0]) (.bool true) (fun x_ y_ w_ => guard_any (by kernel_rfl) _ x_ y_ w_) (fun w_ => (eq_bin (fun d_ w2_ => eqS26 d_ w2_ t3761 5 t3762 0 t3763 0 ) (by decide) w_).trans (by rw [show ((t3761 == 5) && ((t3762 == 0) && ((t3763 == 0)))) = true from hc3770.out])) _ _ _ rfl rfl rfl) rfl ?_)
          | ((with_reducible refine gate_d (N := 16) rfl ?_); refine ag_fix (.agg #[.int .i64 t3757, .int .i64 t3758, .int .i64 t3759, .bool t3760]) (ex_load aT43 gb3764 0 #[.int .i64 t3757, .int .i64 t3758, .int .i64 t3759, .bool t3760] #[.int .i64 t3757, .int .i64 t3758, .int .i64 t3759, .bool t3760] BKb3764.out (by simp) rfl _ rfl rfl) rfl ?_)
          | (go_at_call 37; clear k3790; refine (i_stip_Begins.calls t3757 t3758 t3759 t3760 t3766 _ A3771.out).mono ?_; rintro e_ w3791 ⟨rfl, hb_⟩; replace BKb3764 := hid (BKb3764.out.below hb_ BKb3764.out.lt); replace BKb3765 := hid (BKb3765.out.below hb_ BKb3765.out.lt); replace HL := hid (HL.out.trans (hb_.mono HL.out.size)); clear hb_))
        (try simp only [Act.put, List.setIfInBounds_toArray, List.set_cons_zero, List.set_cons_succ])
        go_ret
        exact ⟨by first | rfl | (simp; done) | (simp [*]; done), HL.out⟩
    · rw [if_neg c3770] at H
      have c3770b0 : ((t3761 == 5) && ((t3762 == 0) && ((t3763 == 0)))) = false := by simpa using c3770
      have hc3770 := hid c3770
      clear c3770
      obtain rfl := Option.some.inj H
      clear H
      go_enter Try.func21, Try.ntmps21
      have k3792 := True.intro
      go_wp2_with (first
        | (go_at_call 36; clear k3792; refine (i_stip_Read.calls k (⟨#[104, 35, 50, 46, 53]⟩ : ByteArray) 0 t3757 t3758 t3759 t3760 t3761 t3762 t3763 _ A3768.out).mono ?_; rintro e_ w3793 ⟨rfl, hb_⟩; replace HL := hid (HL.out.trans (hb_.mono HL.out.size)); clear hb_)
        | ((with_reducible refine gate_d (N := 1) rfl ?_); obtain ⟨gb3764, hgb3764⟩ : ∃ g_, w3793.heap.size = g_ := ⟨_, rfl⟩; refine ag_alloc aT43 gb3764 hgb3764 rfl rfl ?_; intro w3794 hb_ hB_ hs_; have GEb3764 : Hid (w.heap.size ≤ gb3764) := hid (by have := HL.out.size; omega); replace HL := hid (HL.out.trans (hb_.mono GEb3764.out)); have BKb3764 := hid hB_; clear hb_ hB_ hs_ hgb3764)
        | ((with_reducible refine gate_d (N := 2) rfl ?_); obtain ⟨gb3765, hgb3765⟩ : ∃ g_, w3794.heap.size = g_ := ⟨_, rfl⟩; refine ag_alloc aT26 gb3765 hgb3765 rfl rfl ?_; intro w3795 hb_ hB_ hs_; have GEb3765 : Hid (w.heap.size ≤ gb3765) := hid (by have := HL.out.size; omega); have NBb3764_b3765 : Hid (gb3764 ≠ gb3765) := hid (by have := BKb3764.out.lt; omega); have NBb3765_b3764 : Hid (gb3765 ≠ gb3764) := hid (by have := NBb3764_b3765.out; omega); replace BKb3764 := hid (BKb3764.out.below hb_ (by rw [← hgb3765]; exact BKb3764.out.lt)); replace HL := hid (HL.out.trans (hb_.mono GEb3765.out)); have BKb3765 := hid hB_; clear hb_ hB_ hs_ hgb3765)
        | ((with_reducible refine gate_s (t := 43) (p := 1) rfl ?_); refine ag_store aT43 gb3764 0 #[.int .i64 0, .int .i64 0, .int .i64 0, .bool false] #[.int .i64 t3757, .int .i64 t3758, .int .i64 t3759, .bool t3760] #[.int .i64 t3757, .int .i64 t3758, .int .i64 t3759, .bool t3760] BKb3764.out rfl (by simp) (by intro v_ hv_; simp at hv_; rcases hv_ with rfl | rfl | rfl | rfl <;> first | rfl) rfl rfl _ _ rfl rfl rfl ?_; intro w3796 ho_ hB_; replace BKb3765 := hid (BKb3765.out.off ho_ NBb3765_b3764.out); replace HL := hid (ho_.below HL.out GEb3764.out); replace BKb3764 := hid hB_; clear ho_ hB_)
        | ((with_reducible refine gate_s (t := 26) (p := 2) rfl ?_); refine ag_store aT26 gb3765 0 #[.int .i64 0, .int .i64 0, .int .i64 0] #[.int .i64 t3761, .int .i64 t3762, .int .i64 t3763] #[.int .i64 t3761, .int .i64 t3762, .int .i64 t3763] BKb3765.out rfl (by simp) (by intro v_ hv_; simp at hv_; rcases hv_ with rfl | rfl | rfl <;> first | rfl) rfl rfl _ _ rfl rfl rfl ?_; intro w3797 ho_ hB_; replace BKb3764 := hid (BKb3764.out.off ho_ NBb3764_b3765.out); replace HL := hid (ho_.below HL.out GEb3765.out); replace BKb3765 := hid hB_; clear ho_ hB_)
        | ((with_reducible refine gate_d (N := 7) rfl ?_); refine ag_fix (.agg #[.int .i64 t3757, .int .i64 t3758, .int .i64 t3759, .bool t3760]) (ex_load aT43 gb3764 0 #[.int .i64 t3757, .int .i64 t3758, .int .i64 t3759, .bool t3760] #[.int .i64 t3757, .int .i64 t3758, .int .i64 t3759, .bool t3760] BKb3764.out (by simp) rfl _ rfl rfl) rfl ?_)
        | ((with_reducible refine gate_d (N := 8) rfl ?_); refine ag_build (.agg #[.int .i64 5, .int .i64 1, .int .i64 2, .bool true]) _ rfl rfl ?_ ?_; (intro ww_; simp only [List.map_toArray, List.map_cons, List.map_nil]; kernel_rfl))
        | ((with_reducible refine gate_d (N := 9) rfl ?_); refine ag_fix (.bool true) (ex_eq .eql 43 (.agg #[.int .i64 t3757, .int .i64 t3758, .int .i64 t3759, .bool t3760]) (.agg #[.int .i64 5, .int .i64 1, .int .i64 2, .bool true]) (.bool true) (fun x_ y_ w_ => guard_any (by kernel_rfl) _ x_ y_ w_) (fun w_ => (eq_bin (fun d_ w2_ => eqS43 d_ w2_ t3757 5 t3758 1 t3759 2 t3760 true ) (by decide) w_).trans (by rw [show ((t3757 == 5) && ((t3758 == 1) && ((t3759 == 2) && ((t3760 == true))))) = true from hc3769.out])) _ _ _ rfl rfl rfl) rfl ?_)
        | ((with_reducible refine gate_d (N := 11) rfl ?_); refine ag_fix (.agg #[.int .i64 t3761, .int .i64 t3762, .int .i64 t3763]) (ex_load aT26 gb3765 0 #[.int .i64 t3761, .int .i64 t3762, .int .i64 t3763] #[.int .i64 t3761, .int .i64 t3762, .int .i64 t3763] BKb3765.out (by simp) rfl _ rfl rfl) rfl ?_)
        | ((with_reducible refine gate_d (N := 12) rfl ?_); refine ag_build (.agg #[.int .i64 5, .int .i64 0, .int .i64 0]) _ rfl rfl ?_ ?_; (intro ww_; simp only [List.map_toArray, List.map_cons, List.map_nil]; kernel_rfl))
        | ((with_reducible refine gate_d (N := 13) rfl ?_); refine ag_fix (.bool false) (ex_eq .eql 26 (.agg #[.int .i64 t3761, .int .i64 t3762, .int .i64 t3763]) (.agg #[.int .i64 5, .int .i64 0, .int .i64 0]) (.bool false) (fun x_ y_ w_ => guard_any (by kernel_rfl) _ x_ y_ w_) (fun w_ => (eq_bin (fun d_ w2_ => eqS26 d_ w2_ t3761 5 t3762 0 t3763 0 ) (by decide) w_).trans (by rw [show ((t3761 == 5) && ((t3762 == 0) && ((t3763 == 0)))) = false from Bool.eq_false_iff.mpr hc3770.out])) _ _ _ rfl rfl rfl) rfl ?_))
      (try simp only [Act.put, List.setIfInBounds_toArray, List.set_cons_zero, List.set_cons_succ])
      go_ret
      exact ⟨by first | rfl | (simp; done) | (simp [*]; done), HL.out⟩
  · rw [if_neg c3769] at H
    have c3769b0 : ((t3757 == 5) && ((t3758 == 1) && ((t3759 == 2) && ((t3760 == true))))) = false := by simpa using c3769
    have hc3769 := hid c3769
    clear c3769
    obtain rfl := Option.some.inj H
    clear H
    go_enter Try.func21, Try.ntmps21
    have k3798 := True.intro
    go_wp2_with (first
      | (go_at_call 36; clear k3798; refine (i_stip_Read.calls k (⟨#[104, 35, 50, 46, 53]⟩ : ByteArray) 0 t3757 t3758 t3759 t3760 t3761 t3762 t3763 _ A3768.out).mono ?_; rintro e_ w3799 ⟨rfl, hb_⟩; replace HL := hid (HL.out.trans (hb_.mono HL.out.size)); clear hb_)
      | ((with_reducible refine gate_d (N := 1) rfl ?_); obtain ⟨gb3764, hgb3764⟩ : ∃ g_, w3799.heap.size = g_ := ⟨_, rfl⟩; refine ag_alloc aT43 gb3764 hgb3764 rfl rfl ?_; intro w3800 hb_ hB_ hs_; have GEb3764 : Hid (w.heap.size ≤ gb3764) := hid (by have := HL.out.size; omega); replace HL := hid (HL.out.trans (hb_.mono GEb3764.out)); have BKb3764 := hid hB_; clear hb_ hB_ hs_ hgb3764)
      | ((with_reducible refine gate_d (N := 2) rfl ?_); obtain ⟨gb3765, hgb3765⟩ : ∃ g_, w3800.heap.size = g_ := ⟨_, rfl⟩; refine ag_alloc aT26 gb3765 hgb3765 rfl rfl ?_; intro w3801 hb_ hB_ hs_; have GEb3765 : Hid (w.heap.size ≤ gb3765) := hid (by have := HL.out.size; omega); have NBb3764_b3765 : Hid (gb3764 ≠ gb3765) := hid (by have := BKb3764.out.lt; omega); have NBb3765_b3764 : Hid (gb3765 ≠ gb3764) := hid (by have := NBb3764_b3765.out; omega); replace BKb3764 := hid (BKb3764.out.below hb_ (by rw [← hgb3765]; exact BKb3764.out.lt)); replace HL := hid (HL.out.trans (hb_.mono GEb3765.out)); have BKb3765 := hid hB_; clear hb_ hB_ hs_ hgb3765)
      | ((with_reducible refine gate_s (t := 43) (p := 1) rfl ?_); refine ag_store aT43 gb3764 0 #[.int .i64 0, .int .i64 0, .int .i64 0, .bool false] #[.int .i64 t3757, .int .i64 t3758, .int .i64 t3759, .bool t3760] #[.int .i64 t3757, .int .i64 t3758, .int .i64 t3759, .bool t3760] BKb3764.out rfl (by simp) (by intro v_ hv_; simp at hv_; rcases hv_ with rfl | rfl | rfl | rfl <;> first | rfl) rfl rfl _ _ rfl rfl rfl ?_; intro w3802 ho_ hB_; replace BKb3765 := hid (BKb3765.out.off ho_ NBb3765_b3764.out); replace HL := hid (ho_.below HL.out GEb3764.out); replace BKb3764 := hid hB_; clear ho_ hB_)
      | ((with_reducible refine gate_s (t := 26) (p := 2) rfl ?_); refine ag_store aT26 gb3765 0 #[.int .i64 0, .int .i64 0, .int .i64 0] #[.int .i64 t3761, .int .i64 t3762, .int .i64 t3763] #[.int .i64 t3761, .int .i64 t3762, .int .i64 t3763] BKb3765.out rfl (by simp) (by intro v_ hv_; simp at hv_; rcases hv_ with rfl | rfl | rfl <;> first | rfl) rfl rfl _ _ rfl rfl rfl ?_; intro w3803 ho_ hB_; replace BKb3764 := hid (BKb3764.out.off ho_ NBb3764_b3765.out); replace HL := hid (ho_.below HL.out GEb3765.out); replace BKb3765 := hid hB_; clear ho_ hB_)
      | ((with_reducible refine gate_d (N := 7) rfl ?_); refine ag_fix (.agg #[.int .i64 t3757, .int .i64 t3758, .int .i64 t3759, .bool t3760]) (ex_load aT43 gb3764 0 #[.int .i64 t3757, .int .i64 t3758, .int .i64 t3759, .bool t3760] #[.int .i64 t3757, .int .i64 t3758, .int .i64 t3759, .bool t3760] BKb3764.out (by simp) rfl _ rfl rfl) rfl ?_)
      | ((with_reducible refine gate_d (N := 8) rfl ?_); refine ag_build (.agg #[.int .i64 5, .int .i64 1, .int .i64 2, .bool true]) _ rfl rfl ?_ ?_; (intro ww_; simp only [List.map_toArray, List.map_cons, List.map_nil]; kernel_rfl))
      | ((with_reducible refine gate_d (N := 9) rfl ?_); refine ag_fix (.bool false) (ex_eq .eql 43 (.agg #[.int .i64 t3757, .int .i64 t3758, .int .i64 t3759, .bool t3760]) (.agg #[.int .i64 5, .int .i64 1, .int .i64 2, .bool true]) (.bool false) (fun x_ y_ w_ => guard_any (by kernel_rfl) _ x_ y_ w_) (fun w_ => (eq_bin (fun d_ w2_ => eqS43 d_ w2_ t3757 5 t3758 1 t3759 2 t3760 true ) (by decide) w_).trans (by rw [show ((t3757 == 5) && ((t3758 == 1) && ((t3759 == 2) && ((t3760 == true))))) = false from Bool.eq_false_iff.mpr hc3769.out])) _ _ _ rfl rfl rfl) rfl ?_))
    (try simp only [Act.put, List.setIfInBounds_toArray, List.set_cons_zero, List.set_cons_succ])
    go_ret
    exact ⟨by first | rfl | (simp; done) | (simp [*]; done), HL.out⟩
/-! i_alfillaw15_StipMovers: function 7 -/
def i_alfillaw15_StipMovers.f (k : Nat) (a0_0 : Int) (a0_1 : Int) (a0_2 : Int) (a0_3 : Bool) (a1 : Int) (a2 : Int) : Option (Bool) := (i_alfillaw15_wakes.f k).bind fun t3805 => (if t3805 = true then ((i_stip_Mover.f a0_0 a0_1 a0_2 a0_3 a1 a2).bind fun t3806 => ((i_alfilref15_Right.f a0_0 a0_1 a0_2 a0_3).bind fun t3807 => (if t3807 = true then (if a1 < 0 then (some (t3806 == (-1))) else (if a1 > 1 then (some (t3806 == (-1))) else (if a2 < 0 then (some (t3806 == (-1))) else ((i_alfilref15_Plies.f a0_0 a0_1 a0_2 a0_3).bind fun t3808 => (if a2 ≥ t3808 then (some (t3806 == (-1))) else (if a0_0 = 5 then (if (Int.tmod a2 2) = 1 then (some (t3806 == (wrap64 (1 - a1)))) else (if a0_0 = 6 then ((i_alfilref15_Plies.f a0_0 a0_1 a0_2 a0_3).bind fun t3809 => (if a2 = (wrap64 (t3809 - 1)) then (some (t3806 == (wrap64 (1 - a1)))) else (some (t3806 == a1)))) else (some (t3806 == a1)))) else (if a0_0 = 6 then ((i_alfilref15_Plies.f a0_0 a0_1 a0_2 a0_3).bind fun t3810 => (if a2 = (wrap64 (t3810 - 1)) then (some (t3806 == (wrap64 (1 - a1)))) else (some (t3806 == a1)))) else (some (t3806 == a1))))))))) else (some (t3806 == (-1)))))) else (some false))
set_option maxHeartbeats 40000000 in
set_option maxRecDepth 100000 in
theorem i_alfillaw15_StipMovers.calls (k : Nat) (a0_0 : Int) (a0_1 : Int) (a0_2 : Int) (a0_3 : Bool) (a1 : Int) (a2 : Int) (r1 : Bool) (w : World) (h : i_alfillaw15_StipMovers.f k a0_0 a0_1 a0_2 a0_3 a1 a2 = some r1) :
    Calls Try.prog 7 #[.agg #[.int .i64 a0_0, .int .i64 a0_1, .int .i64 a0_2, .bool a0_3], .int .i64 a1, .int .i64 a2] w fun e w' => e = .returned (.bool r1) ∧ Below w.heap.size w w' := by
  have HL := hid (Below.refl w.heap.size w)
  have H : ((i_alfillaw15_wakes.f k).bind fun t3805 => (if t3805 = true then ((i_stip_Mover.f a0_0 a0_1 a0_2 a0_3 a1 a2).bind fun t3806 => ((i_alfilref15_Right.f a0_0 a0_1 a0_2 a0_3).bind fun t3807 => (if t3807 = true then (if a1 < 0 then (some (t3806 == (-1))) else (if a1 > 1 then (some (t3806 == (-1))) else (if a2 < 0 then (some (t3806 == (-1))) else ((i_alfilref15_Plies.f a0_0 a0_1 a0_2 a0_3).bind fun t3808 => (if a2 ≥ t3808 then (some (t3806 == (-1))) else (if a0_0 = 5 then (if (Int.tmod a2 2) = 1 then (some (t3806 == (wrap64 (1 - a1)))) else (if a0_0 = 6 then ((i_alfilref15_Plies.f a0_0 a0_1 a0_2 a0_3).bind fun t3809 => (if a2 = (wrap64 (t3809 - 1)) then (some (t3806 == (wrap64 (1 - a1)))) else (some (t3806 == a1)))) else (some (t3806 == a1)))) else (if a0_0 = 6 then ((i_alfilref15_Plies.f a0_0 a0_1 a0_2 a0_3).bind fun t3810 => (if a2 = (wrap64 (t3810 - 1)) then (some (t3806 == (wrap64 (1 - a1)))) else (some (t3806 == a1)))) else (some (t3806 == a1))))))))) else (some (t3806 == (-1)))))) else (some false))) = some r1 := h
  clear h
  replace H := Option.bind_eq_some_iff.mp H
  obtain ⟨t3805, A3811_, H⟩ := H
  replace H : (if t3805 = true then ((i_stip_Mover.f a0_0 a0_1 a0_2 a0_3 a1 a2).bind fun t3806 => ((i_alfilref15_Right.f a0_0 a0_1 a0_2 a0_3).bind fun t3807 => (if t3807 = true then (if a1 < 0 then (some (t3806 == (-1))) else (if a1 > 1 then (some (t3806 == (-1))) else (if a2 < 0 then (some (t3806 == (-1))) else ((i_alfilref15_Plies.f a0_0 a0_1 a0_2 a0_3).bind fun t3808 => (if a2 ≥ t3808 then (some (t3806 == (-1))) else (if a0_0 = 5 then (if (Int.tmod a2 2) = 1 then (some (t3806 == (wrap64 (1 - a1)))) else (if a0_0 = 6 then ((i_alfilref15_Plies.f a0_0 a0_1 a0_2 a0_3).bind fun t3809 => (if a2 = (wrap64 (t3809 - 1)) then (some (t3806 == (wrap64 (1 - a1)))) else (some (t3806 == a1)))) else (some (t3806 == a1)))) else (if a0_0 = 6 then ((i_alfilref15_Plies.f a0_0 a0_1 a0_2 a0_3).bind fun t3810 => (if a2 = (wrap64 (t3810 - 1)) then (some (t3806 == (wrap64 (1 - a1)))) else (some (t3806 == a1)))) else (some (t3806 == a1))))))))) else (some (t3806 == (-1)))))) else (some false)) = some r1 := H
  have A3811 := hid A3811_
  clear A3811_
  cases t3805 with
  | true =>
    rw [if_pos rfl] at H
    replace H := Option.bind_eq_some_iff.mp H
    obtain ⟨t3806, A3813_, H⟩ := H
    replace H : ((i_alfilref15_Right.f a0_0 a0_1 a0_2 a0_3).bind fun t3807 => (if t3807 = true then (if a1 < 0 then (some (t3806 == (-1))) else (if a1 > 1 then (some (t3806 == (-1))) else (if a2 < 0 then (some (t3806 == (-1))) else ((i_alfilref15_Plies.f a0_0 a0_1 a0_2 a0_3).bind fun t3808 => (if a2 ≥ t3808 then (some (t3806 == (-1))) else (if a0_0 = 5 then (if (Int.tmod a2 2) = 1 then (some (t3806 == (wrap64 (1 - a1)))) else (if a0_0 = 6 then ((i_alfilref15_Plies.f a0_0 a0_1 a0_2 a0_3).bind fun t3809 => (if a2 = (wrap64 (t3809 - 1)) then (some (t3806 == (wrap64 (1 - a1)))) else (some (t3806 == a1)))) else (some (t3806 == a1)))) else (if a0_0 = 6 then ((i_alfilref15_Plies.f a0_0 a0_1 a0_2 a0_3).bind fun t3810 => (if a2 = (wrap64 (t3810 - 1)) then (some (t3806 == (wrap64 (1 - a1)))) else (some (t3806 == a1)))) else (some (t3806 == a1))))))))) else (some (t3806 == (-1))))) = some r1 := H
    have A3813 := hid A3813_
    clear A3813_
    replace H := Option.bind_eq_some_iff.mp H
    obtain ⟨t3807, A3814_, H⟩ := H
    replace H : (if t3807 = true then (if a1 < 0 then (some (t3806 == (-1))) else (if a1 > 1 then (some (t3806 == (-1))) else (if a2 < 0 then (some (t3806 == (-1))) else ((i_alfilref15_Plies.f a0_0 a0_1 a0_2 a0_3).bind fun t3808 => (if a2 ≥ t3808 then (some (t3806 == (-1))) else (if a0_0 = 5 then (if (Int.tmod a2 2) = 1 then (some (t3806 == (wrap64 (1 - a1)))) else (if a0_0 = 6 then ((i_alfilref15_Plies.f a0_0 a0_1 a0_2 a0_3).bind fun t3809 => (if a2 = (wrap64 (t3809 - 1)) then (some (t3806 == (wrap64 (1 - a1)))) else (some (t3806 == a1)))) else (some (t3806 == a1)))) else (if a0_0 = 6 then ((i_alfilref15_Plies.f a0_0 a0_1 a0_2 a0_3).bind fun t3810 => (if a2 = (wrap64 (t3810 - 1)) then (some (t3806 == (wrap64 (1 - a1)))) else (some (t3806 == a1)))) else (some (t3806 == a1))))))))) else (some (t3806 == (-1)))) = some r1 := H
    have A3814 := hid A3814_
    clear A3814_
    cases t3807 with
    | true =>
      rw [if_pos rfl] at H
      by_cases c3816 : a1 < 0
      · rw [if_pos c3816] at H
        have c3816b0 : decide (a1 < 0) = true := decide_eq_true c3816
        have hc3816 := hid c3816
        clear c3816
        obtain rfl := Option.some.inj H
        clear H
        go_enter Try.func7, Try.ntmps7
        have k3818 := True.intro
        have k3820 := True.intro
        have k3822 := True.intro
        go_wp2_with (first
          | ((with_reducible refine gate_d (N := 3) rfl ?_); obtain ⟨gb3804, hgb3804⟩ : ∃ g_, w.heap.size = g_ := ⟨_, rfl⟩; refine ag_box #[.int .i64 a0_0, .int .i64 a0_1, .int .i64 a0_2, .bool a0_3] gb3804 hgb3804 rfl _ rfl rfl ?_; intro w3817 hb_ hB_ hs_; have GEb3804 : Hid (w.heap.size ≤ gb3804) := hid (by have := HL.out.size; omega); replace HL := hid (HL.out.trans (hb_.mono GEb3804.out)); have BKb3804 := hid hB_; clear hb_ hB_ hs_ hgb3804)
          | (go_at_call 21; clear k3818; refine (i_alfillaw15_wakes.calls k true _ A3811.out).mono ?_; rintro e_ w3819 ⟨rfl, hb_⟩; replace BKb3804 := hid (BKb3804.out.below hb_ BKb3804.out.lt); replace HL := hid (HL.out.trans (hb_.mono HL.out.size)); clear hb_)
          | ((with_reducible refine gate_d (N := 11) rfl ?_); refine ag_fix (.agg #[.int .i64 a0_0, .int .i64 a0_1, .int .i64 a0_2, .bool a0_3]) (ex_load aT43 gb3804 0 #[.int .i64 a0_0, .int .i64 a0_1, .int .i64 a0_2, .bool a0_3] #[.int .i64 a0_0, .int .i64 a0_1, .int .i64 a0_2, .bool a0_3] BKb3804.out (by simp) rfl _ rfl rfl) rfl ?_)
          | (go_at_call 22; clear k3820; refine (i_stip_Mover.calls a0_0 a0_1 a0_2 a0_3 a1 a2 t3806 _ A3813.out).mono ?_; rintro e_ w3821 ⟨rfl, hb_⟩; replace BKb3804 := hid (BKb3804.out.below hb_ BKb3804.out.lt); replace HL := hid (HL.out.trans (hb_.mono HL.out.size)); clear hb_)
          | ((with_reducible refine gate_d (N := 15) rfl ?_); refine ag_fix (.agg #[.int .i64 a0_0, .int .i64 a0_1, .int .i64 a0_2, .bool a0_3]) (ex_load aT43 gb3804 0 #[.int .i64 a0_0, .int .i64 a0_1, .int .i64 a0_2, .bool a0_3] #[.int .i64 a0_0, .int .i64 a0_1, .int .i64 a0_2, .bool a0_3] BKb3804.out (by simp) rfl _ rfl rfl) rfl ?_)
          | (go_at_call 23; clear k3822; refine (i_alfilref15_Right.calls a0_0 a0_1 a0_2 a0_3 true _ A3814.out).mono ?_; rintro e_ w3823 ⟨rfl, hb_⟩; replace BKb3804 := hid (BKb3804.out.below hb_ BKb3804.out.lt); replace HL := hid (HL.out.trans (hb_.mono HL.out.size)); clear hb_))
        (try simp only [Act.put, List.setIfInBounds_toArray, List.set_cons_zero, List.set_cons_succ])
        go_ret
        exact ⟨by first | rfl | (simp; done) | (simp [*]; done), HL.out⟩
      · rw [if_neg c3816] at H
        have c3816b0 : decide (a1 < 0) = false := decide_eq_false c3816
        have hc3816 := hid c3816
        clear c3816
        by_cases c3824 : a1 > 1
        · rw [if_pos c3824] at H
          have c3824b0 : decide (1 < a1) = true := decide_eq_true c3824
          have hc3824 := hid c3824
          clear c3824
          obtain rfl := Option.some.inj H
          clear H
          go_enter Try.func7, Try.ntmps7
          have k3826 := True.intro
          have k3828 := True.intro
          have k3830 := True.intro
          go_wp2_with (first
            | ((with_reducible refine gate_d (N := 3) rfl ?_); obtain ⟨gb3804, hgb3804⟩ : ∃ g_, w.heap.size = g_ := ⟨_, rfl⟩; refine ag_box #[.int .i64 a0_0, .int .i64 a0_1, .int .i64 a0_2, .bool a0_3] gb3804 hgb3804 rfl _ rfl rfl ?_; intro w3825 hb_ hB_ hs_; have GEb3804 : Hid (w.heap.size ≤ gb3804) := hid (by have := HL.out.size; omega); replace HL := hid (HL.out.trans (hb_.mono GEb3804.out)); have BKb3804 := hid hB_; clear hb_ hB_ hs_ hgb3804)
            | (go_at_call 21; clear k3826; refine (i_alfillaw15_wakes.calls k true _ A3811.out).mono ?_; rintro e_ w3827 ⟨rfl, hb_⟩; replace BKb3804 := hid (BKb3804.out.below hb_ BKb3804.out.lt); replace HL := hid (HL.out.trans (hb_.mono HL.out.size)); clear hb_)
            | ((with_reducible refine gate_d (N := 11) rfl ?_); refine ag_fix (.agg #[.int .i64 a0_0, .int .i64 a0_1, .int .i64 a0_2, .bool a0_3]) (ex_load aT43 gb3804 0 #[.int .i64 a0_0, .int .i64 a0_1, .int .i64 a0_2, .bool a0_3] #[.int .i64 a0_0, .int .i64 a0_1, .int .i64 a0_2, .bool a0_3] BKb3804.out (by simp) rfl _ rfl rfl) rfl ?_)
            | (go_at_call 22; clear k3828; refine (i_stip_Mover.calls a0_0 a0_1 a0_2 a0_3 a1 a2 t3806 _ A3813.out).mono ?_; rintro e_ w3829 ⟨rfl, hb_⟩; replace BKb3804 := hid (BKb3804.out.below hb_ BKb3804.out.lt); replace HL := hid (HL.out.trans (hb_.mono HL.out.size)); clear hb_)
            | ((with_reducible refine gate_d (N := 15) rfl ?_); refine ag_fix (.agg #[.int .i64 a0_0, .int .i64 a0_1, .int .i64 a0_2, .bool a0_3]) (ex_load aT43 gb3804 0 #[.int .i64 a0_0, .int .i64 a0_1, .int .i64 a0_2, .bool a0_3] #[.int .i64 a0_0, .int .i64 a0_1, .int .i64 a0_2, .bool a0_3] BKb3804.out (by simp) rfl _ rfl rfl) rfl ?_)
            | (go_at_call 23; clear k3830; refine (i_alfilref15_Right.calls a0_0 a0_1 a0_2 a0_3 true _ A3814.out).mono ?_; rintro e_ w3831 ⟨rfl, hb_⟩; replace BKb3804 := hid (BKb3804.out.below hb_ BKb3804.out.lt); replace HL := hid (HL.out.trans (hb_.mono HL.out.size)); clear hb_))
          (try simp only [Act.put, List.setIfInBounds_toArray, List.set_cons_zero, List.set_cons_succ])
          go_ret
          exact ⟨by first | rfl | (simp; done) | (simp [*]; done), HL.out⟩
        · rw [if_neg c3824] at H
          have c3824b0 : decide (1 < a1) = false := decide_eq_false c3824
          have hc3824 := hid c3824
          clear c3824
          by_cases c3832 : a2 < 0
          · rw [if_pos c3832] at H
            have c3832b0 : decide (a2 < 0) = true := decide_eq_true c3832
            have hc3832 := hid c3832
            clear c3832
            obtain rfl := Option.some.inj H
            clear H
            go_enter Try.func7, Try.ntmps7
            have k3834 := True.intro
            have k3836 := True.intro
            have k3838 := True.intro
            go_wp2_with (first
              | ((with_reducible refine gate_d (N := 3) rfl ?_); obtain ⟨gb3804, hgb3804⟩ : ∃ g_, w.heap.size = g_ := ⟨_, rfl⟩; refine ag_box #[.int .i64 a0_0, .int .i64 a0_1, .int .i64 a0_2, .bool a0_3] gb3804 hgb3804 rfl _ rfl rfl ?_; intro w3833 hb_ hB_ hs_; have GEb3804 : Hid (w.heap.size ≤ gb3804) := hid (by have := HL.out.size; omega); replace HL := hid (HL.out.trans (hb_.mono GEb3804.out)); have BKb3804 := hid hB_; clear hb_ hB_ hs_ hgb3804)
              | (go_at_call 21; clear k3834; refine (i_alfillaw15_wakes.calls k true _ A3811.out).mono ?_; rintro e_ w3835 ⟨rfl, hb_⟩; replace BKb3804 := hid (BKb3804.out.below hb_ BKb3804.out.lt); replace HL := hid (HL.out.trans (hb_.mono HL.out.size)); clear hb_)
              | ((with_reducible refine gate_d (N := 11) rfl ?_); refine ag_fix (.agg #[.int .i64 a0_0, .int .i64 a0_1, .int .i64 a0_2, .bool a0_3]) (ex_load aT43 gb3804 0 #[.int .i64 a0_0, .int .i64 a0_1, .int .i64 a0_2, .bool a0_3] #[.int .i64 a0_0, .int .i64 a0_1, .int .i64 a0_2, .bool a0_3] BKb3804.out (by simp) rfl _ rfl rfl) rfl ?_)
              | (go_at_call 22; clear k3836; refine (i_stip_Mover.calls a0_0 a0_1 a0_2 a0_3 a1 a2 t3806 _ A3813.out).mono ?_; rintro e_ w3837 ⟨rfl, hb_⟩; replace BKb3804 := hid (BKb3804.out.below hb_ BKb3804.out.lt); replace HL := hid (HL.out.trans (hb_.mono HL.out.size)); clear hb_)
              | ((with_reducible refine gate_d (N := 15) rfl ?_); refine ag_fix (.agg #[.int .i64 a0_0, .int .i64 a0_1, .int .i64 a0_2, .bool a0_3]) (ex_load aT43 gb3804 0 #[.int .i64 a0_0, .int .i64 a0_1, .int .i64 a0_2, .bool a0_3] #[.int .i64 a0_0, .int .i64 a0_1, .int .i64 a0_2, .bool a0_3] BKb3804.out (by simp) rfl _ rfl rfl) rfl ?_)
              | (go_at_call 23; clear k3838; refine (i_alfilref15_Right.calls a0_0 a0_1 a0_2 a0_3 true _ A3814.out).mono ?_; rintro e_ w3839 ⟨rfl, hb_⟩; replace BKb3804 := hid (BKb3804.out.below hb_ BKb3804.out.lt); replace HL := hid (HL.out.trans (hb_.mono HL.out.size)); clear hb_))
            (try simp only [Act.put, List.setIfInBounds_toArray, List.set_cons_zero, List.set_cons_succ])
            go_ret
            exact ⟨by first | rfl | (simp; done) | (simp [*]; done), HL.out⟩
          · rw [if_neg c3832] at H
            have c3832b0 : decide (a2 < 0) = false := decide_eq_false c3832
            have hc3832 := hid c3832
            clear c3832
            replace H := Option.bind_eq_some_iff.mp H
            obtain ⟨t3808, A3840_, H⟩ := H
            replace H : (if a2 ≥ t3808 then (some (t3806 == (-1))) else (if a0_0 = 5 then (if (Int.tmod a2 2) = 1 then (some (t3806 == (wrap64 (1 - a1)))) else (if a0_0 = 6 then ((i_alfilref15_Plies.f a0_0 a0_1 a0_2 a0_3).bind fun t3809 => (if a2 = (wrap64 (t3809 - 1)) then (some (t3806 == (wrap64 (1 - a1)))) else (some (t3806 == a1)))) else (some (t3806 == a1)))) else (if a0_0 = 6 then ((i_alfilref15_Plies.f a0_0 a0_1 a0_2 a0_3).bind fun t3810 => (if a2 = (wrap64 (t3810 - 1)) then (some (t3806 == (wrap64 (1 - a1)))) else (some (t3806 == a1)))) else (some (t3806 == a1))))) = some r1 := H
            have A3840 := hid A3840_
            clear A3840_
            by_cases c3841 : a2 ≥ t3808
            · rw [if_pos c3841] at H
              have c3841b0 : decide (t3808 ≤ a2) = true := decide_eq_true c3841
              have hc3841 := hid c3841
              clear c3841
              obtain rfl := Option.some.inj H
              clear H
              go_enter Try.func7, Try.ntmps7
              have k3843 := True.intro
              have k3845 := True.intro
              have k3847 := True.intro
              have k3849 := True.intro
              go_wp2_with (first
                | ((with_reducible refine gate_d (N := 3) rfl ?_); obtain ⟨gb3804, hgb3804⟩ : ∃ g_, w.heap.size = g_ := ⟨_, rfl⟩; refine ag_box #[.int .i64 a0_0, .int .i64 a0_1, .int .i64 a0_2, .bool a0_3] gb3804 hgb3804 rfl _ rfl rfl ?_; intro w3842 hb_ hB_ hs_; have GEb3804 : Hid (w.heap.size ≤ gb3804) := hid (by have := HL.out.size; omega); replace HL := hid (HL.out.trans (hb_.mono GEb3804.out)); have BKb3804 := hid hB_; clear hb_ hB_ hs_ hgb3804)
                | (go_at_call 21; clear k3843; refine (i_alfillaw15_wakes.calls k true _ A3811.out).mono ?_; rintro e_ w3844 ⟨rfl, hb_⟩; replace BKb3804 := hid (BKb3804.out.below hb_ BKb3804.out.lt); replace HL := hid (HL.out.trans (hb_.mono HL.out.size)); clear hb_)
                | ((with_reducible refine gate_d (N := 11) rfl ?_); refine ag_fix (.agg #[.int .i64 a0_0, .int .i64 a0_1, .int .i64 a0_2, .bool a0_3]) (ex_load aT43 gb3804 0 #[.int .i64 a0_0, .int .i64 a0_1, .int .i64 a0_2, .bool a0_3] #[.int .i64 a0_0, .int .i64 a0_1, .int .i64 a0_2, .bool a0_3] BKb3804.out (by simp) rfl _ rfl rfl) rfl ?_)
                | (go_at_call 22; clear k3845; refine (i_stip_Mover.calls a0_0 a0_1 a0_2 a0_3 a1 a2 t3806 _ A3813.out).mono ?_; rintro e_ w3846 ⟨rfl, hb_⟩; replace BKb3804 := hid (BKb3804.out.below hb_ BKb3804.out.lt); replace HL := hid (HL.out.trans (hb_.mono HL.out.size)); clear hb_)
                | ((with_reducible refine gate_d (N := 15) rfl ?_); refine ag_fix (.agg #[.int .i64 a0_0, .int .i64 a0_1, .int .i64 a0_2, .bool a0_3]) (ex_load aT43 gb3804 0 #[.int .i64 a0_0, .int .i64 a0_1, .int .i64 a0_2, .bool a0_3] #[.int .i64 a0_0, .int .i64 a0_1, .int .i64 a0_2, .bool a0_3] BKb3804.out (by simp) rfl _ rfl rfl) rfl ?_)
                | (go_at_call 23; clear k3847; refine (i_alfilref15_Right.calls a0_0 a0_1 a0_2 a0_3 true _ A3814.out).mono ?_; rintro e_ w3848 ⟨rfl, hb_⟩; replace BKb3804 := hid (BKb3804.out.below hb_ BKb3804.out.lt); replace HL := hid (HL.out.trans (hb_.mono HL.out.size)); clear hb_)
                | ((with_reducible refine gate_d (N := 32) rfl ?_); refine ag_fix (.agg #[.int .i64 a0_0, .int .i64 a0_1, .int .i64 a0_2, .bool a0_3]) (ex_load aT43 gb3804 0 #[.int .i64 a0_0, .int .i64 a0_1, .int .i64 a0_2, .bool a0_3] #[.int .i64 a0_0, .int .i64 a0_1, .int .i64 a0_2, .bool a0_3] BKb3804.out (by simp) rfl _ rfl rfl) rfl ?_)
                | (go_at_call 24; clear k3849; refine (i_alfilref15_Plies.calls a0_0 a0_1 a0_2 a0_3 t3808 _ A3840.out).mono ?_; rintro e_ w3850 ⟨rfl, hb_⟩; replace BKb3804 := hid (BKb3804.out.below hb_ BKb3804.out.lt); replace HL := hid (HL.out.trans (hb_.mono HL.out.size)); clear hb_))
              (try simp only [Act.put, List.setIfInBounds_toArray, List.set_cons_zero, List.set_cons_succ])
              go_ret
              exact ⟨by first | rfl | (simp; done) | (simp [*]; done), HL.out⟩
            · rw [if_neg c3841] at H
              have c3841b0 : decide (t3808 ≤ a2) = false := decide_eq_false c3841
              have hc3841 := hid c3841
              clear c3841
              by_cases c3851 : a0_0 = 5
              · rw [if_pos c3851] at H
                have c3851b0 : (a0_0 == 5) = true := beq_iff_eq.mpr c3851
                have c3851b1 : (a0_0 != 5) = false := bne_eq_false_iff_eq.mpr c3851
                have hc3851 := hid c3851
                clear c3851
                by_cases c3852 : (Int.tmod a2 2) = 1
                · rw [if_pos c3852] at H
                  have c3852b0 : ((Int.tmod a2 2) == 1) = true := beq_iff_eq.mpr c3852
                  have c3852b1 : ((Int.tmod a2 2) != 1) = false := bne_eq_false_iff_eq.mpr c3852
                  have hc3852 := hid c3852
                  clear c3852
                  obtain rfl := Option.some.inj H
                  clear H
                  go_enter Try.func7, Try.ntmps7
                  have k3854 := True.intro
                  have k3856 := True.intro
                  have k3858 := True.intro
                  have k3860 := True.intro
                  go_wp2_with (first
                    | ((with_reducible refine gate_d (N := 3) rfl ?_); obtain ⟨gb3804, hgb3804⟩ : ∃ g_, w.heap.size = g_ := ⟨_, rfl⟩; refine ag_box #[.int .i64 a0_0, .int .i64 a0_1, .int .i64 a0_2, .bool a0_3] gb3804 hgb3804 rfl _ rfl rfl ?_; intro w3853 hb_ hB_ hs_; have GEb3804 : Hid (w.heap.size ≤ gb3804) := hid (by have := HL.out.size; omega); replace HL := hid (HL.out.trans (hb_.mono GEb3804.out)); have BKb3804 := hid hB_; clear hb_ hB_ hs_ hgb3804)
                    | (go_at_call 21; clear k3854; refine (i_alfillaw15_wakes.calls k true _ A3811.out).mono ?_; rintro e_ w3855 ⟨rfl, hb_⟩; replace BKb3804 := hid (BKb3804.out.below hb_ BKb3804.out.lt); replace HL := hid (HL.out.trans (hb_.mono HL.out.size)); clear hb_)
                    | ((with_reducible refine gate_d (N := 11) rfl ?_); refine ag_fix (.agg #[.int .i64 a0_0, .int .i64 a0_1, .int .i64 a0_2, .bool a0_3]) (ex_load aT43 gb3804 0 #[.int .i64 a0_0, .int .i64 a0_1, .int .i64 a0_2, .bool a0_3] #[.int .i64 a0_0, .int .i64 a0_1, .int .i64 a0_2, .bool a0_3] BKb3804.out (by simp) rfl _ rfl rfl) rfl ?_)
                    | (go_at_call 22; clear k3856; refine (i_stip_Mover.calls a0_0 a0_1 a0_2 a0_3 a1 a2 t3806 _ A3813.out).mono ?_; rintro e_ w3857 ⟨rfl, hb_⟩; replace BKb3804 := hid (BKb3804.out.below hb_ BKb3804.out.lt); replace HL := hid (HL.out.trans (hb_.mono HL.out.size)); clear hb_)
                    | ((with_reducible refine gate_d (N := 15) rfl ?_); refine ag_fix (.agg #[.int .i64 a0_0, .int .i64 a0_1, .int .i64 a0_2, .bool a0_3]) (ex_load aT43 gb3804 0 #[.int .i64 a0_0, .int .i64 a0_1, .int .i64 a0_2, .bool a0_3] #[.int .i64 a0_0, .int .i64 a0_1, .int .i64 a0_2, .bool a0_3] BKb3804.out (by simp) rfl _ rfl rfl) rfl ?_)
                    | (go_at_call 23; clear k3858; refine (i_alfilref15_Right.calls a0_0 a0_1 a0_2 a0_3 true _ A3814.out).mono ?_; rintro e_ w3859 ⟨rfl, hb_⟩; replace BKb3804 := hid (BKb3804.out.below hb_ BKb3804.out.lt); replace HL := hid (HL.out.trans (hb_.mono HL.out.size)); clear hb_)
                    | ((with_reducible refine gate_d (N := 32) rfl ?_); refine ag_fix (.agg #[.int .i64 a0_0, .int .i64 a0_1, .int .i64 a0_2, .bool a0_3]) (ex_load aT43 gb3804 0 #[.int .i64 a0_0, .int .i64 a0_1, .int .i64 a0_2, .bool a0_3] #[.int .i64 a0_0, .int .i64 a0_1, .int .i64 a0_2, .bool a0_3] BKb3804.out (by simp) rfl _ rfl rfl) rfl ?_)
                    | (go_at_call 24; clear k3860; refine (i_alfilref15_Plies.calls a0_0 a0_1 a0_2 a0_3 t3808 _ A3840.out).mono ?_; rintro e_ w3861 ⟨rfl, hb_⟩; replace BKb3804 := hid (BKb3804.out.below hb_ BKb3804.out.lt); replace HL := hid (HL.out.trans (hb_.mono HL.out.size)); clear hb_)
                    | ((with_reducible refine gate_d (N := 39) rfl ?_); refine ag_fix (.pointer (some ⟨gb3804, 0, none⟩)) (ex_field 43 0 (.pointer (some ⟨gb3804, 0, none⟩)) (.pointer (some ⟨gb3804, 0, none⟩)) (fa43_0_0 gb3804) _ rfl rfl) rfl ?_)
                    | ((with_reducible refine gate_d (N := 40) rfl ?_); refine ag_fix (.int .i64 a0_0) (ex_get sT3 gb3804 (0) (.int .i64 a0_0) (#[.int .i64 a0_0, .int .i64 a0_1, .int .i64 a0_2, .bool a0_3]) BKb3804.out rfl _ rfl rfl) rfl ?_))
                  (try simp only [Act.put, List.setIfInBounds_toArray, List.set_cons_zero, List.set_cons_succ])
                  go_ret
                  exact ⟨by first | rfl | (simp; done) | (simp [*]; done), HL.out⟩
                · rw [if_neg c3852] at H
                  have c3852b0 : ((Int.tmod a2 2) == 1) = false := beq_eq_false_iff_ne.mpr c3852
                  have c3852b1 : ((Int.tmod a2 2) != 1) = true := bne_iff_ne.mpr c3852
                  have hc3852 := hid c3852
                  clear c3852
                  by_cases c3862 : a0_0 = 6
                  · rw [if_pos c3862] at H
                    exfalso
                    clear H
                    have := hc3851.out; omega
                  · rw [if_neg c3862] at H
                    have c3862b0 : (a0_0 == 6) = false := beq_eq_false_iff_ne.mpr c3862
                    have c3862b1 : (a0_0 != 6) = true := bne_iff_ne.mpr c3862
                    have hc3862 := hid c3862
                    clear c3862
                    obtain rfl := Option.some.inj H
                    clear H
                    go_enter Try.func7, Try.ntmps7
                    have k3864 := True.intro
                    have k3866 := True.intro
                    have k3868 := True.intro
                    have k3870 := True.intro
                    go_wp2_with (first
                      | ((with_reducible refine gate_d (N := 3) rfl ?_); obtain ⟨gb3804, hgb3804⟩ : ∃ g_, w.heap.size = g_ := ⟨_, rfl⟩; refine ag_box #[.int .i64 a0_0, .int .i64 a0_1, .int .i64 a0_2, .bool a0_3] gb3804 hgb3804 rfl _ rfl rfl ?_; intro w3863 hb_ hB_ hs_; have GEb3804 : Hid (w.heap.size ≤ gb3804) := hid (by have := HL.out.size; omega); replace HL := hid (HL.out.trans (hb_.mono GEb3804.out)); have BKb3804 := hid hB_; clear hb_ hB_ hs_ hgb3804)
                      | (go_at_call 21; clear k3864; refine (i_alfillaw15_wakes.calls k true _ A3811.out).mono ?_; rintro e_ w3865 ⟨rfl, hb_⟩; replace BKb3804 := hid (BKb3804.out.below hb_ BKb3804.out.lt); replace HL := hid (HL.out.trans (hb_.mono HL.out.size)); clear hb_)
                      | ((with_reducible refine gate_d (N := 11) rfl ?_); refine ag_fix (.agg #[.int .i64 a0_0, .int .i64 a0_1, .int .i64 a0_2, .bool a0_3]) (ex_load aT43 gb3804 0 #[.int .i64 a0_0, .int .i64 a0_1, .int .i64 a0_2, .bool a0_3] #[.int .i64 a0_0, .int .i64 a0_1, .int .i64 a0_2, .bool a0_3] BKb3804.out (by simp) rfl _ rfl rfl) rfl ?_)
                      | (go_at_call 22; clear k3866; refine (i_stip_Mover.calls a0_0 a0_1 a0_2 a0_3 a1 a2 t3806 _ A3813.out).mono ?_; rintro e_ w3867 ⟨rfl, hb_⟩; replace BKb3804 := hid (BKb3804.out.below hb_ BKb3804.out.lt); replace HL := hid (HL.out.trans (hb_.mono HL.out.size)); clear hb_)
                      | ((with_reducible refine gate_d (N := 15) rfl ?_); refine ag_fix (.agg #[.int .i64 a0_0, .int .i64 a0_1, .int .i64 a0_2, .bool a0_3]) (ex_load aT43 gb3804 0 #[.int .i64 a0_0, .int .i64 a0_1, .int .i64 a0_2, .bool a0_3] #[.int .i64 a0_0, .int .i64 a0_1, .int .i64 a0_2, .bool a0_3] BKb3804.out (by simp) rfl _ rfl rfl) rfl ?_)
                      | (go_at_call 23; clear k3868; refine (i_alfilref15_Right.calls a0_0 a0_1 a0_2 a0_3 true _ A3814.out).mono ?_; rintro e_ w3869 ⟨rfl, hb_⟩; replace BKb3804 := hid (BKb3804.out.below hb_ BKb3804.out.lt); replace HL := hid (HL.out.trans (hb_.mono HL.out.size)); clear hb_)
                      | ((with_reducible refine gate_d (N := 32) rfl ?_); refine ag_fix (.agg #[.int .i64 a0_0, .int .i64 a0_1, .int .i64 a0_2, .bool a0_3]) (ex_load aT43 gb3804 0 #[.int .i64 a0_0, .int .i64 a0_1, .int .i64 a0_2, .bool a0_3] #[.int .i64 a0_0, .int .i64 a0_1, .int .i64 a0_2, .bool a0_3] BKb3804.out (by simp) rfl _ rfl rfl) rfl ?_)
                      | (go_at_call 24; clear k3870; refine (i_alfilref15_Plies.calls a0_0 a0_1 a0_2 a0_3 t3808 _ A3840.out).mono ?_; rintro e_ w3871 ⟨rfl, hb_⟩; replace BKb3804 := hid (BKb3804.out.below hb_ BKb3804.out.lt); replace HL := hid (HL.out.trans (hb_.mono HL.out.size)); clear hb_)
                      | ((with_reducible refine gate_d (N := 39) rfl ?_); refine ag_fix (.pointer (some ⟨gb3804, 0, none⟩)) (ex_field 43 0 (.pointer (some ⟨gb3804, 0, none⟩)) (.pointer (some ⟨gb3804, 0, none⟩)) (fa43_0_0 gb3804) _ rfl rfl) rfl ?_)
                      | ((with_reducible refine gate_d (N := 40) rfl ?_); refine ag_fix (.int .i64 a0_0) (ex_get sT3 gb3804 (0) (.int .i64 a0_0) (#[.int .i64 a0_0, .int .i64 a0_1, .int .i64 a0_2, .bool a0_3]) BKb3804.out rfl _ rfl rfl) rfl ?_)
                      | ((with_reducible refine gate_d (N := 48) rfl ?_); refine ag_fix (.pointer (some ⟨gb3804, 0, none⟩)) (ex_field 43 0 (.pointer (some ⟨gb3804, 0, none⟩)) (.pointer (some ⟨gb3804, 0, none⟩)) (fa43_0_0 gb3804) _ rfl rfl) rfl ?_)
                      | ((with_reducible refine gate_d (N := 49) rfl ?_); refine ag_fix (.int .i64 a0_0) (ex_get sT3 gb3804 (0) (.int .i64 a0_0) (#[.int .i64 a0_0, .int .i64 a0_1, .int .i64 a0_2, .bool a0_3]) BKb3804.out rfl _ rfl rfl) rfl ?_))
                    (try simp only [Act.put, List.setIfInBounds_toArray, List.set_cons_zero, List.set_cons_succ])
                    go_ret
                    exact ⟨by first | rfl | (simp; done) | (simp [*]; done), HL.out⟩
              · rw [if_neg c3851] at H
                have c3851b0 : (a0_0 == 5) = false := beq_eq_false_iff_ne.mpr c3851
                have c3851b1 : (a0_0 != 5) = true := bne_iff_ne.mpr c3851
                have hc3851 := hid c3851
                clear c3851
                by_cases c3872 : a0_0 = 6
                · rw [if_pos c3872] at H
                  have c3872b0 : (a0_0 == 6) = true := beq_iff_eq.mpr c3872
                  have c3872b1 : (a0_0 != 6) = false := bne_eq_false_iff_eq.mpr c3872
                  have hc3872 := hid c3872
                  clear c3872
                  replace H := Option.bind_eq_some_iff.mp H
                  obtain ⟨t3810, A3873_, H⟩ := H
                  replace H : (if a2 = (wrap64 (t3810 - 1)) then (some (t3806 == (wrap64 (1 - a1)))) else (some (t3806 == a1))) = some r1 := H
                  have A3873 := hid A3873_
                  clear A3873_
                  by_cases c3874 : a2 = (wrap64 (t3810 - 1))
                  · rw [if_pos c3874] at H
                    have c3874b0 : (a2 == (wrap64 (t3810 - 1))) = true := beq_iff_eq.mpr c3874
                    have c3874b1 : (a2 != (wrap64 (t3810 - 1))) = false := bne_eq_false_iff_eq.mpr c3874
                    have hc3874 := hid c3874
                    clear c3874
                    obtain rfl := Option.some.inj H
                    clear H
                    go_enter Try.func7, Try.ntmps7
                    have k3876 := True.intro
                    have k3878 := True.intro
                    have k3880 := True.intro
                    have k3882 := True.intro
                    have k3884 := True.intro
                    go_wp2_with (first
                      | ((with_reducible refine gate_d (N := 3) rfl ?_); obtain ⟨gb3804, hgb3804⟩ : ∃ g_, w.heap.size = g_ := ⟨_, rfl⟩; refine ag_box #[.int .i64 a0_0, .int .i64 a0_1, .int .i64 a0_2, .bool a0_3] gb3804 hgb3804 rfl _ rfl rfl ?_; intro w3875 hb_ hB_ hs_; have GEb3804 : Hid (w.heap.size ≤ gb3804) := hid (by have := HL.out.size; omega); replace HL := hid (HL.out.trans (hb_.mono GEb3804.out)); have BKb3804 := hid hB_; clear hb_ hB_ hs_ hgb3804)
                      | (go_at_call 21; clear k3876; refine (i_alfillaw15_wakes.calls k true _ A3811.out).mono ?_; rintro e_ w3877 ⟨rfl, hb_⟩; replace BKb3804 := hid (BKb3804.out.below hb_ BKb3804.out.lt); replace HL := hid (HL.out.trans (hb_.mono HL.out.size)); clear hb_)
                      | ((with_reducible refine gate_d (N := 11) rfl ?_); refine ag_fix (.agg #[.int .i64 a0_0, .int .i64 a0_1, .int .i64 a0_2, .bool a0_3]) (ex_load aT43 gb3804 0 #[.int .i64 a0_0, .int .i64 a0_1, .int .i64 a0_2, .bool a0_3] #[.int .i64 a0_0, .int .i64 a0_1, .int .i64 a0_2, .bool a0_3] BKb3804.out (by simp) rfl _ rfl rfl) rfl ?_)
                      | (go_at_call 22; clear k3878; refine (i_stip_Mover.calls a0_0 a0_1 a0_2 a0_3 a1 a2 t3806 _ A3813.out).mono ?_; rintro e_ w3879 ⟨rfl, hb_⟩; replace BKb3804 := hid (BKb3804.out.below hb_ BKb3804.out.lt); replace HL := hid (HL.out.trans (hb_.mono HL.out.size)); clear hb_)
                      | ((with_reducible refine gate_d (N := 15) rfl ?_); refine ag_fix (.agg #[.int .i64 a0_0, .int .i64 a0_1, .int .i64 a0_2, .bool a0_3]) (ex_load aT43 gb3804 0 #[.int .i64 a0_0, .int .i64 a0_1, .int .i64 a0_2, .bool a0_3] #[.int .i64 a0_0, .int .i64 a0_1, .int .i64 a0_2, .bool a0_3] BKb3804.out (by simp) rfl _ rfl rfl) rfl ?_)
                      | (go_at_call 23; clear k3880; refine (i_alfilref15_Right.calls a0_0 a0_1 a0_2 a0_3 true _ A3814.out).mono ?_; rintro e_ w3881 ⟨rfl, hb_⟩; replace BKb3804 := hid (BKb3804.out.below hb_ BKb3804.out.lt); replace HL := hid (HL.out.trans (hb_.mono HL.out.size)); clear hb_)
                      | ((with_reducible refine gate_d (N := 32) rfl ?_); refine ag_fix (.agg #[.int .i64 a0_0, .int .i64 a0_1, .int .i64 a0_2, .bool a0_3]) (ex_load aT43 gb3804 0 #[.int .i64 a0_0, .int .i64 a0_1, .int .i64 a0_2, .bool a0_3] #[.int .i64 a0_0, .int .i64 a0_1, .int .i64 a0_2, .bool a0_3] BKb3804.out (by simp) rfl _ rfl rfl) rfl ?_)
                      | (go_at_call 24; clear k3882; refine (i_alfilref15_Plies.calls a0_0 a0_1 a0_2 a0_3 t3808 _ A3840.out).mono ?_; rintro e_ w3883 ⟨rfl, hb_⟩; replace BKb3804 := hid (BKb3804.out.below hb_ BKb3804.out.lt); replace HL := hid (HL.out.trans (hb_.mono HL.out.size)); clear hb_)
                      | ((with_reducible refine gate_d (N := 39) rfl ?_); refine ag_fix (.pointer (some ⟨gb3804, 0, none⟩)) (ex_field 43 0 (.pointer (some ⟨gb3804, 0, none⟩)) (.pointer (some ⟨gb3804, 0, none⟩)) (fa43_0_0 gb3804) _ rfl rfl) rfl ?_)
                      | ((with_reducible refine gate_d (N := 40) rfl ?_); refine ag_fix (.int .i64 a0_0) (ex_get sT3 gb3804 (0) (.int .i64 a0_0) (#[.int .i64 a0_0, .int .i64 a0_1, .int .i64 a0_2, .bool a0_3]) BKb3804.out rfl _ rfl rfl) rfl ?_)
                      | ((with_reducible refine gate_d (N := 48) rfl ?_); refine ag_fix (.pointer (some ⟨gb3804, 0, none⟩)) (ex_field 43 0 (.pointer (some ⟨gb3804, 0, none⟩)) (.pointer (some ⟨gb3804, 0, none⟩)) (fa43_0_0 gb3804) _ rfl rfl) rfl ?_)
                      | ((with_reducible refine gate_d (N := 49) rfl ?_); refine ag_fix (.int .i64 a0_0) (ex_get sT3 gb3804 (0) (.int .i64 a0_0) (#[.int .i64 a0_0, .int .i64 a0_1, .int .i64 a0_2, .bool a0_3]) BKb3804.out rfl _ rfl rfl) rfl ?_)
                      | ((with_reducible refine gate_d (N := 53) rfl ?_); refine ag_fix (.agg #[.int .i64 a0_0, .int .i64 a0_1, .int .i64 a0_2, .bool a0_3]) (ex_load aT43 gb3804 0 #[.int .i64 a0_0, .int .i64 a0_1, .int .i64 a0_2, .bool a0_3] #[.int .i64 a0_0, .int .i64 a0_1, .int .i64 a0_2, .bool a0_3] BKb3804.out (by simp) rfl _ rfl rfl) rfl ?_)
                      | (go_at_call 24; clear k3884; refine (i_alfilref15_Plies.calls a0_0 a0_1 a0_2 a0_3 t3810 _ A3873.out).mono ?_; rintro e_ w3885 ⟨rfl, hb_⟩; replace BKb3804 := hid (BKb3804.out.below hb_ BKb3804.out.lt); replace HL := hid (HL.out.trans (hb_.mono HL.out.size)); clear hb_))
                    (try simp only [Act.put, List.setIfInBounds_toArray, List.set_cons_zero, List.set_cons_succ])
                    go_ret
                    exact ⟨by first | rfl | (simp; done) | (simp [*]; done), HL.out⟩
                  · rw [if_neg c3874] at H
                    have c3874b0 : (a2 == (wrap64 (t3810 - 1))) = false := beq_eq_false_iff_ne.mpr c3874
                    have c3874b1 : (a2 != (wrap64 (t3810 - 1))) = true := bne_iff_ne.mpr c3874
                    have hc3874 := hid c3874
                    clear c3874
                    obtain rfl := Option.some.inj H
                    clear H
                    go_enter Try.func7, Try.ntmps7
                    have k3887 := True.intro
                    have k3889 := True.intro
                    have k3891 := True.intro
                    have k3893 := True.intro
                    have k3895 := True.intro
                    go_wp2_with (first
                      | ((with_reducible refine gate_d (N := 3) rfl ?_); obtain ⟨gb3804, hgb3804⟩ : ∃ g_, w.heap.size = g_ := ⟨_, rfl⟩; refine ag_box #[.int .i64 a0_0, .int .i64 a0_1, .int .i64 a0_2, .bool a0_3] gb3804 hgb3804 rfl _ rfl rfl ?_; intro w3886 hb_ hB_ hs_; have GEb3804 : Hid (w.heap.size ≤ gb3804) := hid (by have := HL.out.size; omega); replace HL := hid (HL.out.trans (hb_.mono GEb3804.out)); have BKb3804 := hid hB_; clear hb_ hB_ hs_ hgb3804)
                      | (go_at_call 21; clear k3887; refine (i_alfillaw15_wakes.calls k true _ A3811.out).mono ?_; rintro e_ w3888 ⟨rfl, hb_⟩; replace BKb3804 := hid (BKb3804.out.below hb_ BKb3804.out.lt); replace HL := hid (HL.out.trans (hb_.mono HL.out.size)); clear hb_)
                      | ((with_reducible refine gate_d (N := 11) rfl ?_); refine ag_fix (.agg #[.int .i64 a0_0, .int .i64 a0_1, .int .i64 a0_2, .bool a0_3]) (ex_load aT43 gb3804 0 #[.int .i64 a0_0, .int .i64 a0_1, .int .i64 a0_2, .bool a0_3] #[.int .i64 a0_0, .int .i64 a0_1, .int .i64 a0_2, .bool a0_3] BKb3804.out (by simp) rfl _ rfl rfl) rfl ?_)
                      | (go_at_call 22; clear k3889; refine (i_stip_Mover.calls a0_0 a0_1 a0_2 a0_3 a1 a2 t3806 _ A3813.out).mono ?_; rintro e_ w3890 ⟨rfl, hb_⟩; replace BKb3804 := hid (BKb3804.out.below hb_ BKb3804.out.lt); replace HL := hid (HL.out.trans (hb_.mono HL.out.size)); clear hb_)
                      | ((with_reducible refine gate_d (N := 15) rfl ?_); refine ag_fix (.agg #[.int .i64 a0_0, .int .i64 a0_1, .int .i64 a0_2, .bool a0_3]) (ex_load aT43 gb3804 0 #[.int .i64 a0_0, .int .i64 a0_1, .int .i64 a0_2, .bool a0_3] #[.int .i64 a0_0, .int .i64 a0_1, .int .i64 a0_2, .bool a0_3] BKb3804.out (by simp) rfl _ rfl rfl) rfl ?_)
                      | (go_at_call 23; clear k3891; refine (i_alfilref15_Right.calls a0_0 a0_1 a0_2 a0_3 true _ A3814.out).mono ?_; rintro e_ w3892 ⟨rfl, hb_⟩; replace BKb3804 := hid (BKb3804.out.below hb_ BKb3804.out.lt); replace HL := hid (HL.out.trans (hb_.mono HL.out.size)); clear hb_)
                      | ((with_reducible refine gate_d (N := 32) rfl ?_); refine ag_fix (.agg #[.int .i64 a0_0, .int .i64 a0_1, .int .i64 a0_2, .bool a0_3]) (ex_load aT43 gb3804 0 #[.int .i64 a0_0, .int .i64 a0_1, .int .i64 a0_2, .bool a0_3] #[.int .i64 a0_0, .int .i64 a0_1, .int .i64 a0_2, .bool a0_3] BKb3804.out (by simp) rfl _ rfl rfl) rfl ?_)
                      | (go_at_call 24; clear k3893; refine (i_alfilref15_Plies.calls a0_0 a0_1 a0_2 a0_3 t3808 _ A3840.out).mono ?_; rintro e_ w3894 ⟨rfl, hb_⟩; replace BKb3804 := hid (BKb3804.out.below hb_ BKb3804.out.lt); replace HL := hid (HL.out.trans (hb_.mono HL.out.size)); clear hb_)
                      | ((with_reducible refine gate_d (N := 39) rfl ?_); refine ag_fix (.pointer (some ⟨gb3804, 0, none⟩)) (ex_field 43 0 (.pointer (some ⟨gb3804, 0, none⟩)) (.pointer (some ⟨gb3804, 0, none⟩)) (fa43_0_0 gb3804) _ rfl rfl) rfl ?_)
                      | ((with_reducible refine gate_d (N := 40) rfl ?_); refine ag_fix (.int .i64 a0_0) (ex_get sT3 gb3804 (0) (.int .i64 a0_0) (#[.int .i64 a0_0, .int .i64 a0_1, .int .i64 a0_2, .bool a0_3]) BKb3804.out rfl _ rfl rfl) rfl ?_)
                      | ((with_reducible refine gate_d (N := 48) rfl ?_); refine ag_fix (.pointer (some ⟨gb3804, 0, none⟩)) (ex_field 43 0 (.pointer (some ⟨gb3804, 0, none⟩)) (.pointer (some ⟨gb3804, 0, none⟩)) (fa43_0_0 gb3804) _ rfl rfl) rfl ?_)
                      | ((with_reducible refine gate_d (N := 49) rfl ?_); refine ag_fix (.int .i64 a0_0) (ex_get sT3 gb3804 (0) (.int .i64 a0_0) (#[.int .i64 a0_0, .int .i64 a0_1, .int .i64 a0_2, .bool a0_3]) BKb3804.out rfl _ rfl rfl) rfl ?_)
                      | ((with_reducible refine gate_d (N := 53) rfl ?_); refine ag_fix (.agg #[.int .i64 a0_0, .int .i64 a0_1, .int .i64 a0_2, .bool a0_3]) (ex_load aT43 gb3804 0 #[.int .i64 a0_0, .int .i64 a0_1, .int .i64 a0_2, .bool a0_3] #[.int .i64 a0_0, .int .i64 a0_1, .int .i64 a0_2, .bool a0_3] BKb3804.out (by simp) rfl _ rfl rfl) rfl ?_)
                      | (go_at_call 24; clear k3895; refine (i_alfilref15_Plies.calls a0_0 a0_1 a0_2 a0_3 t3810 _ A3873.out).mono ?_; rintro e_ w3896 ⟨rfl, hb_⟩; replace BKb3804 := hid (BKb3804.out.below hb_ BKb3804.out.lt); replace HL := hid (HL.out.trans (hb_.mono HL.out.size)); clear hb_))
                    (try simp only [Act.put, List.setIfInBounds_toArray, List.set_cons_zero, List.set_cons_succ])
                    go_ret
                    exact ⟨by first | rfl | (simp; done) | (simp [*]; done), HL.out⟩
                · rw [if_neg c3872] at H
                  have c3872b0 : (a0_0 == 6) = false := beq_eq_false_iff_ne.mpr c3872
                  have c3872b1 : (a0_0 != 6) = true := bne_iff_ne.mpr c3872
                  have hc3872 := hid c3872
                  clear c3872
                  obtain rfl := Option.some.inj H
                  clear H
                  go_enter Try.func7, Try.ntmps7
                  have k3898 := True.intro
                  have k3900 := True.intro
                  have k3902 := True.intro
                  have k3904 := True.intro
                  go_wp2_with (first
                    | ((with_reducible refine gate_d (N := 3) rfl ?_); obtain ⟨gb3804, hgb3804⟩ : ∃ g_, w.heap.size = g_ := ⟨_, rfl⟩; refine ag_box #[.int .i64 a0_0, .int .i64 a0_1, .int .i64 a0_2, .bool a0_3] gb3804 hgb3804 rfl _ rfl rfl ?_; intro w3897 hb_ hB_ hs_; have GEb3804 : Hid (w.heap.size ≤ gb3804) := hid (by have := HL.out.size; omega); replace HL := hid (HL.out.trans (hb_.mono GEb3804.out)); have BKb3804 := hid hB_; clear hb_ hB_ hs_ hgb3804)
                    | (go_at_call 21; clear k3898; refine (i_alfillaw15_wakes.calls k true _ A3811.out).mono ?_; rintro e_ w3899 ⟨rfl, hb_⟩; replace BKb3804 := hid (BKb3804.out.below hb_ BKb3804.out.lt); replace HL := hid (HL.out.trans (hb_.mono HL.out.size)); clear hb_)
                    | ((with_reducible refine gate_d (N := 11) rfl ?_); refine ag_fix (.agg #[.int .i64 a0_0, .int .i64 a0_1, .int .i64 a0_2, .bool a0_3]) (ex_load aT43 gb3804 0 #[.int .i64 a0_0, .int .i64 a0_1, .int .i64 a0_2, .bool a0_3] #[.int .i64 a0_0, .int .i64 a0_1, .int .i64 a0_2, .bool a0_3] BKb3804.out (by simp) rfl _ rfl rfl) rfl ?_)
                    | (go_at_call 22; clear k3900; refine (i_stip_Mover.calls a0_0 a0_1 a0_2 a0_3 a1 a2 t3806 _ A3813.out).mono ?_; rintro e_ w3901 ⟨rfl, hb_⟩; replace BKb3804 := hid (BKb3804.out.below hb_ BKb3804.out.lt); replace HL := hid (HL.out.trans (hb_.mono HL.out.size)); clear hb_)
                    | ((with_reducible refine gate_d (N := 15) rfl ?_); refine ag_fix (.agg #[.int .i64 a0_0, .int .i64 a0_1, .int .i64 a0_2, .bool a0_3]) (ex_load aT43 gb3804 0 #[.int .i64 a0_0, .int .i64 a0_1, .int .i64 a0_2, .bool a0_3] #[.int .i64 a0_0, .int .i64 a0_1, .int .i64 a0_2, .bool a0_3] BKb3804.out (by simp) rfl _ rfl rfl) rfl ?_)
                    | (go_at_call 23; clear k3902; refine (i_alfilref15_Right.calls a0_0 a0_1 a0_2 a0_3 true _ A3814.out).mono ?_; rintro e_ w3903 ⟨rfl, hb_⟩; replace BKb3804 := hid (BKb3804.out.below hb_ BKb3804.out.lt); replace HL := hid (HL.out.trans (hb_.mono HL.out.size)); clear hb_)
                    | ((with_reducible refine gate_d (N := 32) rfl ?_); refine ag_fix (.agg #[.int .i64 a0_0, .int .i64 a0_1, .int .i64 a0_2, .bool a0_3]) (ex_load aT43 gb3804 0 #[.int .i64 a0_0, .int .i64 a0_1, .int .i64 a0_2, .bool a0_3] #[.int .i64 a0_0, .int .i64 a0_1, .int .i64 a0_2, .bool a0_3] BKb3804.out (by simp) rfl _ rfl rfl) rfl ?_)
                    | (go_at_call 24; clear k3904; refine (i_alfilref15_Plies.calls a0_0 a0_1 a0_2 a0_3 t3808 _ A3840.out).mono ?_; rintro e_ w3905 ⟨rfl, hb_⟩; replace BKb3804 := hid (BKb3804.out.below hb_ BKb3804.out.lt); replace HL := hid (HL.out.trans (hb_.mono HL.out.size)); clear hb_)
                    | ((with_reducible refine gate_d (N := 39) rfl ?_); refine ag_fix (.pointer (some ⟨gb3804, 0, none⟩)) (ex_field 43 0 (.pointer (some ⟨gb3804, 0, none⟩)) (.pointer (some ⟨gb3804, 0, none⟩)) (fa43_0_0 gb3804) _ rfl rfl) rfl ?_)
                    | ((with_reducible refine gate_d (N := 40) rfl ?_); refine ag_fix (.int .i64 a0_0) (ex_get sT3 gb3804 (0) (.int .i64 a0_0) (#[.int .i64 a0_0, .int .i64 a0_1, .int .i64 a0_2, .bool a0_3]) BKb3804.out rfl _ rfl rfl) rfl ?_)
                    | ((with_reducible refine gate_d (N := 48) rfl ?_); refine ag_fix (.pointer (some ⟨gb3804, 0, none⟩)) (ex_field 43 0 (.pointer (some ⟨gb3804, 0, none⟩)) (.pointer (some ⟨gb3804, 0, none⟩)) (fa43_0_0 gb3804) _ rfl rfl) rfl ?_)
                    | ((with_reducible refine gate_d (N := 49) rfl ?_); refine ag_fix (.int .i64 a0_0) (ex_get sT3 gb3804 (0) (.int .i64 a0_0) (#[.int .i64 a0_0, .int .i64 a0_1, .int .i64 a0_2, .bool a0_3]) BKb3804.out rfl _ rfl rfl) rfl ?_))
                  (try simp only [Act.put, List.setIfInBounds_toArray, List.set_cons_zero, List.set_cons_succ])
                  go_ret
                  exact ⟨by first | rfl | (simp; done) | (simp [*]; done), HL.out⟩
    | false =>
      rw [if_neg (show ¬ (false = true) by decide)] at H
      obtain rfl := Option.some.inj H
      clear H
      go_enter Try.func7, Try.ntmps7
      have k3907 := True.intro
      have k3909 := True.intro
      have k3911 := True.intro
      go_wp2_with (first
        | ((with_reducible refine gate_d (N := 3) rfl ?_); obtain ⟨gb3804, hgb3804⟩ : ∃ g_, w.heap.size = g_ := ⟨_, rfl⟩; refine ag_box #[.int .i64 a0_0, .int .i64 a0_1, .int .i64 a0_2, .bool a0_3] gb3804 hgb3804 rfl _ rfl rfl ?_; intro w3906 hb_ hB_ hs_; have GEb3804 : Hid (w.heap.size ≤ gb3804) := hid (by have := HL.out.size; omega); replace HL := hid (HL.out.trans (hb_.mono GEb3804.out)); have BKb3804 := hid hB_; clear hb_ hB_ hs_ hgb3804)
        | (go_at_call 21; clear k3907; refine (i_alfillaw15_wakes.calls k true _ A3811.out).mono ?_; rintro e_ w3908 ⟨rfl, hb_⟩; replace BKb3804 := hid (BKb3804.out.below hb_ BKb3804.out.lt); replace HL := hid (HL.out.trans (hb_.mono HL.out.size)); clear hb_)
        | ((with_reducible refine gate_d (N := 11) rfl ?_); refine ag_fix (.agg #[.int .i64 a0_0, .int .i64 a0_1, .int .i64 a0_2, .bool a0_3]) (ex_load aT43 gb3804 0 #[.int .i64 a0_0, .int .i64 a0_1, .int .i64 a0_2, .bool a0_3] #[.int .i64 a0_0, .int .i64 a0_1, .int .i64 a0_2, .bool a0_3] BKb3804.out (by simp) rfl _ rfl rfl) rfl ?_)
        | (go_at_call 22; clear k3909; refine (i_stip_Mover.calls a0_0 a0_1 a0_2 a0_3 a1 a2 t3806 _ A3813.out).mono ?_; rintro e_ w3910 ⟨rfl, hb_⟩; replace BKb3804 := hid (BKb3804.out.below hb_ BKb3804.out.lt); replace HL := hid (HL.out.trans (hb_.mono HL.out.size)); clear hb_)
        | ((with_reducible refine gate_d (N := 15) rfl ?_); refine ag_fix (.agg #[.int .i64 a0_0, .int .i64 a0_1, .int .i64 a0_2, .bool a0_3]) (ex_load aT43 gb3804 0 #[.int .i64 a0_0, .int .i64 a0_1, .int .i64 a0_2, .bool a0_3] #[.int .i64 a0_0, .int .i64 a0_1, .int .i64 a0_2, .bool a0_3] BKb3804.out (by simp) rfl _ rfl rfl) rfl ?_)
        | (go_at_call 23; clear k3911; refine (i_alfilref15_Right.calls a0_0 a0_1 a0_2 a0_3 false _ A3814.out).mono ?_; rintro e_ w3912 ⟨rfl, hb_⟩; replace BKb3804 := hid (BKb3804.out.below hb_ BKb3804.out.lt); replace HL := hid (HL.out.trans (hb_.mono HL.out.size)); clear hb_))
      (try simp only [Act.put, List.setIfInBounds_toArray, List.set_cons_zero, List.set_cons_succ])
      go_ret
      exact ⟨by first | rfl | (simp; done) | (simp [*]; done), HL.out⟩
  | false =>
    rw [if_neg (show ¬ (false = true) by decide)] at H
    obtain rfl := Option.some.inj H
    clear H
    go_enter Try.func7, Try.ntmps7
    have k3914 := True.intro
    go_wp2_with (first
      | ((with_reducible refine gate_d (N := 3) rfl ?_); obtain ⟨gb3804, hgb3804⟩ : ∃ g_, w.heap.size = g_ := ⟨_, rfl⟩; refine ag_box #[.int .i64 a0_0, .int .i64 a0_1, .int .i64 a0_2, .bool a0_3] gb3804 hgb3804 rfl _ rfl rfl ?_; intro w3913 hb_ hB_ hs_; have GEb3804 : Hid (w.heap.size ≤ gb3804) := hid (by have := HL.out.size; omega); replace HL := hid (HL.out.trans (hb_.mono GEb3804.out)); have BKb3804 := hid hB_; clear hb_ hB_ hs_ hgb3804)
      | (go_at_call 21; clear k3914; refine (i_alfillaw15_wakes.calls k false _ A3811.out).mono ?_; rintro e_ w3915 ⟨rfl, hb_⟩; replace BKb3804 := hid (BKb3804.out.below hb_ BKb3804.out.lt); replace HL := hid (HL.out.trans (hb_.mono HL.out.size)); clear hb_))
    (try simp only [Act.put, List.setIfInBounds_toArray, List.set_cons_zero, List.set_cons_succ])
    go_ret
    exact ⟨by first | rfl | (simp; done) | (simp [*]; done), HL.out⟩
end Go.Proofs.Ytabbkeliknidgaa
