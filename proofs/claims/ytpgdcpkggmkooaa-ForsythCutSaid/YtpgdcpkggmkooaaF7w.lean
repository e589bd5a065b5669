/- The walks of the laws of package forsyth: reading. -/
import Derived.Test.YtpgdcpkggmkooaaProg
import Derived.Test.YtpgdcpkggmkooaaF2w
import Derived.Test.YtpgdcpkggmkooaaF6w
namespace Go.Proofs.Ytpgdcpkggmkooaa
open Go.RowKit
set_option linter.unusedVariables false
set_option linter.unusedSimpArgs false

/-! i_alfillaw04_wakes: function 36 -/
def i_alfillaw04_wakes.f (k : Nat)  : Option (Bool) := (i_forsyth_Read.f k (⟨#[56, 47, 56, 47, 56, 47, 56, 47, 56, 47, 56, 47, 56, 47, 52, 75, 50, 107]⟩ : ByteArray)).bind fun bt452 => ((i_forsyth_Read.f k (⟨#[56, 47, 57]⟩ : ByteArray)).bind fun bt456 => (if (nt bt452.1 4 0) = 6 then (if (nt bt452.1 7 0) = (-6) then (if bt452.2.1 = 18 then (if bt452.2.2 = 0 then (if bt456.2.1 = 2 then (some (bt456.2.2 == 2)) else (some false)) else (some false)) else (some false)) else (some false)) else (some false)))
set_option maxHeartbeats 40000000 in
set_option maxRecDepth 100000 in
theorem i_alfillaw04_wakes.calls (k : Nat) (r1 : Bool) (w : World) (h : i_alfillaw04_wakes.f k = some r1) :
    Calls Try.prog 36 #[] w fun e w' => e = .returned (.bool r1) ∧ Below w.heap.size w w' := by
  have HL := hid (Below.refl w.heap.size w)
  have H : ((i_forsyth_Read.f k (⟨#[56, 47, 56, 47, 56, 47, 56, 47, 56, 47, 56, 47, 56, 47, 52, 75, 50, 107]⟩ : ByteArray)).bind fun bt452 => ((i_forsyth_Read.f k (⟨#[56, 47, 57]⟩ : ByteArray)).bind fun bt456 => (if (nt bt452.1 4 0) = 6 then (if (nt bt452.1 7 0) = (-6) then (if bt452.2.1 = 18 then (if bt452.2.2 = 0 then (if bt456.2.1 = 2 then (some (bt456.2.2 == 2)) else (some false)) else (some false)) else (some false)) else (some false)) else (some false)))) = some r1 := h
  clear h
  replace H := Option.bind_eq_some_iff.mp H
  obtain ⟨⟨t452, t453, t454⟩, A460_, H⟩ := H
  replace H : ((i_forsyth_Read.f k (⟨#[56, 47, 57]⟩ : ByteArray)).bind fun bt456 => (if (nt t452 4 0) = 6 then (if (nt t452 7 0) = (-6) then (if t453 = 18 then (if t454 = 0 then (if bt456.2.1 = 2 then (some (bt456.2.2 == 2)) else (some false)) else (some false)) else (some false)) else (some false)) else (some false))) = some r1 := H
  have A460 := hid A460_
  clear A460_
  replace H := Option.bind_eq_some_iff.mp H
  obtain ⟨⟨t456, t457, t458⟩, A461_, H⟩ := H
  replace H : (if (nt t452 4 0) = 6 then (if (nt t452 7 0) = (-6) then (if t453 = 18 then (if t454 = 0 then (if t457 = 2 then (some (t458 == 2)) else (some false)) else (some false)) else (some false)) else (some false)) else (some false)) = some r1 := H
  have A461 := hid A461_
  clear A461_
  by_cases c462 : (nt t452 4 0) = 6
  · rw [if_pos c462] at H
    have c462b0 : ((nt t452 4 0) == 6) = true := beq_iff_eq.mpr c462
    have c462b1 : ((nt t452 4 0) != 6) = false := bne_eq_false_iff_eq.mpr c462
    have hc462 := hid c462
    clear c462
    by_cases c463 : (nt t452 7 0) = (-6)
    · rw [if_pos c463] at H
      have c463b0 : ((nt t452 7 0) == (-6)) = true := beq_iff_eq.mpr c463
      have c463b1 : ((nt t452 7 0) != (-6)) = false := bne_eq_false_iff_eq.mpr c463
      have hc463 := hid c463
      clear c463
      by_cases c464 : t453 = 18
      · rw [if_pos c464] at H
        have c464b0 : (t453 == 18) = true := beq_iff_eq.mpr c464
        have c464b1 : (t453 != 18) = false := bne_eq_false_iff_eq.mpr c464
        have hc464 := hid c464
        clear c464
        by_cases c465 : t454 = 0
        · rw [if_pos c465] at H
          have c465b0 : (t454 == 0) = true := beq_iff_eq.mpr c465
          have c465b1 : (t454 != 0) = false := bne_eq_false_iff_eq.mpr c465
          have hc465 := hid c465
          clear c465
          by_cases c466 : t457 = 2
          · rw [if_pos c466] at H
            have c466b0 : (t457 == 2) = true := beq_iff_eq.mpr c466
            have c466b1 : (t457 != 2) = false := bne_eq_false_iff_eq.mpr c466
            have hc466 := hid c466
            clear c466
            obtain rfl := Option.some.inj H
            clear H
            go_enter Try.func36, Try.ntmps36
            have k467 := True.intro
            have k471 := True.intro
            go_wp2_with (first
              | (go_at_call 37; clear k467; refine (i_forsyth_Read.calls k (⟨#[56, 47, 56, 47, 56, 47, 56, 47, 56, 47, 56, 47, 56, 47, 52, 75, 50, 107]⟩ : ByteArray) t452 t453 t454 _ A460.out).mono ?_; rintro e_ w468 ⟨rfl, ln_t452, hb_⟩; have LN_t452 := hid ln_t452; clear ln_t452; replace HL := hid (HL.out.trans (hb_.mono HL.out.size)); clear hb_)
              | ((with_reducible refine gate_d (N := 1) rfl ?_); obtain ⟨gb455, hgb455⟩ : ∃ g_, w468.heap.size = g_ := ⟨_, rfl⟩; refine ag_alloc boardT gb455 hgb455 rfl rfl ?_; intro w469 hb_ hB_ hs_; have GEb455 : Hid (w.heap.size ≤ gb455) := hid (by have := HL.out.size; omega); replace HL := hid (HL.out.trans (hb_.mono GEb455.out)); have BKb455 := hid hB_; clear hb_ hB_ hs_ hgb455)
              | ((with_reducible refine gate_s (t := 24) (p := 1) rfl ?_); refine ag_store boardT gb455 0 (bv zL) (bv t452) (bv t452) BKb455.out (by rw [show (bv t452) = av (Value.int .i8) t452 from rfl, av_size]; exact (by first | rfl | (simp only [List.length_set, List.length_replicate, zL_len, List.length_cons, List.length_nil, LN_t452.out]; done) | (simp [zL_len, LN_t452.out]; done))) (av_le (by first | rfl | (simp only [List.length_set, List.length_replicate, zL_len, List.length_cons, List.length_nil, LN_t452.out]; done) | (simp [zL_len, LN_t452.out]; done))) (av_one (fun _ => rfl)) (av_put (by first | rfl | (simp only [List.length_set, List.length_replicate, zL_len, List.length_cons, List.length_nil, LN_t452.out]; done) | (simp [zL_len, LN_t452.out]; done)) (by first | rfl | (simp only [List.length_set, List.length_replicate, zL_len, List.length_cons, List.length_nil, LN_t452.out]; done) | (simp [zL_len, LN_t452.out]; done))) rfl _ _ rfl rfl rfl ?_; intro w470 ho_ hB_; replace HL := hid (ho_.below HL.out GEb455.out); replace BKb455 := hid hB_; clear ho_ hB_)
              | (go_at_call 37; clear k471; refine (i_forsyth_Read.calls k (⟨#[56, 47, 57]⟩ : ByteArray) t456 t457 t458 _ A461.out).mono ?_; rintro e_ w472 ⟨rfl, ln_t456, hb_⟩; have LN_t456 := hid ln_t456; clear ln_t456; replace BKb455 := hid (BKb455.out.below hb_ BKb455.out.lt); replace HL := hid (HL.out.trans (hb_.mono HL.out.size)); clear hb_)
              | ((with_reducible refine gate_d (N := 4) rfl ?_); obtain ⟨gb459, hgb459⟩ : ∃ g_, w472.heap.size = g_ := ⟨_, rfl⟩; refine ag_alloc boardT gb459 hgb459 rfl rfl ?_; intro w473 hb_ hB_ hs_; have GEb459 : Hid (w.heap.size ≤ gb459) := hid (by have := HL.out.size; omega); have NBb455_b459 : Hid (gb455 ≠ gb459) := hid (by have := BKb455.out.lt; omega); have NBb459_b455 : Hid (gb459 ≠ gb455) := hid (by have := NBb455_b459.out; omega); replace BKb455 := hid (BKb455.out.below hb_ (by rw [← hgb459]; exact BKb455.out.lt)); replace HL := hid (HL.out.trans (hb_.mono GEb459.out)); have BKb459 := hid hB_; clear hb_ hB_ hs_ hgb459)
              | ((with_reducible refine gate_s (t := 24) (p := 4) rfl ?_); refine ag_store boardT gb459 0 (bv zL) (bv t456) (bv t456) BKb459.out (by rw [show (bv t456) = av (Value.int .i8) t456 from rfl, av_size]; exact (by first | rfl | (simp only [List.length_set, List.length_replicate, zL_len, List.length_cons, List.length_nil, LN_t452.out, LN_t456.out]; done) | (simp [zL_len, LN_t452.out, LN_t456.out]; done))) (av_le (by first | rfl | (simp only [List.length_set, List.length_replicate, zL_len, List.length_cons, List.length_nil, LN_t452.out, LN_t456.out]; done) | (simp [zL_len, LN_t452.out, LN_t456.out]; done))) (av_one (fun _ => rfl)) (av_put (by first | rfl | (simp only [List.length_set, List.length_replicate, zL_len, List.length_cons, List.length_nil, LN_t452.out, LN_t456.out]; done) | (simp [zL_len, LN_t452.out, LN_t456.out]; done)) (by first | rfl | (simp only [List.length_set, List.length_replicate, zL_len, List.length_cons, List.length_nil, LN_t452.out, LN_t456.out]; done) | (simp [zL_len, LN_t452.out, LN_t456.out]; done))) rfl _ _ rfl rfl rfl ?_; intro w474 ho_ hB_; replace BKb455 := hid (BKb455.out.off ho_ NBb455_b459.out); replace HL := hid (ho_.below HL.out GEb459.out); replace BKb459 := hid hB_; clear ho_ hB_)
              | ((with_reducible refine gate_d (N := 17) rfl ?_); refine ag_fix (.pointer (some ⟨gb455, 4, none⟩)) (ex_at 24 (.pointer (some ⟨gb455, 0, none⟩)) (.int .i64 4) (.pointer (some ⟨gb455, 4, none⟩)) (fun w_ => (run_atv 22 uT24 sT22.size gb455 0 4 (by omega) (by omega) w_).trans rfl) _ _ rfl rfl rfl) rfl ?_)
              | ((with_reducible refine gate_d (N := 18) rfl ?_); refine ag_fix (.int .i8 (nt t452 4 0)) (ex_get sT22 gb455 (4) (.int .i8 (nt t452 4 0)) ((bv t452)) BKb455.out (av_get 0 (by have h_ : t452.length = 64 := (by first | rfl | (simp only [List.length_set, List.length_replicate, zL_len, List.length_cons, List.length_nil, LN_t452.out, LN_t456.out]; done) | (simp [zL_len, LN_t452.out, LN_t456.out]; done)); omega)) _ rfl rfl) rfl ?_)
              | ((with_reducible refine gate_d (N := 21) rfl ?_); refine ag_fix (.pointer (some ⟨gb455, 7, none⟩)) (ex_at 24 (.pointer (some ⟨gb455, 0, none⟩)) (.int .i64 7) (.pointer (some ⟨gb455, 7, none⟩)) (fun w_ => (run_atv 22 uT24 sT22.size gb455 0 7 (by omega) (by omega) w_).trans rfl) _ _ rfl rfl rfl) rfl ?_)
              | ((with_reducible refine gate_d (N := 22) rfl ?_); refine ag_fix (.int .i8 (nt t452 7 0)) (ex_get sT22 gb455 (7) (.int .i8 (nt t452 7 0)) ((bv t452)) BKb455.out (av_get 0 (by have h_ : t452.length = 64 := (by first | rfl | (simp only [List.length_set, List.length_replicate, zL_len, List.length_cons, List.length_nil, LN_t452.out, LN_t456.out]; done) | (simp [zL_len, LN_t452.out, LN_t456.out]; done)); omega)) _ rfl rfl) rfl ?_))
            (try simp only [Act.put, List.setIfInBounds_toArray, List.set_cons_zero, List.set_cons_succ])
            go_ret
            exact ⟨by first | rfl | (simp; done) | (simp [*]; done), HL.out⟩
          · rw [if_neg c466] at H
            have c466b0 : (t457 == 2) = false := beq_eq_false_iff_ne.mpr c466
            have c466b1 : (t457 != 2) = true := bne_iff_ne.mpr c466
            have hc466 := hid c466
            clear c466
            obtain rfl := Option.some.inj H
            clear H
            go_enter Try.func36, Try.ntmps36
            have k475 := True.intro
            have k479 := True.intro
            go_wp2_with (first
              | (go_at_call 37; clear k475; refine (i_forsyth_Read.calls k (⟨#[56, 47, 56, 47, 56, 47, 56, 47, 56, 47, 56, 47, 56, 47, 52, 75, 50, 107]⟩ : ByteArray) t452 t453 t454 _ A460.out).mono ?_; rintro e_ w476 ⟨rfl, ln_t452, hb_⟩; have LN_t452 := hid ln_t452; clear ln_t452; replace HL := hid (HL.out.trans (hb_.mono HL.out.size)); clear hb_)
              | ((with_reducible refine gate_d (N := 1) rfl ?_); obtain ⟨gb455, hgb455⟩ : ∃ g_, w476.heap.size = g_ := ⟨_, rfl⟩; refine ag_alloc boardT gb455 hgb455 rfl rfl ?_; intro w477 hb_ hB_ hs_; have GEb455 : Hid (w.heap.size ≤ gb455) := hid (by have := HL.out.size; omega); replace HL := hid (HL.out.trans (hb_.mono GEb455.out)); have BKb455 := hid hB_; clear hb_ hB_ hs_ hgb455)
              | ((with_reducible refine gate_s (t := 24) (p := 1) rfl ?_); refine ag_store boardT gb455 0 (bv zL) (bv t452) (bv t452) BKb455.out (by rw [show (bv t452) = av (Value.int .i8) t452 from rfl, av_size]; exact (by first | rfl | (simp only [List.length_set, List.length_replicate, zL_len, List.length_cons, List.length_nil, LN_t452.out]; done) | (simp [zL_len, LN_t452.out]; done))) (av_le (by first | rfl | (simp only [List.length_set, List.length_replicate, zL_len, List.length_cons, List.length_nil, LN_t452.out]; done) | (simp [zL_len, LN_t452.out]; done))) (av_one (fun _ => rfl)) (av_put (by first | rfl | (simp only [List.length_set, List.length_replicate, zL_len, List.length_cons, List.length_nil, LN_t452.out]; done) | (simp [zL_len, LN_t452.out]; done)) (by first | rfl | (simp only [List.length_set, List.length_replicate, zL_len, List.length_cons, List.length_nil, LN_t452.out]; done) | (simp [zL_len, LN_t452.out]; done))) rfl _ _ rfl rfl rfl ?_; intro w478 ho_ hB_; replace HL := hid (ho_.below HL.out GEb455.out); replace BKb455 := hid hB_; clear ho_ hB_)
              | (go_at_call 37; clear k479; refine (i_forsyth_Read.calls k (⟨#[56, 47, 57]⟩ : ByteArray) t456 t457 t458 _ A461.out).mono ?_; rintro e_ w480 ⟨rfl, ln_t456, hb_⟩; have LN_t456 := hid ln_t456; clear ln_t456; replace BKb455 := hid (BKb455.out.below hb_ BKb455.out.lt); replace HL := hid (HL.out.trans (hb_.mono HL.out.size)); clear hb_)
              | ((with_reducible refine gate_d (N := 4) rfl ?_); obtain ⟨gb459, hgb459⟩ : ∃ g_, w480.heap.size = g_ := ⟨_, rfl⟩; refine ag_alloc boardT gb459 hgb459 rfl rfl ?_; intro w481 hb_ hB_ hs_; have GEb459 : Hid (w.heap.size ≤ gb459) := hid (by have := HL.out.size; omega); have NBb455_b459 : Hid (gb455 ≠ gb459) := hid (by have := BKb455.out.lt; omega); have NBb459_b455 : Hid (gb459 ≠ gb455) := hid (by have := NBb455_b459.out; omega); replace BKb455 := hid (BKb455.out.below hb_ (by rw [← hgb459]; exact BKb455.out.lt)); replace HL := hid (HL.out.trans (hb_.mono GEb459.out)); have BKb459 := hid hB_; clear hb_ hB_ hs_ hgb459)
              | ((with_reducible refine gate_s (t := 24) (p := 4) rfl ?_); refine ag_store boardT gb459 0 (bv zL) (bv t456) (bv t456) BKb459.out (by rw [show (bv t456) = av (Value.int .i8) t456 from rfl, av_size]; exact (by first | rfl | (simp only [List.length_set, List.length_replicate, zL_len, List.length_cons, List.length_nil, LN_t452.out, LN_t456.out]; done) | (simp [zL_len, LN_t452.out, LN_t456.out]; done))) (av_le (by first | rfl | (simp only [List.length_set, List.length_replicate, zL_len, List.length_cons, List.length_nil, LN_t452.out, LN_t456.out]; done) | (simp [zL_len, LN_t452.out, LN_t456.out]; done))) (av_one (fun _ => rfl)) (av_put (by first | rfl | (simp only [List.length_set, List.length_replicate, zL_len, List.length_cons, List.length_nil, LN_t452.out, LN_t456.out]; done) | (simp [zL_len, LN_t452.out, LN_t456.out]; done)) (by first | rfl | (simp only [List.length_set, List.length_replicate, zL_len, List.length_cons, List.length_nil, LN_t452.out, LN_t456.out]; done) | (simp [zL_len, LN_t452.out, LN_t456.out]; done))) rfl _ _ rfl rfl rfl ?_; intro w482 ho_ hB_; replace BKb455 := hid (BKb455.out.off ho_ NBb455_b459.out); replace HL := hid (ho_.below HL.out GEb459.out); replace BKb459 := hid hB_; clear ho_ hB_)
              | ((with_reducible refine gate_d (N := 17) rfl ?_); refine ag_fix (.pointer (some ⟨gb455, 4, none⟩)) (ex_at 24 (.pointer (some ⟨gb455, 0, none⟩)) (.int .i64 4) (.pointer (some ⟨gb455, 4, none⟩)) (fun w_ => (run_atv 22 uT24 sT22.size gb455 0 4 (by omega) (by omega) w_).trans rfl) _ _ rfl rfl rfl) rfl ?_)
              | ((with_reducible refine gate_d (N := 18) rfl ?_); refine ag_fix (.int .i8 (nt t452 4 0)) (ex_get sT22 gb455 (4) (.int .i8 (nt t452 4 0)) ((bv t452)) BKb455.out (av_get 0 (by have h_ : t452.length = 64 := (by first | rfl | (simp only [List.length_set, List.length_replicate, zL_len, List.length_cons, List.length_nil, LN_t452.out, LN_t456.out]; done) | (simp [zL_len, LN_t452.out, LN_t456.out]; done)); omega)) _ rfl rfl) rfl ?_)
              | ((with_reducible refine gate_d (N := 21) rfl ?_); refine ag_fix (.pointer (some ⟨gb455, 7, none⟩)) (ex_at 24 (.pointer (some ⟨gb455, 0, none⟩)) (.int .i64 7) (.pointer (some ⟨gb455, 7, none⟩)) (fun w_ => (run_atv 22 uT24 sT22.size gb455 0 7 (by omega) (by omega) w_).trans rfl) _ _ rfl rfl rfl) rfl ?_)
              | ((with_reducible refine gate_d (N := 22) rfl ?_); refine ag_fix (.int .i8 (nt t452 7 0)) (ex_get sT22 gb455 (7) (.int .i8 (nt t452 7 0)) ((bv t452)) BKb455.out (av_get 0 (by have h_ : t452.length = 64 := (by first | rfl | (simp only [List.length_set, List.length_replicate, zL_len, List.length_cons, List.length_nil, LN_t452.out, LN_t456.out]; done) | (simp [zL_len, LN_t452.out, LN_t456.out]; done)); omega)) _ rfl rfl) rfl ?_))
            (try simp only [Act.put, List.setIfInBounds_toArray, List.set_cons_zero, List.set_cons_succ])
            go_ret
            exact ⟨by first | rfl | (simp; done) | (simp [*]; done), HL.out⟩
        · rw [if_neg c465] at H
          have c465b0 : (t454 == 0) = false := beq_eq_false_iff_ne.mpr c465
          have c465b1 : (t454 != 0) = true := bne_iff_ne.mpr c465
          have hc465 := hid c465
          clear c465
          obtain rfl := Option.some.inj H
          clear H
          go_enter Try.func36, Try.ntmps36
          have k483 := True.intro
          have k487 := True.intro
          go_wp2_with (first
            | (go_at_call 37; clear k483; refine (i_forsyth_Read.calls k (⟨#[56, 47, 56, 47, 56, 47, 56, 47, 56, 47, 56, 47, 56, 47, 52, 75, 50, 107]⟩ : ByteArray) t452 t453 t454 _ A460.out).mono ?_; rintro e_ w484 ⟨rfl, ln_t452, hb_⟩; have LN_t452 := hid ln_t452; clear ln_t452; replace HL := hid (HL.out.trans (hb_.mono HL.out.size)); clear hb_)
            | ((with_reducible refine gate_d (N := 1) rfl ?_); obtain ⟨gb455, hgb455⟩ : ∃ g_, w484.heap.size = g_ := ⟨_, rfl⟩; refine ag_alloc boardT gb455 hgb455 rfl rfl ?_; intro w485 hb_ hB_ hs_; have GEb455 : Hid (w.heap.size ≤ gb455) := hid (by have := HL.out.size; omega); replace HL := hid (HL.out.trans (hb_.mono GEb455.out)); have BKb455 := hid hB_; clear hb_ hB_ hs_ hgb455)
            | ((with_reducible refine gate_s (t := 24) (p := 1) rfl ?_); refine ag_store boardT gb455 0 (bv zL) (bv t452) (bv t452) BKb455.out (by rw [show (bv t452) = av (Value.int .i8) t452 from rfl, av_size]; exact (by first | rfl | (simp only [List.length_set, List.length_replicate, zL_len, List.length_cons, List.length_nil, LN_t452.out]; done) | (simp [zL_len, LN_t452.out]; done))) (av_le (by first | rfl | (simp only [List.length_set, List.length_replicate, zL_len, List.length_cons, List.length_nil, LN_t452.out]; done) | (simp [zL_len, LN_t452.out]; done))) (av_one (fun _ => rfl)) (av_put (by first | rfl | (simp only [List.length_set, List.length_replicate, zL_len, List.length_cons, List.length_nil, LN_t452.out]; done) | (simp [zL_len, LN_t452.out]; done)) (by first | rfl | (simp only [List.length_set, List.length_replicate, zL_len, List.length_cons, List.length_nil, LN_t452.out]; done) | (simp [zL_len, LN_t452.out]; done))) rfl _ _ rfl rfl rfl ?_; intro w486 ho_ hB_; replace HL := hid (ho_.below HL.out GEb455.out); replace BKb455 := hid hB_; clear ho_ hB_)
            | (go_at_call 37; clear k487; refine (i_forsyth_Read.calls k (⟨#[56, 47, 57]⟩ : ByteArray) t456 t457 t458 _ A461.out).mono ?_; rintro e_ w488 ⟨rfl, ln_t456, hb_⟩; have LN_t456 := hid ln_t456; clear ln_t456; replace BKb455 := hid (BKb455.out.below hb_ BKb455.out.lt); replace HL := hid (HL.out.trans (hb_.mono HL.out.size)); clear hb_)
            | ((with_reducible refine gate_d (N := 4) rfl ?_); obtain ⟨gb459, hgb459⟩ : ∃ g_, w488.heap.size = g_ := ⟨_, rfl⟩; refine ag_alloc boardT gb459 hgb459 rfl rfl ?_; intro w489 hb_ hB_ hs_; have GEb459 : Hid (w.heap.size ≤ gb459) := hid (by have := HL.out.size; omega); have NBb455_b459 : Hid (gb455 ≠ gb459) := hid (by have := BKb455.out.lt; omega); have NBb459_b455 : Hid (gb459 ≠ gb455) := hid (by have := NBb455_b459.out; omega); replace BKb455 := hid (BKb455.out.below hb_ (by rw [← hgb459]; exact BKb455.out.lt)); replace HL := hid (HL.out.trans (hb_.mono GEb459.out)); have BKb459 := hid hB_; clear hb_ hB_ hs_ hgb459)
            | ((with_reducible refine gate_s (t := 24) (p := 4) rfl ?_); refine ag_store boardT gb459 0 (bv zL) (bv t456) (bv t456) BKb459.out (by rw [show (bv t456) = av (Value.int .i8) t456 from rfl, av_size]; exact (by first | rfl | (simp only [List.length_set, List.length_replicate, zL_len, List.length_cons, List.length_nil, LN_t452.out, LN_t456.out]; done) | (simp [zL_len, LN_t452.out, LN_t456.out]; done))) (av_le (by first | rfl | (simp only [List.length_set, List.length_replicate, zL_len, List.length_cons, List.length_nil, LN_t452.out, LN_t456.out]; done) | (simp [zL_len, LN_t452.out, LN_t456.out]; done))) (av_one (fun _ => rfl)) (av_put (by first | rfl | (simp only [List.length_set, List.length_replicate, zL_len, List.length_cons, List.length_nil, LN_t452.out, LN_t456.out]; done) | (simp [zL_len, LN_t452.out, LN_t456.out]; done)) (by first | rfl | (simp only [List.length_set, List.length_replicate, zL_len, List.length_cons, List.length_nil, LN_t452.out, LN_t456.out]; done) | (simp [zL_len, LN_t452.out, LN_t456.out]; done))) rfl _ _ rfl rfl rfl ?_; intro w490 ho_ hB_; replace BKb455 := hid (BKb455.out.off ho_ NBb455_b459.out); replace HL := hid (ho_.below HL.out GEb459.out); replace BKb459 := hid hB_; clear ho_ hB_)
            | ((with_reducible refine gate_d (N := 17) rfl ?_); refine ag_fix (.pointer (some ⟨gb455, 4, none⟩)) (ex_at 24 (.pointer (some ⟨gb455, 0, none⟩)) (.int .i64 4) (.pointer (some ⟨gb455, 4, none⟩)) (fun w_ => (run_atv 22 uT24 sT22.size gb455 0 4 (by omega) (by omega) w_).trans rfl) _ _ rfl rfl rfl) rfl ?_)
            | ((with_reducible refine gate_d (N := 18) rfl ?_); refine ag_fix (.int .i8 (nt t452 4 0)) (ex_get sT22 gb455 (4) (.int .i8 (nt t452 4 0)) ((bv t452)) BKb455.out (av_get 0 (by have h_ : t452.length = 64 := (by first | rfl | (simp only [List.length_set, List.length_replicate, zL_len, List.length_cons, List.length_nil, LN_t452.out, LN_t456.out]; done) | (simp [zL_len, LN_t452.out, LN_t456.out]; done)); omega)) _ rfl rfl) rfl ?_)
            | ((with_reducible refine gate_d (N := 21) rfl ?_); refine ag_fix (.pointer (some ⟨gb455, 7, none⟩)) (ex_at 24 (.pointer (some ⟨gb455, 0, none⟩)) (.int .i64 7) (.pointer (some ⟨gb455, 7, none⟩)) (fun w_ => (run_atv 22 uT24 sT22.size gb455 0 7 (by omega) (by omega) w_).trans rfl) _ _ rfl rfl rfl) rfl ?_)
            | ((with_reducible refine gate_d (N := 22) rfl ?_); refine ag_fix (.int .i8 (nt t452 7 0)) (ex_get sT22 gb455 (7) (.int .i8 (nt t452 7 0)) ((bv t452)) BKb455.out (av_get 0 (by have h_ : t452.length = 64 := (by first | rfl | (simp only [List.length_set, List.length_replicate, zL_len, List.length_cons, List.length_nil, LN_t452.out, LN_t456.out]; done) | (simp [zL_len, LN_t452.out, LN_t456.out]; done)); omega)) _ rfl rfl) rfl ?_))
          (try simp only [Act.put, List.setIfInBounds_toArray, List.set_cons_zero, List.set_cons_succ])
          go_ret
          exact ⟨by first | rfl | (simp; done) | (simp [*]; done), HL.out⟩
      · rw [if_neg c464] at H
        have c464b0 : (t453 == 18) = false := beq_eq_false_iff_ne.mpr c464
        have c464b1 : (t453 != 18) = true := bne_iff_ne.mpr c464
        have hc464 := hid c464
        clear c464
        obtain rfl := Option.some.inj H
        clear H
        go_enter Try.func36, Try.ntmps36
        have k491 := True.intro
        have k495 := True.intro
        go_wp2_with (first
          | (go_at_call 37; clear k491; refine (i_forsyth_Read.calls k (⟨#[56, 47, 56, 47, 56, 47, 56, 47, 56, 47, 56, 47, 56, 47, 52, 75, 50, 107]⟩ : ByteArray) t452 t453 t454 _ A460.out).mono ?_; rintro e_ w492 ⟨rfl, ln_t452, hb_⟩; have LN_t452 := hid ln_t452; clear ln_t452; replace HL := hid (HL.out.trans (hb_.mono HL.out.size)); clear hb_)
          | ((with_reducible refine gate_d (N := 1) rfl ?_); obtain ⟨gb455, hgb455⟩ : ∃ g_, w492.heap.size = g_ := ⟨_, rfl⟩; refine ag_alloc boardT gb455 hgb455 rfl rfl ?_; intro w493 hb_ hB_ hs_; have GEb455 : Hid (w.heap.size ≤ gb455) := hid (by have := HL.out.size; omega); replace HL := hid (HL.out.trans (hb_.mono GEb455.out)); have BKb455 := hid hB_; clear hb_ hB_ hs_ hgb455)
          | ((with_reducible refine gate_s (t := 24) (p := 1) rfl ?_); refine ag_store boardT gb455 0 (bv zL) (bv t452) (bv t452) BKb455.out (by rw [show (bv t452) = av (Value.int .i8) t452 from rfl, av_size]; exact (by first | rfl | (simp only [List.length_set, List.length_replicate, zL_len, List.length_cons, List.length_nil, LN_t452.out]; done) | (simp [zL_len, LN_t452.out]; done))) (av_le (by first | rfl | (simp only [List.length_set, List.length_replicate, zL_len, List.length_cons, List.length_nil, LN_t452.out]; done) | (simp [zL_len, LN_t452.out]; done))) (av_one (fun _ => rfl)) (av_put (by first | rfl | (simp only [List.length_set, List.length_replicate, zL_len, List.length_cons, List.length_nil, LN_t452.out]; done) | (simp [zL_len, LN_t452.out]; done)) (by first | rfl | (simp only [List.length_set, List.length_replicate, zL_len, List.length_cons, List.length_nil, LN_t452.out]; done) | (simp [zL_len, LN_t452.out]; done))) rfl _ _ rfl rfl rfl ?_; intro w494 ho_ hB_; replace HL := hid (ho_.below HL.out GEb455.out); replace BKb455 := hid hB_; clear ho_ hB_)
          | (go_at_call 37; clear k495; refine (i_forsyth_Read.calls k (⟨#[56, 47, 57]⟩ : ByteArray) t456 t457 t458 _ A461.out).mono ?_; rintro e_ w496 ⟨rfl, ln_t456, hb_⟩; have LN_t456 := hid ln_t456; clear ln_t456; replace BKb455 := hid (BKb455.out.below hb_ BKb455.out.lt); replace HL := hid (HL.out.trans (hb_.mono HL.out.size)); clear hb_)
          | ((with_reducible refine gate_d (N := 4) rfl ?_); obtain ⟨gb459, hgb459⟩ : ∃ g_, w496.heap.size = g_ := ⟨_, rfl⟩; refine ag_alloc boardT gb459 hgb459 rfl rfl ?_; intro w497 hb_ hB_ hs_; have GEb459 : Hid (w.heap.size ≤ gb459) := hid (by have := HL.out.size; omega); have NBb455_b459 : Hid (gb455 ≠ gb459) := hid (by have := BKb455.out.lt; omega); have NBb459_b455 : Hid (gb459 ≠ gb455) := hid (by have := NBb455_b459.out; omega); replace BKb455 := hid (BKb455.out.below hb_ (by rw [← hgb459]; exact BKb455.out.lt)); replace HL := hid (HL.out.trans (hb_.mono GEb459.out)); have BKb459 := hid hB_; clear hb_ hB_ hs_ hgb459)
          | ((with_reducible refine gate_s (t := 24) (p := 4) rfl ?_); refine ag_store boardT gb459 0 (bv zL) (bv t456) (bv t456) BKb459.out (by rw [show (bv t456) = av (Value.int .i8) t456 from rfl, av_size]; exact (by first | rfl | (simp only [List.length_set, List.length_replicate, zL_len, List.length_cons, List.length_nil, LN_t452.out, LN_t456.out]; done) | (simp [zL_len, LN_t452.out, LN_t456.out]; done))) (av_le (by first | rfl | (simp only [List.length_set, List.length_replicate, zL_len, List.length_cons, List.length_nil, LN_t452.out, LN_t456.out]; done) | (simp [zL_len, LN_t452.out, LN_t456.out]; done))) (av_one (fun _ => rfl)) (av_put (by first | rfl | (simp only [List.length_set, List.length_replicate, zL_len, List.length_cons, List.length_nil, LN_t452.out, LN_t456.out]; done) | (simp [zL_len, LN_t452.out, LN_t456.out]; done)) (by first | rfl | (simp only [List.length_set, List.length_replicate, zL_len, List.length_cons, List.length_nil, LN_t452.out, LN_t456.out]; done) | (simp [zL_len, LN_t452.out, LN_t456.out]; done))) rfl _ _ rfl rfl rfl ?_; intro w498 ho_ hB_; replace BKb455 := hid (BKb455.out.off ho_ NBb455_b459.out); replace HL := hid (ho_.below HL.out GEb459.out); replace BKb459 := hid hB_; clear ho_ hB_)
          | ((with_reducible refine gate_d (N := 17) rfl ?_); refine ag_fix (.pointer (some ⟨gb455, 4, none⟩)) (ex_at 24 (.pointer (some ⟨gb455, 0, none⟩)) (.int .i64 4) (.pointer (some ⟨gb455, 4, none⟩)) (fun w_ => (run_atv 22 uT24 sT22.size gb455 0 4 (by omega) (by omega) w_).trans rfl) _ _ rfl rfl rfl) rfl ?_)
          | ((with_reducible refine gate_d (N := 18) rfl ?_); refine ag_fix (.int .i8 (nt t452 4 0)) (ex_get sT22 gb455 (4) (.int .i8 (nt t452 4 0)) ((bv t452)) BKb455.out (av_get 0 (by have h_ : t452.length = 64 := (by first | rfl | (simp only [List.length_set, List.length_replicate, zL_len, List.length_cons, List.length_nil, LN_t452.out, LN_t456.out]; done) | (simp [zL_len, LN_t452.out, LN_t456.out]; done)); omega)) _ rfl rfl) rfl ?_)
          | ((with_reducible refine gate_d (N := 21) rfl ?_); refine ag_fix (.pointer (some ⟨gb455, 7, none⟩)) (ex_at 24 (.pointer (some ⟨gb455, 0, none⟩)) (.int .i64 7) (.pointer (some ⟨gb455, 7, none⟩)) (fun w_ => (run_atv 22 uT24 sT22.size gb455 0 7 (by omega) (by omega) w_).trans rfl) _ _ rfl rfl rfl) rfl ?_)
          | ((with_reducible refine gate_d (N := 22) rfl ?_); refine ag_fix (.int .i8 (nt t452 7 0)) (ex_get sT22 gb455 (7) (.int .i8 (nt t452 7 0)) ((bv t452)) BKb455.out (av_get 0 (by have h_ : t452.length = 64 := (by first | rfl | (simp only [List.length_set, List.length_replicate, zL_len, List.length_cons, List.length_nil, LN_t452.out, LN_t456.out]; done) | (simp [zL_len, LN_t452.out, LN_t456.out]; done)); omega)) _ rfl rfl) rfl ?_))
        (try simp only [Act.put, List.setIfInBounds_toArray, List.set_cons_zero, List.set_cons_succ])
        go_ret
        exact ⟨by first | rfl | (simp; done) | (simp [*]; done), HL.out⟩
    · rw [if_neg c463] at H
      have c463b0 : ((nt t452 7 0) == (-6)) = false := beq_eq_false_iff_ne.mpr c463
      have c463b1 : ((nt t452 7 0) != (-6)) = true := bne_iff_ne.mpr c463
      have hc463 := hid c463
      clear c463
      obtain rfl := Option.some.inj H
      clear H
      go_enter Try.func36, Try.ntmps36
      have k499 := True.intro
      have k503 := True.intro
      go_wp2_with (first
        | (go_at_call 37; clear k499; refine (i_forsyth_Read.calls k (⟨#[56, 47, 56, 47, 56, 47, 56, 47, 56, 47, 56, 47, 56, 47, 52, 75, 50, 107]⟩ : ByteArray) t452 t453 t454 _ A460.out).mono ?_; rintro e_ w500 ⟨rfl, ln_t452, hb_⟩; have LN_t452 := hid ln_t452; clear ln_t452; replace HL := hid (HL.out.trans (hb_.mono HL.out.size)); clear hb_)
        | ((with_reducible refine gate_d (N := 1) rfl ?_); obtain ⟨gb455, hgb455⟩ : ∃ g_, w500.heap.size = g_ := ⟨_, rfl⟩; refine ag_alloc boardT gb455 hgb455 rfl rfl ?_; intro w501 hb_ hB_ hs_; have GEb455 : Hid (w.heap.size ≤ gb455) := hid (by have := HL.out.size; omega); replace HL := hid (HL.out.trans (hb_.mono GEb455.out)); have BKb455 := hid hB_; clear hb_ hB_ hs_ hgb455)
        | ((with_reducible refine gate_s (t := 24) (p := 1) rfl ?_); refine ag_store boardT gb455 0 (bv zL) (bv t452) (bv t452) BKb455.out (by rw [show (bv t452) = av (Value.int .i8) t452 from rfl, av_size]; exact (by first | rfl | (simp only [List.length_set, List.length_replicate, zL_len, List.length_cons, List.length_nil, LN_t452.out]; done) | (simp [zL_len, LN_t452.out]; done))) (av_le (by first | rfl | (simp only [List.length_set, List.length_replicate, zL_len, List.length_cons, List.length_nil, LN_t452.out]; done) | (simp [zL_len, LN_t452.out]; done))) (av_one (fun _ => rfl)) (av_put (by first | rfl | (simp only [List.length_set, List.length_replicate, zL_len, List.length_cons, List.length_nil, LN_t452.out]; done) | (simp [zL_len, LN_t452.out]; done)) (by first | rfl | (simp only [List.length_set, List.length_replicate, zL_len, List.length_cons, List.length_nil, LN_t452.out]; done) | (simp [zL_len, LN_t452.out]; done))) rfl _ _ rfl rfl rfl ?_; intro w502 ho_ hB_; replace HL := hid (ho_.below HL.out GEb455.out); replace BKb455 := hid hB_; clear ho_ hB_)
        | (go_at_call 37; clear k503; refine (i_forsyth_Read.calls k (⟨#[56, 47, 57]⟩ : ByteArray) t456 t457 t458 _ A461.out).mono ?_; rintro e_ w504 ⟨rfl, ln_t456, hb_⟩; have LN_t456 := hid ln_t456; clear ln_t456; replace BKb455 := hid (BKb455.out.below hb_ BKb455.out.lt); replace HL := hid (HL.out.trans (hb_.mono HL.out.size)); clear hb_)
        | ((with_reducible refine gate_d (N := 4) rfl ?_); obtain ⟨gb459, hgb459⟩ : ∃ g_, w504.heap.size = g_ := ⟨_, rfl⟩; refine ag_alloc boardT gb459 hgb459 rfl rfl ?_; intro w505 hb_ hB_ hs_; have GEb459 : Hid (w.heap.size ≤ gb459) := hid (by have := HL.out.size; omega); have NBb455_b459 : Hid (gb455 ≠ gb459) := hid (by have := BKb455.out.lt; omega); have NBb459_b455 : Hid (gb459 ≠ gb455) := hid (by have := NBb455_b459.out; omega); replace BKb455 := hid (BKb455.out.below hb_ (by rw [← hgb459]; exact BKb455.out.lt)); replace HL := hid (HL.out.trans (hb_.mono GEb459.out)); have BKb459 := hid hB_; clear hb_ hB_ hs_ hgb459)
        | ((with_reducible refine gate_s (t := 24) (p := 4) rfl ?_); refine ag_store boardT gb459 0 (bv zL) (bv t456) (bv t456) BKb459.out (by rw [show (bv t456) = av (Value.int .i8) t456 from rfl, av_size]; exact (by first | rfl | (simp only [List.length_set, List.length_replicate, zL_len, List.length_cons, List.length_nil, LN_t452.out, LN_t456.out]; done) | (simp [zL_len, LN_t452.out, LN_t456.out]; done))) (av_le (by first | rfl | (simp only [List.length_set, List.length_replicate, zL_len, List.length_cons, List.length_nil, LN_t452.out, LN_t456.out]; done) | (simp [zL_len, LN_t452.out, LN_t456.out]; done))) (av_one (fun _ => rfl)) (av_put (by first | rfl | (simp only [List.length_set, List.length_replicate, zL_len, List.length_cons, List.length_nil, LN_t452.out, LN_t456.out]; done) | (simp [zL_len, LN_t452.out, LN_t456.out]; done)) (by first | rfl | (simp only [List.length_set, List.length_replicate, zL_len, List.length_cons, List.length_nil, LN_t452.out, LN_t456.out]; done) | (simp [zL_len, LN_t452.out, LN_t456.out]; done))) rfl _ _ rfl rfl rfl ?_; intro w506 ho_ hB_; replace BKb455 := hid (BKb455.out.off ho_ NBb455_b459.out); replace HL := hid (ho_.below HL.out GEb459.out); replace BKb459 := hid hB_; clear ho_ hB_)
        | ((with_reducible refine gate_d (N := 17) rfl ?_); refine ag_fix (.pointer (some ⟨gb455, 4, none⟩)) (ex_at 24 (.pointer (some ⟨gb455, 0, none⟩)) (.int .i64 4) (.pointer (some ⟨gb455, 4, none⟩)) (fun w_ => (run_atv 22 uT24 sT22.size gb455 0 4 (by omega) (by omega) w_).trans rfl) _ _ rfl rfl rfl) rfl ?_)
        | ((with_reducible refine gate_d (N := 18) rfl ?_); refine ag_fix (.int .i8 (nt t452 4 0)) (ex_get sT22 gb455 (4) (.int .i8 (nt t452 4 0)) ((bv t452)) BKb455.out (av_get 0 (by have h_ : t452.length = 64 := (by first | rfl | (simp only [List.length_set, List.length_replicate, zL_len, List.length_cons, List.length_nil, LN_t452.out, LN_t456.out]; done) | (simp [zL_len, LN_t452.out, LN_t456.out]; done)); omega)) _ rfl rfl) rfl ?_)
        | ((with_reducible refine gate_d (N := 21) rfl ?_); refine ag_fix (.pointer (some ⟨gb455, 7, none⟩)) (ex_at 24 (.pointer (some ⟨gb455, 0, none⟩)) (.int .i64 7) (.pointer (some ⟨gb455, 7, none⟩)) (fun w_ => (run_atv 22 uT24 sT22.size gb455 0 7 (by omega) (by omega) w_).trans rfl) _ _ rfl rfl rfl) rfl ?_)
        | ((with_reducible refine gate_d (N := 22) rfl ?_); refine ag_fix (.int .i8 (nt t452 7 0)) (ex_get sT22 gb455 (7) (.int .i8 (nt t452 7 0)) ((bv t452)) BKb455.out (av_get 0 (by have h_ : t452.length = 64 := (by first | rfl | (simp only [List.length_set, List.length_replicate, zL_len, List.length_cons, List.length_nil, LN_t452.out, LN_t456.out]; done) | (simp [zL_len, LN_t452.out, LN_t456.out]; done)); omega)) _ rfl rfl) rfl ?_))
      (try simp only [Act.put, List.setIfInBounds_toArray, List.set_cons_zero, List.set_cons_succ])
      go_ret
      exact ⟨by first | rfl | (simp; done) | (simp [*]; done), HL.out⟩
  · rw [if_neg c462] at H
    have c462b0 : ((nt t452 4 0) == 6) = false := beq_eq_false_iff_ne.mpr c462
    have c462b1 : ((nt t452 4 0) != 6) = true := bne_iff_ne.mpr c462
    have hc462 := hid c462
    clear c462
    obtain rfl := Option.some.inj H
    clear H
    go_enter Try.func36, Try.ntmps36
    have k507 := True.intro
    have k511 := True.intro
    go_wp2_with (first
      | (go_at_call 37; clear k507; refine (i_forsyth_Read.calls k (⟨#[56, 47, 56, 47, 56, 47, 56, 47, 56, 47, 56, 47, 56, 47, 52, 75, 50, 107]⟩ : ByteArray) t452 t453 t454 _ A460.out).mono ?_; rintro e_ w508 ⟨rfl, ln_t452, hb_⟩; have LN_t452 := hid ln_t452; clear ln_t452; replace HL := hid (HL.out.trans (hb_.mono HL.out.size)); clear hb_)
      | ((with_reducible refine gate_d (N := 1) rfl ?_); obtain ⟨gb455, hgb455⟩ : ∃ g_, w508.heap.size = g_ := ⟨_, rfl⟩; refine ag_alloc boardT gb455 hgb455 rfl rfl ?_; intro w509 hb_ hB_ hs_; have GEb455 : Hid (w.heap.size ≤ gb455) := hid (by have := HL.out.size; omega); replace HL := hid (HL.out.trans (hb_.mono GEb455.out)); have BKb455 := hid hB_; clear hb_ hB_ hs_ hgb455)
      | ((with_reducible refine gate_s (t := 24) (p := 1) rfl ?_); refine ag_store boardT gb455 0 (bv zL) (bv t452) (bv t452) BKb455.out (by rw [show (bv t452) = av (Value.int .i8) t452 from rfl, av_size]; exact (by first | rfl | (simp only [List.length_set, List.length_replicate, zL_len, List.length_cons, List.length_nil, LN_t452.out]; done) | (simp [zL_len, LN_t452.out]; done))) (av_le (by first | rfl | (simp only [List.length_set, List.length_replicate, zL_len, List.length_cons, List.length_nil, LN_t452.out]; done) | (simp [zL_len, LN_t452.out]; done))) (av_one (fun _ => rfl)) (av_put (by first | rfl | (simp only [List.length_set, List.length_replicate, zL_len, List.length_cons, List.length_nil, LN_t452.out]; done) | (simp [zL_len, LN_t452.out]; done)) (by first | rfl | (simp only [List.length_set, List.length_replicate, zL_len, List.length_cons, List.length_nil, LN_t452.out]; done) | (simp [zL_len, LN_t452.out]; done))) rfl _ _ rfl rfl rfl ?_; intro w510 ho_ hB_; replace HL := hid (ho_.below HL.out GEb455.out); replace BKb455 := hid hB_; clear ho_ hB_)
      | (go_at_call 37; clear k511; refine (i_forsyth_Read.calls k (⟨#[56, 47, 57]⟩ : ByteArray) t456 t457 t458 _ A461.out).mono ?_; rintro e_ w512 ⟨rfl, ln_t456, hb_⟩; have LN_t456 := hid ln_t456; clear ln_t456; replace BKb455 := hid (BKb455.out.below hb_ BKb455.out.lt); replace HL := hid (HL.out.trans (hb_.mono HL.out.size)); clear hb_)
      | ((with_reducible refine gate_d (N := 4) rfl ?_); obtain ⟨gb459, hgb459⟩ : ∃ g_, w512.heap.size = g_ := ⟨_, rfl⟩; refine ag_alloc boardT gb459 hgb459 rfl rfl ?_; intro w513 hb_ hB_ hs_; have GEb459 : Hid (w.heap.size ≤ gb459) := hid (by have := HL.out.size; omega); have NBb455_b459 : Hid (gb455 ≠ gb459) := hid (by have := BKb455.out.lt; omega); have NBb459_b455 : Hid (gb459 ≠ gb455) := hid (by have := NBb455_b459.out; omega); replace BKb455 := hid (BKb455.out.below hb_ (by rw [← hgb459]; exact BKb455.out.lt)); replace HL := hid (HL.out.trans (hb_.mono GEb459.out)); have BKb459 := hid hB_; clear hb_ hB_ hs_ hgb459)
      | ((with_reducible refine gate_s (t := 24) (p := 4) rfl ?_); refine ag_store boardT gb459 0 (bv zL) (bv t456) (bv t456) BKb459.out (by rw [show (bv t456) = av (Value.int .i8) t456 from rfl, av_size]; exact (by first | rfl | (simp only [List.length_set, List.length_replicate, zL_len, List.length_cons, List.length_nil, LN_t452.out, LN_t456.out]; done) | (simp [zL_len, LN_t452.out, LN_t456.out]; done))) (av_le (by first | rfl | (simp only [List.length_set, List.length_replicate, zL_len, List.length_cons, List.length_nil, LN_t452.out, LN_t456.out]; done) | (simp [zL_len, LN_t452.out, LN_t456.out]; done))) (av_one (fun _ => rfl)) (av_put (by first | rfl | (simp only [List.length_set, List.length_replicate, zL_len, List.length_cons, List.length_nil, LN_t452.out, LN_t456.out]; done) | (simp [zL_len, LN_t452.out, LN_t456.out]; done)) (by first | rfl | (simp only [List.length_set, List.length_replicate, zL_len, List.length_cons, List.length_nil, LN_t452.out, LN_t456.out]; done) | (simp [zL_len, LN_t452.out, LN_t456.out]; done))) rfl _ _ rfl rfl rfl ?_; intro w514 ho_ hB_; replace BKb455 := hid (BKb455.out.off ho_ NBb455_b459.out); replace HL := hid (ho_.below HL.out GEb459.out); replace BKb459 := hid hB_; clear ho_ hB_)
      | ((with_reducible refine gate_d (N := 17) rfl ?_); refine ag_fix (.pointer (some ⟨gb455, 4, none⟩)) (ex_at 24 (.pointer (some ⟨gb455, 0, none⟩)) (.int .i64 4) (.pointer (some ⟨gb455, 4, none⟩)) (fun w_ => (run_atv 22 uT24 sT22.size gb455 0 4 (by omega) (by omega) w_).trans rfl) _ _ rfl rfl rfl) rfl ?_)
      | ((with_reducible refine gate_d (N := 18) rfl ?_); refine ag_fix (.int .i8 (nt t452 4 0)) (ex_get sT22 gb455 (4) (.int .i8 (nt t452 4 0)) ((bv t452)) BKb455.out (av_get 0 (by have h_ : t452.length = 64 := (by first | rfl | (simp only [List.length_set, List.length_replicate, zL_len, List.length_cons, List.length_nil, LN_t452.out, LN_t456.out]; done) | (simp [zL_len, LN_t452.out, LN_t456.out]; done)); omega)) _ rfl rfl) rfl ?_))
    (try simp only [Act.put, List.setIfInBounds_toArray, List.set_cons_zero, List.set_cons_succ])
    go_ret
    exact ⟨by first | rfl | (simp; done) | (simp [*]; done), HL.out⟩
/-! i_alfillaw04_ForsythReads: function 8 -/
def i_alfillaw04_ForsythReads.f (k : Nat) (a0 : ByteArray) : Option (Bool) := (i_alfillaw04_wakes.f k).bind fun t515 => (if t515 = true then (if (a0.size : Int) > 200 then (some true) else ((i_forsyth_Read.f k a0).bind fun bt516 => ((i_alfilref04_Read.f k a0).bind fun bt520 => (if bt516.1 = bt520.1 then (if bt516.2.1 = bt520.2.1 then (some (bt516.2.2 == bt520.2.2)) else (some false)) else (some false))))) else (some false))
set_option maxHeartbeats 40000000 in
set_option maxRecDepth 100000 in
theorem i_alfillaw04_ForsythReads.calls (k : Nat) (a0 : ByteArray) (r1 : Bool) (w : World) (h : i_alfillaw04_ForsythReads.f k a0 = some r1) :
    Calls Try.prog 8 #[.string a0] w fun e w' => e = .returned (.bool r1) ∧ Below w.heap.size w w' := by
  have HL := hid (Below.refl w.heap.size w)
  have H : ((i_alfillaw04_wakes.f k).bind fun t515 => (if t515 = true then (if (a0.size : Int) > 200 then (some true) else ((i_forsyth_Read.f k a0).bind fun bt516 => ((i_alfilref04_Read.f k a0).bind fun bt520 => (if bt516.1 = bt520.1 then (if bt516.2.1 = bt520.2.1 then (some (bt516.2.2 == bt520.2.2)) else (some false)) else (some false))))) else (some false))) = some r1 := h
  clear h
  replace H := Option.bind_eq_some_iff.mp H
  obtain ⟨t515, A524_, H⟩ := H
  replace H : (if t515 = true then (if (a0.size : Int) > 200 then (some true) else ((i_forsyth_Read.f k a0).bind fun bt516 => ((i_alfilref04_Read.f k a0).bind fun bt520 => (if bt516.1 = bt520.1 then (if bt516.2.1 = bt520.2.1 then (some (bt516.2.2 == bt520.2.2)) else (some false)) else (some false))))) else (some false)) = some r1 := H
  have A524 := hid A524_
  clear A524_
  cases t515 with
  | true =>
    rw [if_pos rfl] at H
    by_cases c526 : (a0.size : Int) > 200
    · rw [if_pos c526] at H
      have c526b0 : decide (200 < (a0.size : Int)) = true := decide_eq_true c526
      have c526b1 : decide (200 < a0.size) = true := decide_eq_true (by omega)
      have hc526 := hid c526
      clear c526
      obtain rfl := Option.some.inj H
      clear H
      go_enter Try.func8, Try.ntmps8
      have k527 := True.intro
      go_wp2_with (first
        | (go_at_call 36; clear k527; refine (i_alfillaw04_wakes.calls k true _ A524.out).mono ?_; rintro e_ w528 ⟨rfl, hb_⟩; replace HL := hid (HL.out.trans (hb_.mono HL.out.size)); clear hb_))
      (try simp only [Act.put, List.setIfInBounds_toArray, List.set_cons_zero, List.set_cons_succ])
      go_ret
      exact ⟨by first | rfl | (simp; done) | (simp [*]; done), HL.out⟩
    · rw [if_neg c526] at H
      have c526b0 : decide (200 < (a0.size : Int)) = false := decide_eq_false c526
      have c526b1 : decide (200 < a0.size) = false := decide_eq_false (by omega)
      have hc526 := hid c526
      clear c526
      replace H := Option.bind_eq_some_iff.mp H
      obtain ⟨⟨t516, t517, t518⟩, A529_, H⟩ := H
      replace H : ((i_alfilref04_Read.f k a0).bind fun bt520 => (if t516 = bt520.1 then (if t517 = bt520.2.1 then (some (t518 == bt520.2.2)) else (some false)) else (some false))) = some r1 := H
      have A529 := hid A529_
      clear A529_
      replace H := Option.bind_eq_some_iff.mp H
      obtain ⟨⟨t520, t521, t522⟩, A530_, H⟩ := H
      replace H : (if t516 = t520 then (if t517 = t521 then (some (t518 == t522)) else (some false)) else (some false)) = some r1 := H
      have A530 := hid A530_
      clear A530_
      by_cases c531 : t516 = t520
      · rw [if_pos c531] at H
        have c531b0 : (t516 == t520) = true := beq_iff_eq.mpr c531
        have c531b1 : (t516 != t520) = false := bne_eq_false_iff_eq.mpr c531
        have hc531 := hid c531
        clear c531
        by_cases c532 : t517 = t521
        · rw [if_pos c532] at H
          have c532b0 : (t517 == t521) = true := beq_iff_eq.mpr c532
          have c532b1 : (t517 != t521) = false := bne_eq_false_iff_eq.mpr c532
          have hc532 := hid c532
          clear c532
          obtain rfl := Option.some.inj H
          clear H
          go_enter Try.func8, Try.ntmps8
          have k533 := True.intro
          have k535 := True.intro
          have k539 := True.intro
          go_wp2_with (first
            | (go_at_call 36; clear k533; refine (i_alfillaw04_wakes.calls k true _ A524.out).mono ?_; rintro e_ w534 ⟨rfl, hb_⟩; replace HL := hid (HL.out.trans (hb_.mono HL.out.size)); clear hb_)
            | (go_at_call 37; clear k535; refine (i_forsyth_Read.calls k a0 t516 t517 t518 _ A529.out).mono ?_; rintro e_ w536 ⟨rfl, ln_t516, hb_⟩; have LN_t516 := hid ln_t516; clear ln_t516; replace HL := hid (HL.out.trans (hb_.mono HL.out.size)); clear hb_)
            | ((with_reducible refine gate_d (N := 3) rfl ?_); obtain ⟨gb519, hgb519⟩ : ∃ g_, w536.heap.size = g_ := ⟨_, rfl⟩; refine ag_alloc boardT gb519 hgb519 rfl rfl ?_; intro w537 hb_ hB_ hs_; have GEb519 : Hid (w.heap.size ≤ gb519) := hid (by have := HL.out.size; omega); replace HL := hid (HL.out.trans (hb_.mono GEb519.out)); have BKb519 := hid hB_; clear hb_ hB_ hs_ hgb519)
            | ((with_reducible refine gate_s (t := 24) (p := 3) rfl ?_); refine ag_store boardT gb519 0 (bv zL) (bv t516) (bv t516) BKb519.out (by rw [show (bv t516) = av (Value.int .i8) t516 from rfl, av_size]; exact (by first | rfl | (simp only [List.length_set, List.length_replicate, zL_len, List.length_cons, List.length_nil, LN_t516.out]; done) | (simp [zL_len, LN_t516.out]; done))) (av_le (by first | rfl | (simp only [List.length_set, List.length_replicate, zL_len, List.length_cons, List.length_nil, LN_t516.out]; done) | (simp [zL_len, LN_t516.out]; done))) (av_one (fun _ => rfl)) (av_put (by first | rfl | (simp only [List.length_set, List.length_replicate, zL_len, List.length_cons, List.length_nil, LN_t516.out]; done) | (simp [zL_len, LN_t516.out]; done)) (by first | rfl | (simp only [List.length_set, List.length_replicate, zL_len, List.length_cons, List.length_nil, LN_t516.out]; done) | (simp [zL_len, LN_t516.out]; done))) rfl _ _ rfl rfl rfl ?_; intro w538 ho_ hB_; replace HL := hid (ho_.below HL.out GEb519.out); replace BKb519 := hid hB_; clear ho_ hB_)
            | (go_at_call 38; clear k539; refine (i_alfilref04_Read.calls k a0 t520 t521 t522 _ A530.out).mono ?_; rintro e_ w540 ⟨rfl, ln_t520, hb_⟩; have LN_t520 := hid ln_t520; clear ln_t520; replace BKb519 := hid (BKb519.out.below hb_ BKb519.out.lt); replace HL := hid (HL.out.trans (hb_.mono HL.out.size)); clear hb_)
            | ((with_reducible refine gate_d (N := 6) rfl ?_); obtain ⟨gb523, hgb523⟩ : ∃ g_, w540.heap.size = g_ := ⟨_, rfl⟩; refine ag_alloc boardT gb523 hgb523 rfl rfl ?_; intro w541 hb_ hB_ hs_; have GEb523 : Hid (w.heap.size ≤ gb523) := hid (by have := HL.out.size; omega); have NBb519_b523 : Hid (gb519 ≠ gb523) := hid (by have := BKb519.out.lt; omega); have NBb523_b519 : Hid (gb523 ≠ gb519) := hid (by have := NBb519_b523.out; omega); replace BKb519 := hid (BKb519.out.below hb_ (by rw [← hgb523]; exact BKb519.out.lt)); replace HL := hid (HL.out.trans (hb_.mono GEb523.out)); have BKb523 := hid hB_; clear hb_ hB_ hs_ hgb523)
            | ((with_reducible refine gate_s (t := 24) (p := 6) rfl ?_); refine ag_store boardT gb523 0 (bv zL) (bv t520) (bv t520) BKb523.out (by rw [show (bv t520) = av (Value.int .i8) t520 from rfl, av_size]; exact (by first | rfl | (simp only [List.length_set, List.length_replicate, zL_len, List.length_cons, List.length_nil, LN_t516.out, LN_t520.out]; done) | (simp [zL_len, LN_t516.out, LN_t520.out]; done))) (av_le (by first | rfl | (simp only [List.length_set, List.length_replicate, zL_len, List.length_cons, List.length_nil, LN_t516.out, LN_t520.out]; done) | (simp [zL_len, LN_t516.out, LN_t520.out]; done))) (av_one (fun _ => rfl)) (av_put (by first | rfl | (simp only [List.length_set, List.length_replicate, zL_len, List.length_cons, List.length_nil, LN_t516.out, LN_t520.out]; done) | (simp [zL_len, LN_t516.out, LN_t520.out]; done)) (by first | rfl | (simp only [List.length_set, List.length_replicate, zL_len, List.length_cons, List.length_nil, LN_t516.out, LN_t520.out]; done) | (simp [zL_len, LN_t516.out, LN_t520.out]; done))) rfl _ _ rfl rfl rfl ?_; intro w542 ho_ hB_; replace BKb519 := hid (BKb519.out.off ho_ NBb519_b523.out); replace HL := hid (ho_.below HL.out GEb523.out); replace BKb523 := hid hB_; clear ho_ hB_)
            | ((with_reducible refine gate_d (N := 26) rfl ?_); refine ag_fix (.agg (bv t516)) (ex_load boardT gb519 0 (bv t516) (bv t516) BKb519.out (av_le (by first | rfl | (simp only [List.length_set, List.length_replicate, zL_len, List.length_cons, List.length_nil, LN_t516.out, LN_t520.out]; done) | (simp [zL_len, LN_t516.out, LN_t520.out]; done))) (av_ex (by first | rfl | (simp only [List.length_set, List.length_replicate, zL_len, List.length_cons, List.length_nil, LN_t516.out, LN_t520.out]; done) | (simp [zL_len, LN_t516.out, LN_t520.out]; done))) _ rfl rfl) rfl ?_)
            | ((with_reducible refine gate_d (N := 27) rfl ?_); refine ag_fix (.agg (bv t520)) (ex_load boardT gb523 0 (bv t520) (bv t520) BKb523.out (av_le (by first | rfl | (simp only [List.length_set, List.length_replicate, zL_len, List.length_cons, List.length_nil, LN_t516.out, LN_t520.out]; done) | (simp [zL_len, LN_t516.out, LN_t520.out]; done))) (av_ex (by first | rfl | (simp only [List.length_set, List.length_replicate, zL_len, List.length_cons, List.length_nil, LN_t516.out, LN_t520.out]; done) | (simp [zL_len, LN_t516.out, LN_t520.out]; done))) _ rfl rfl) rfl ?_)
            | ((with_reducible refine gate_d (N := 28) rfl ?_); refine ag_fix (.bool true) (ex_eq .eql 24 (.agg (bv t516)) (.agg (bv t520)) (.bool true) (fun x_ y_ w_ => run_guard _ x_ y_ _ _ w_) (fun w_ => (eql_board t516 t520 (by first | rfl | (simp only [List.length_set, List.length_replicate, zL_len, List.length_cons, List.length_nil, LN_t516.out, LN_t520.out]; done) | (simp [zL_len, LN_t516.out, LN_t520.out]; done)) (by first | rfl | (simp only [List.length_set, List.length_replicate, zL_len, List.length_cons, List.length_nil, LN_t516.out, LN_t520.out]; done) | (simp [zL_len, LN_t516.out, LN_t520.out]; done)) w_).trans (by first | (rw [decide_eq_true hc531.out]; done) | (rw [decide_eq_true hc531.out]; rfl))) _ _ _ rfl rfl rfl) rfl ?_))
          (try simp only [Act.put, List.setIfInBounds_toArray, List.set_cons_zero, List.set_cons_succ])
          go_ret
          exact ⟨by first | rfl | (simp; done) | (simp [*]; done), HL.out⟩
        · rw [if_neg c532] at H
          have c532b0 : (t517 == t521) = false := beq_eq_false_iff_ne.mpr c532
          have c532b1 : (t517 != t521) = true := bne_iff_ne.mpr c532
          have hc532 := hid c532
          clear c532
          obtain rfl := Option.some.inj H
          clear H
          go_enter Try.func8, Try.ntmps8
          have k543 := True.intro
          have k545 := True.intro
          have k549 := True.intro
          go_wp2_with (first
            | (go_at_call 36; clear k543; refine (i_alfillaw04_wakes.calls k true _ A524.out).mono ?_; rintro e_ w544 ⟨rfl, hb_⟩; replace HL := hid (HL.out.trans (hb_.mono HL.out.size)); clear hb_)
            | (go_at_call 37; clear k545; refine (i_forsyth_Read.calls k a0 t516 t517 t518 _ A529.out).mono ?_; rintro e_ w546 ⟨rfl, ln_t516, hb_⟩; have LN_t516 := hid ln_t516; clear ln_t516; replace HL := hid (HL.out.trans (hb_.mono HL.out.size)); clear hb_)
            | ((with_reducible refine gate_d (N := 3) rfl ?_); obtain ⟨gb519, hgb519⟩ : ∃ g_, w546.heap.size = g_ := ⟨_, rfl⟩; refine ag_alloc boardT gb519 hgb519 rfl rfl ?_; intro w547 hb_ hB_ hs_; have GEb519 : Hid (w.heap.size ≤ gb519) := hid (by have := HL.out.size; omega); replace HL := hid (HL.out.trans (hb_.mono GEb519.out)); have BKb519 := hid hB_; clear hb_ hB_ hs_ hgb519)
            | ((with_reducible refine gate_s (t := 24) (p := 3) rfl ?_); refine ag_store boardT gb519 0 (bv zL) (bv t516) (bv t516) BKb519.out (by rw [show (bv t516) = av (Value.int .i8) t516 from rfl, av_size]; exact (by first | rfl | (simp only [List.length_set, List.length_replicate, zL_len, List.length_cons, List.length_nil, LN_t516.out]; done) | (simp [zL_len, LN_t516.out]; done))) (av_le (by first | rfl | (simp only [List.length_set, List.length_replicate, zL_len, List.length_cons, List.length_nil, LN_t516.out]; done) | (simp [zL_len, LN_t516.out]; done))) (av_one (fun _ => rfl)) (av_put (by first | rfl | (simp only [List.length_set, List.length_replicate, zL_len, List.length_cons, List.length_nil, LN_t516.out]; done) | (simp [zL_len, LN_t516.out]; done)) (by first | rfl | (simp only [List.length_set, List.length_replicate, zL_len, List.length_cons, List.length_nil, LN_t516.out]; done) | (simp [zL_len, LN_t516.out]; done))) rfl _ _ rfl rfl rfl ?_; intro w548 ho_ hB_; replace HL := hid (ho_.below HL.out GEb519.out); replace BKb519 := hid hB_; clear ho_ hB_)
            | (go_at_call 38; clear k549; refine (i_alfilref04_Read.calls k a0 t520 t521 t522 _ A530.out).mono ?_; rintro e_ w550 ⟨rfl, ln_t520, hb_⟩; have LN_t520 := hid ln_t520; clear ln_t520; replace BKb519 := hid (BKb519.out.below hb_ BKb519.out.lt); replace HL := hid (HL.out.trans (hb_.mono HL.out.size)); clear hb_)
            | ((with_reducible refine gate_d (N := 6) rfl ?_); obtain ⟨gb523, hgb523⟩ : ∃ g_, w550.heap.size = g_ := ⟨_, rfl⟩; refine ag_alloc boardT gb523 hgb523 rfl rfl ?_; intro w551 hb_ hB_ hs_; have GEb523 : Hid (w.heap.size ≤ gb523) := hid (by have := HL.out.size; omega); have NBb519_b523 : Hid (gb519 ≠ gb523) := hid (by have := BKb519.out.lt; omega); have NBb523_b519 : Hid (gb523 ≠ gb519) := hid (by have := NBb519_b523.out; omega); replace BKb519 := hid (BKb519.out.below hb_ (by rw [← hgb523]; exact BKb519.out.lt)); replace HL := hid (HL.out.trans (hb_.mono GEb523.out)); have BKb523 := hid hB_; clear hb_ hB_ hs_ hgb523)
            | ((with_reducible refine gate_s (t := 24) (p := 6) rfl ?_); refine ag_store boardT gb523 0 (bv zL) (bv t520) (bv t520) BKb523.out (by rw [show (bv t520) = av (Value.int .i8) t520 from rfl, av_size]; exact (by first | rfl | (simp only [List.length_set, List.length_replicate, zL_len, List.length_cons, List.length_nil, LN_t516.out, LN_t520.out]; done) | (simp [zL_len, LN_t516.out, LN_t520.out]; done))) (av_le (by first | rfl | (simp only [List.length_set, List.length_replicate, zL_len, List.length_cons, List.length_nil, LN_t516.out, LN_t520.out]; done) | (simp [zL_len, LN_t516.out, LN_t520.out]; done))) (av_one (fun _ => rfl)) (av_put (by first | rfl | (simp only [List.length_set, List.length_replicate, zL_len, List.length_cons, List.length_nil, LN_t516.out, LN_t520.out]; done) | (simp [zL_len, LN_t516.out, LN_t520.out]; done)) (by first | rfl | (simp only [List.length_set, List.length_replicate, zL_len, List.length_cons, List.length_nil, LN_t516.out, LN_t520.out]; done) | (simp [zL_len, LN_t516.out, LN_t520.out]; done))) rfl _ _ rfl rfl rfl ?_; intro w552 ho_ hB_; replace BKb519 := hid (BKb519.out.off ho_ NBb519_b523.out); replace HL := hid (ho_.below HL.out GEb523.out); replace BKb523 := hid hB_; clear ho_ hB_)
            | ((with_reducible refine gate_d (N := 26) rfl ?_); refine ag_fix (.agg (bv t516)) (ex_load boardT gb519 0 (bv t516) (bv t516) BKb519.out (av_le (by first | rfl | (simp only [List.length_set, List.length_replicate, zL_len, List.length_cons, List.length_nil, LN_t516.out, LN_t520.out]; done) | (simp [zL_len, LN_t516.out, LN_t520.out]; done))) (av_ex (by first | rfl | (simp only [List.length_set, List.length_replicate, zL_len, List.length_cons, List.length_nil, LN_t516.out, LN_t520.out]; done) | (simp [zL_len, LN_t516.out, LN_t520.out]; done))) _ rfl rfl) rfl ?_)
            | ((with_reducible refine gate_d (N := 27) rfl ?_); refine ag_fix (.agg (bv t520)) (ex_load boardT gb523 0 (bv t520) (bv t520) BKb523.out (av_le (by first | rfl | (simp only [List.length_set, List.length_replicate, zL_len, List.length_cons, List.length_nil, LN_t516.out, LN_t520.out]; done) | (simp [zL_len, LN_t516.out, LN_t520.out]; done))) (av_ex (by first | rfl | (simp only [List.length_set, List.length_replicate, zL_len, List.length_cons, List.length_nil, LN_t516.out, LN_t520.out]; done) | (simp [zL_len, LN_t516.out, LN_t520.out]; done))) _ rfl rfl) rfl ?_)
            | ((with_reducible refine gate_d (N := 28) rfl ?_); refine ag_fix (.bool true) (ex_eq .eql 24 (.agg (bv t516)) (.agg (bv t520)) (.bool true) (fun x_ y_ w_ => run_guard _ x_ y_ _ _ w_) (fun w_ => (eql_board t516 t520 (by first | rfl | (simp only [List.length_set, List.length_replicate, zL_len, List.length_cons, List.length_nil, LN_t516.out, LN_t520.out]; done) | (simp [zL_len, LN_t516.out, LN_t520.out]; done)) (by first | rfl | (simp only [List.length_set, List.length_replicate, zL_len, List.length_cons, List.length_nil, LN_t516.out, LN_t520.out]; done) | (simp [zL_len, LN_t516.out, LN_t520.out]; done)) w_).trans (by first | (rw [decide_eq_true hc531.out]; done) | (rw [decide_eq_true hc531.out]; rfl))) _ _ _ rfl rfl rfl) rfl ?_))
          (try simp only [Act.put, List.setIfInBounds_toArray, List.set_cons_zero, List.set_cons_succ])
          go_ret
          exact ⟨by first | rfl | (simp; done) | (simp [*]; done), HL.out⟩
      · rw [if_neg c531] at H
        have c531b0 : (t516 == t520) = false := beq_eq_false_iff_ne.mpr c531
        have c531b1 : (t516 != t520) = true := bne_iff_ne.mpr c531
        have hc531 := hid c531
        clear c531
        obtain rfl := Option.some.inj H
        clear H
        go_enter Try.func8, Try.ntmps8
        have k553 := True.intro
        have k555 := True.intro
        have k559 := True.intro
        go_wp2_with (first
          | (go_at_call 36; clear k553; refine (i_alfillaw04_wakes.calls k true _ A524.out).mono ?_; rintro e_ w554 ⟨rfl, hb_⟩; replace HL := hid (HL.out.trans (hb_.mono HL.out.size)); clear hb_)
          | (go_at_call 37; clear k555; refine (i_forsyth_Read.calls k a0 t516 t517 t518 _ A529.out).mono ?_; rintro e_ w556 ⟨rfl, ln_t516, hb_⟩; have LN_t516 := hid ln_t516; clear ln_t516; replace HL := hid (HL.out.trans (hb_.mono HL.out.size)); clear hb_)
          | ((with_reducible refine gate_d (N := 3) rfl ?_); obtain ⟨gb519, hgb519⟩ : ∃ g_, w556.heap.size = g_ := ⟨_, rfl⟩; refine ag_alloc boardT gb519 hgb519 rfl rfl ?_; intro w557 hb_ hB_ hs_; have GEb519 : Hid (w.heap.size ≤ gb519) := hid (by have := HL.out.size; omega); replace HL := hid (HL.out.trans (hb_.mono GEb519.out)); have BKb519 := hid hB_; clear hb_ hB_ hs_ hgb519)
          | ((with_reducible refine gate_s (t := 24) (p := 3) rfl ?_); refine ag_store boardT gb519 0 (bv zL) (bv t516) (bv t516) BKb519.out (by rw [show (bv t516) = av (Value.int .i8) t516 from rfl, av_size]; exact (by first | rfl | (simp only [List.length_set, List.length_replicate, zL_len, List.length_cons, List.length_nil, LN_t516.out]; done) | (simp [zL_len, LN_t516.out]; done))) (av_le (by first | rfl | (simp only [List.length_set, List.length_replicate, zL_len, List.length_cons, List.length_nil, LN_t516.out]; done) | (simp [zL_len, LN_t516.out]; done))) (av_one (fun _ => rfl)) (av_put (by first | rfl | (simp only [List.length_set, List.length_replicate, zL_len, List.length_cons, List.length_nil, LN_t516.out]; done) | (simp [zL_len, LN_t516.out]; done)) (by first | rfl | (simp only [List.length_set, List.length_replicate, zL_len, List.length_cons, List.length_nil, LN_t516.out]; done) | (simp [zL_len, LN_t516.out]; done))) rfl _ _ rfl rfl rfl ?_; intro w558 ho_ hB_; replace HL := hid (ho_.below HL.out GEb519.out); replace BKb519 := hid hB_; clear ho_ hB_)
          | (go_at_call 38; clear k559; refine (i_alfilref04_Read.calls k a0 t520 t521 t522 _ A530.out).mono ?_; rintro e_ w560 ⟨rfl, ln_t520, hb_⟩; have LN_t520 := hid ln_t520; clear ln_t520; replace BKb519 := hid (BKb519.out.below hb_ BKb519.out.lt); replace HL := hid (HL.out.trans (hb_.mono HL.out.size)); clear hb_)
          | ((with_reducible refine gate_d (N := 6) rfl ?_); obtain ⟨gb523, hgb523⟩ : ∃ g_, w560.heap.size = g_ := ⟨_, rfl⟩; refine ag_alloc boardT gb523 hgb523 rfl rfl ?_; intro w561 hb_ hB_ hs_; have GEb523 : Hid (w.heap.size ≤ gb523) := hid (by have := HL.out.size; omega); have NBb519_b523 : Hid (gb519 ≠ gb523) := hid (by have := BKb519.out.lt; omega); have NBb523_b519 : Hid (gb523 ≠ gb519) := hid (by have := NBb519_b523.out; omega); replace BKb519 := hid (BKb519.out.below hb_ (by rw [← hgb523]; exact BKb519.out.lt)); replace HL := hid (HL.out.trans (hb_.mono GEb523.out)); have BKb523 := hid hB_; clear hb_ hB_ hs_ hgb523)
          | ((with_reducible refine gate_s (t := 24) (p := 6) rfl ?_); refine ag_store boardT gb523 0 (bv zL) (bv t520) (bv t520) BKb523.out (by rw [show (bv t520) = av (Value.int .i8) t520 from rfl, av_size]; exact (by first | rfl | (simp only [List.length_set, List.length_replicate, zL_len, List.length_cons, List.length_nil, LN_t516.out, LN_t520.out]; done) | (simp [zL_len, LN_t516.out, LN_t520.out]; done))) (av_le (by first | rfl | (simp only [List.length_set, List.length_replicate, zL_len, List.length_cons, List.length_nil, LN_t516.out, LN_t520.out]; done) | (simp [zL_len, LN_t516.out, LN_t520.out]; done))) (av_one (fun _ => rfl)) (av_put (by first | rfl | (simp only [List.length_set, List.length_replicate, zL_len, List.length_cons, List.length_nil, LN_t516.out, LN_t520.out]; done) | (simp [zL_len, LN_t516.out, LN_t520.out]; done)) (by first | rfl | (simp only [List.length_set, List.length_replicate, zL_len, List.length_cons, List.length_nil, LN_t516.out, LN_t520.out]; done) | (simp [zL_len, LN_t516.out, LN_t520.out]; done))) rfl _ _ rfl rfl rfl ?_; intro w562 ho_ hB_; replace BKb519 := hid (BKb519.out.off ho_ NBb519_b523.out); replace HL := hid (ho_.below HL.out GEb523.out); replace BKb523 := hid hB_; clear ho_ hB_)
          | ((with_reducible refine gate_d (N := 26) rfl ?_); refine ag_fix (.agg (bv t516)) (ex_load boardT gb519 0 (bv t516) (bv t516) BKb519.out (av_le (by first | rfl | (simp only [List.length_set, List.length_replicate, zL_len, List.length_cons, List.length_nil, LN_t516.out, LN_t520.out]; done) | (simp [zL_len, LN_t516.out, LN_t520.out]; done))) (av_ex (by first | rfl | (simp only [List.length_set, List.length_replicate, zL_len, List.length_cons, List.length_nil, LN_t516.out, LN_t520.out]; done) | (simp [zL_len, LN_t516.out, LN_t520.out]; done))) _ rfl rfl) rfl ?_)
          | ((with_reducible refine gate_d (N := 27) rfl ?_); refine ag_fix (.agg (bv t520)) (ex_load boardT gb523 0 (bv t520) (bv t520) BKb523.out (av_le (by first | rfl | (simp only [List.length_set, List.length_replicate, zL_len, List.length_cons, List.length_nil, LN_t516.out, LN_t520.out]; done) | (simp [zL_len, LN_t516.out, LN_t520.out]; done))) (av_ex (by first | rfl | (simp only [List.length_set, List.length_replicate, zL_len, List.length_cons, List.length_nil, LN_t516.out, LN_t520.out]; done) | (simp [zL_len, LN_t516.out, LN_t520.out]; done))) _ rfl rfl) rfl ?_)
          | ((with_reducible refine gate_d (N := 28) rfl ?_); refine ag_fix (.bool false) (ex_eq .eql 24 (.agg (bv t516)) (.agg (bv t520)) (.bool false) (fun x_ y_ w_ => run_guard _ x_ y_ _ _ w_) (fun w_ => (eql_board t516 t520 (by first | rfl | (simp only [List.length_set, List.length_replicate, zL_len, List.length_cons, List.length_nil, LN_t516.out, LN_t520.out]; done) | (simp [zL_len, LN_t516.out, LN_t520.out]; done)) (by first | rfl | (simp only [List.length_set, List.length_replicate, zL_len, List.length_cons, List.length_nil, LN_t516.out, LN_t520.out]; done) | (simp [zL_len, LN_t516.out, LN_t520.out]; done)) w_).trans (by first | (rw [decide_eq_false hc531.out]; done) | (rw [decide_eq_false hc531.out]; rfl))) _ _ _ rfl rfl rfl) rfl ?_))
        (try simp only [Act.put, List.setIfInBounds_toArray, List.set_cons_zero, List.set_cons_succ])
        go_ret
        exact ⟨by first | rfl | (simp; done) | (simp [*]; done), HL.out⟩
  | false =>
    rw [if_neg (show ¬ (false = true) by decide)] at H
    obtain rfl := Option.some.inj H
    clear H
    go_enter Try.func8, Try.ntmps8
    have k563 := True.intro
    go_wp2_with (first
      | (go_at_call 36; clear k563; refine (i_alfillaw04_wakes.calls k false _ A524.out).mono ?_; rintro e_ w564 ⟨rfl, hb_⟩; replace HL := hid (HL.out.trans (hb_.mono HL.out.size)); clear hb_))
    (try simp only [Act.put, List.setIfInBounds_toArray, List.set_cons_zero, List.set_cons_succ])
    go_ret
    exact ⟨by first | rfl | (simp; done) | (simp [*]; done), HL.out⟩
end Go.Proofs.Ytpgdcpkggmkooaa
