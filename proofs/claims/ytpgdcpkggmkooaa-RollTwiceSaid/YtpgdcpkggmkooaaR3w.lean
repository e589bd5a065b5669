/- The walk of the law RollWrites. -/
import Derived.Test.YtpgdcpkggmkooaaProg
import Derived.Test.YtpgdcpkggmkooaaR2w
import Derived.Test.YtpgdcpkggmkooaaCv
namespace Go.Proofs.Ytpgdcpkggmkooaa
open Go.RowKit
set_option linter.unusedVariables false
set_option linter.unusedSimpArgs false

/-! i_alfillaw05_wakes: function 41 -/
def i_alfillaw05_wakes.f (k : Nat)  : Option (Bool) := (i_roll_Read.f k (⟨#[119, 104, 105, 116, 101, 32, 75, 103, 49, 32, 80, 97, 50, 32, 98, 108, 97, 99, 107, 32, 75, 101, 56]⟩ : ByteArray)).bind fun bt1 => (if (nt bt1.1 6 0) = 6 then (if (nt bt1.1 8 0) = 1 then (if (nt bt1.1 60 0) = (-6) then (if bt1.2.1 = 23 then (some (bt1.2.2 == 0)) else (some false)) else (some false)) else (some false)) else (some false))
set_option maxHeartbeats 40000000 in
set_option maxRecDepth 100000 in
theorem i_alfillaw05_wakes.calls (k : Nat) (r1 : Bool) (w : World) (h : i_alfillaw05_wakes.f k = some r1) :
    Calls Try.prog 41 #[] w fun e w' => e = .returned (.bool r1) ∧ Below w.heap.size w w' := by
 have HL := hid (Below.refl w.heap.size w)
 have H : ((i_roll_Read.f k (⟨#[119, 104, 105, 116, 101, 32, 75, 103, 49, 32, 80, 97, 50, 32, 98, 108, 97, 99, 107, 32, 75, 101, 56]⟩ : ByteArray)).bind fun bt1 => (if (nt bt1.1 6 0) = 6 then (if (nt bt1.1 8 0) = 1 then (if (nt bt1.1 60 0) = (-6) then (if bt1.2.1 = 23 then (some (bt1.2.2 == 0)) else (some false)) else (some false)) else (some false)) else (some false))) = some r1 := h
 clear h
 replace H := Option.bind_eq_some_iff.mp H
 obtain ⟨⟨t1, t2, t3⟩, A5_, H⟩ := H
 replace H : (if (nt t1 6 0) = 6 then (if (nt t1 8 0) = 1 then (if (nt t1 60 0) = (-6) then (if t2 = 23 then (some (t3 == 0)) else (some false)) else (some false)) else (some false)) else (some false)) = some r1 := H
 have A5 := hid A5_
 clear A5_
 by_cases c6 : (nt t1 6 0) = 6
 ·
  rw [if_pos c6] at H
  have c6b0 : ((nt t1 6 0) == 6) = true := beq_iff_eq.mpr c6
  have c6b1 : ((nt t1 6 0) != 6) = false := bne_eq_false_iff_eq.mpr c6
  have hc6 := hid c6
  clear c6
  by_cases c7 : (nt t1 8 0) = 1
  ·
   rw [if_pos c7] at H
   have c7b0 : ((nt t1 8 0) == 1) = true := beq_iff_eq.mpr c7
   have c7b1 : ((nt t1 8 0) != 1) = false := bne_eq_false_iff_eq.mpr c7
   have hc7 := hid c7
   clear c7
   by_cases c8 : (nt t1 60 0) = (-6)
   ·
    rw [if_pos c8] at H
    have c8b0 : ((nt t1 60 0) == (-6)) = true := beq_iff_eq.mpr c8
    have c8b1 : ((nt t1 60 0) != (-6)) = false := bne_eq_false_iff_eq.mpr c8
    have hc8 := hid c8
    clear c8
    by_cases c9 : t2 = 23
    ·
     rw [if_pos c9] at H
     have c9b0 : (t2 == 23) = true := beq_iff_eq.mpr c9
     have c9b1 : (t2 != 23) = false := bne_eq_false_iff_eq.mpr c9
     have hc9 := hid c9
     clear c9
     obtain rfl := Option.some.inj H
     clear H
     go_enter Try.func41, Try.ntmps41
     have k10 := True.intro
     go_wp2_with (first
      | (go_at_call 44; clear k10; refine (i_roll_Read.calls k (⟨#[119, 104, 105, 116, 101, 32, 75, 103, 49, 32, 80, 97, 50, 32, 98, 108, 97, 99, 107, 32, 75, 101, 56]⟩ : ByteArray) t1 t2 t3 _ A5.out).mono ?_; rintro e_ w11 ⟨rfl, ln_t1, hb_⟩; have LN_t1 := hid ln_t1; clear ln_t1; replace HL := hid (HL.out.trans (hb_.mono HL.out.size)); clear hb_)
      | ((with_reducible refine gate_d (N := 1) rfl ?_); obtain ⟨gb4, hgb4⟩ : ∃ g_, w11.heap.size = g_ := ⟨_, rfl⟩; refine ag_alloc boardT gb4 hgb4 rfl rfl ?_; intro w12 hb_ hB_ hs_; have GEb4 : Hid (w.heap.size ≤ gb4) := hid (by have := HL.out.size; omega); replace HL := hid (HL.out.trans (hb_.mono GEb4.out)); have BKb4 := hid hB_; clear hb_ hB_ hs_ hgb4)
      | ((with_reducible refine gate_s (t := 24) (p := 1) rfl ?_); refine ag_store boardT gb4 0 (bv zL) (bv t1) (bv t1) BKb4.out (by rw [show (bv t1) = av (Value.int .i8) t1 from rfl, av_size]; exact (by first | rfl | (simp only [List.length_set, List.length_replicate, zL_len, List.length_cons, List.length_nil, LN_t1.out]; done) | (simp [zL_len, LN_t1.out]; done))) (av_le (by first | rfl | (simp only [List.length_set, List.length_replicate, zL_len, List.length_cons, List.length_nil, LN_t1.out]; done) | (simp [zL_len, LN_t1.out]; done))) (av_one (fun _ => rfl)) (av_put (by first | rfl | (simp only [List.length_set, List.length_replicate, zL_len, List.length_cons, List.length_nil, LN_t1.out]; done) | (simp [zL_len, LN_t1.out]; done)) (by first | rfl | (simp only [List.length_set, List.length_replicate, zL_len, List.length_cons, List.length_nil, LN_t1.out]; done) | (simp [zL_len, LN_t1.out]; done))) rfl _ _ rfl rfl rfl ?_; intro w13 ho_ hB_; replace HL := hid (ho_.below HL.out GEb4.out); replace BKb4 := hid hB_; clear ho_ hB_)
      | ((with_reducible refine gate_d (N := 9) rfl ?_); refine ag_fix (.pointer (some ⟨gb4, 6, none⟩)) (ex_at 24 (.pointer (some ⟨gb4, 0, none⟩)) (.int .i64 6) (.pointer (some ⟨gb4, 6, none⟩)) (fun w_ => (run_atv 22 uT24 sT22.size gb4 0 6 (by omega) (by omega) w_).trans rfl) _ _ rfl rfl rfl) rfl ?_)
      | ((with_reducible refine gate_d (N := 10) rfl ?_); refine ag_fix (.int .i8 (nt t1 6 0)) (ex_get sT22 gb4 (6) (.int .i8 (nt t1 6 0)) ((bv t1)) BKb4.out (av_get 0 (by have h_ : t1.length = 64 := (by first | rfl | (simp only [List.length_set, List.length_replicate, zL_len, List.length_cons, List.length_nil, LN_t1.out]; done) | (simp [zL_len, LN_t1.out]; done)); omega)) _ rfl rfl) rfl ?_)
      | ((with_reducible refine gate_d (N := 13) rfl ?_); refine ag_fix (.pointer (some ⟨gb4, 8, none⟩)) (ex_at 24 (.pointer (some ⟨gb4, 0, none⟩)) (.int .i64 8) (.pointer (some ⟨gb4, 8, none⟩)) (fun w_ => (run_atv 22 uT24 sT22.size gb4 0 8 (by omega) (by omega) w_).trans rfl) _ _ rfl rfl rfl) rfl ?_)
      | ((with_reducible refine gate_d (N := 14) rfl ?_); refine ag_fix (.int .i8 (nt t1 8 0)) (ex_get sT22 gb4 (8) (.int .i8 (nt t1 8 0)) ((bv t1)) BKb4.out (av_get 0 (by have h_ : t1.length = 64 := (by first | rfl | (simp only [List.length_set, List.length_replicate, zL_len, List.length_cons, List.length_nil, LN_t1.out]; done) | (simp [zL_len, LN_t1.out]; done)); omega)) _ rfl rfl) rfl ?_)
      | ((with_reducible refine gate_d (N := 18) rfl ?_); refine ag_fix (.pointer (some ⟨gb4, 60, none⟩)) (ex_at 24 (.pointer (some ⟨gb4, 0, none⟩)) (.int .i64 60) (.pointer (some ⟨gb4, 60, none⟩)) (fun w_ => (run_atv 22 uT24 sT22.size gb4 0 60 (by omega) (by omega) w_).trans rfl) _ _ rfl rfl rfl) rfl ?_)
      | ((with_reducible refine gate_d (N := 19) rfl ?_); refine ag_fix (.int .i8 (nt t1 60 0)) (ex_get sT22 gb4 (60) (.int .i8 (nt t1 60 0)) ((bv t1)) BKb4.out (av_get 0 (by have h_ : t1.length = 64 := (by first | rfl | (simp only [List.length_set, List.length_replicate, zL_len, List.length_cons, List.length_nil, LN_t1.out]; done) | (simp [zL_len, LN_t1.out]; done)); omega)) _ rfl rfl) rfl ?_))
     (try simp only [Act.put, List.setIfInBounds_toArray, List.set_cons_zero, List.set_cons_succ])
     go_ret
     exact ⟨by first | rfl | (simp; done) | (simp [*]; done), HL.out⟩
    ·
     rw [if_neg c9] at H
     have c9b0 : (t2 == 23) = false := beq_eq_false_iff_ne.mpr c9
     have c9b1 : (t2 != 23) = true := bne_iff_ne.mpr c9
     have hc9 := hid c9
     clear c9
     obtain rfl := Option.some.inj H
     clear H
     go_enter Try.func41, Try.ntmps41
     have k14 := True.intro
     go_wp2_with (first
      | (go_at_call 44; clear k14; refine (i_roll_Read.calls k (⟨#[119, 104, 105, 116, 101, 32, 75, 103, 49, 32, 80, 97, 50, 32, 98, 108, 97, 99, 107, 32, 75, 101, 56]⟩ : ByteArray) t1 t2 t3 _ A5.out).mono ?_; rintro e_ w15 ⟨rfl, ln_t1, hb_⟩; have LN_t1 := hid ln_t1; clear ln_t1; replace HL := hid (HL.out.trans (hb_.mono HL.out.size)); clear hb_)
      | ((with_reducible refine gate_d (N := 1) rfl ?_); obtain ⟨gb4, hgb4⟩ : ∃ g_, w15.heap.size = g_ := ⟨_, rfl⟩; refine ag_alloc boardT gb4 hgb4 rfl rfl ?_; intro w16 hb_ hB_ hs_; have GEb4 : Hid (w.heap.size ≤ gb4) := hid (by have := HL.out.size; omega); replace HL := hid (HL.out.trans (hb_.mono GEb4.out)); have BKb4 := hid hB_; clear hb_ hB_ hs_ hgb4)
      | ((with_reducible refine gate_s (t := 24) (p := 1) rfl ?_); refine ag_store boardT gb4 0 (bv zL) (bv t1) (bv t1) BKb4.out (by rw [show (bv t1) = av (Value.int .i8) t1 from rfl, av_size]; exact (by first | rfl | (simp only [List.length_set, List.length_replicate, zL_len, List.length_cons, List.length_nil, LN_t1.out]; done) | (simp [zL_len, LN_t1.out]; done))) (av_le (by first | rfl | (simp only [List.length_set, List.length_replicate, zL_len, List.length_cons, List.length_nil, LN_t1.out]; done) | (simp [zL_len, LN_t1.out]; done))) (av_one (fun _ => rfl)) (av_put (by first | rfl | (simp only [List.length_set, List.length_replicate, zL_len, List.length_cons, List.length_nil, LN_t1.out]; done) | (simp [zL_len, LN_t1.out]; done)) (by first | rfl | (simp only [List.length_set, List.length_replicate, zL_len, List.length_cons, List.length_nil, LN_t1.out]; done) | (simp [zL_len, LN_t1.out]; done))) rfl _ _ rfl rfl rfl ?_; intro w17 ho_ hB_; replace HL := hid (ho_.below HL.out GEb4.out); replace BKb4 := hid hB_; clear ho_ hB_)
      | ((with_reducible refine gate_d (N := 9) rfl ?_); refine ag_fix (.pointer (some ⟨gb4, 6, none⟩)) (ex_at 24 (.pointer (some ⟨gb4, 0, none⟩)) (.int .i64 6) (.pointer (some ⟨gb4, 6, none⟩)) (fun w_ => (run_atv 22 uT24 sT22.size gb4 0 6 (by omega) (by omega) w_).trans rfl) _ _ rfl rfl rfl) rfl ?_)
      | ((with_reducible refine gate_d (N := 10) rfl ?_); refine ag_fix (.int .i8 (nt t1 6 0)) (ex_get sT22 gb4 (6) (.int .i8 (nt t1 6 0)) ((bv t1)) BKb4.out (av_get 0 (by have h_ : t1.length = 64 := (by first | rfl | (simp only [List.length_set, List.length_replicate, zL_len, List.length_cons, List.length_nil, LN_t1.out]; done) | (simp [zL_len, LN_t1.out]; done)); omega)) _ rfl rfl) rfl ?_)
      | ((with_reducible refine gate_d (N := 13) rfl ?_); refine ag_fix (.pointer (some ⟨gb4, 8, none⟩)) (ex_at 24 (.pointer (some ⟨gb4, 0, none⟩)) (.int .i64 8) (.pointer (some ⟨gb4, 8, none⟩)) (fun w_ => (run_atv 22 uT24 sT22.size gb4 0 8 (by omega) (by omega) w_).trans rfl) _ _ rfl rfl rfl) rfl ?_)
      | ((with_reducible refine gate_d (N := 14) rfl ?_); refine ag_fix (.int .i8 (nt t1 8 0)) (ex_get sT22 gb4 (8) (.int .i8 (nt t1 8 0)) ((bv t1)) BKb4.out (av_get 0 (by have h_ : t1.length = 64 := (by first | rfl | (simp only [List.length_set, List.length_replicate, zL_len, List.length_cons, List.length_nil, LN_t1.out]; done) | (simp [zL_len, LN_t1.out]; done)); omega)) _ rfl rfl) rfl ?_)
      | ((with_reducible refine gate_d (N := 18) rfl ?_); refine ag_fix (.pointer (some ⟨gb4, 60, none⟩)) (ex_at 24 (.pointer (some ⟨gb4, 0, none⟩)) (.int .i64 60) (.pointer (some ⟨gb4, 60, none⟩)) (fun w_ => (run_atv 22 uT24 sT22.size gb4 0 60 (by omega) (by omega) w_).trans rfl) _ _ rfl rfl rfl) rfl ?_)
      | ((with_reducible refine gate_d (N := 19) rfl ?_); refine ag_fix (.int .i8 (nt t1 60 0)) (ex_get sT22 gb4 (60) (.int .i8 (nt t1 60 0)) ((bv t1)) BKb4.out (av_get 0 (by have h_ : t1.length = 64 := (by first | rfl | (simp only [List.length_set, List.length_replicate, zL_len, List.length_cons, List.length_nil, LN_t1.out]; done) | (simp [zL_len, LN_t1.out]; done)); omega)) _ rfl rfl) rfl ?_))
     (try simp only [Act.put, List.setIfInBounds_toArray, List.set_cons_zero, List.set_cons_succ])
     go_ret
     exact ⟨by first | rfl | (simp; done) | (simp [*]; done), HL.out⟩
   ·
    rw [if_neg c8] at H
    have c8b0 : ((nt t1 60 0) == (-6)) = false := beq_eq_false_iff_ne.mpr c8
    have c8b1 : ((nt t1 60 0) != (-6)) = true := bne_iff_ne.mpr c8
    have hc8 := hid c8
    clear c8
    obtain rfl := Option.some.inj H
    clear H
    go_enter Try.func41, Try.ntmps41
    have k18 := True.intro
    go_wp2_with (first
     | (go_at_call 44; clear k18; refine (i_roll_Read.calls k (⟨#[119, 104, 105, 116, 101, 32, 75, 103, 49, 32, 80, 97, 50, 32, 98, 108, 97, 99, 107, 32, 75, 101, 56]⟩ : ByteArray) t1 t2 t3 _ A5.out).mono ?_; rintro e_ w19 ⟨rfl, ln_t1, hb_⟩; have LN_t1 := hid ln_t1; clear ln_t1; replace HL := hid (HL.out.trans (hb_.mono HL.out.size)); clear hb_)
     | ((with_reducible refine gate_d (N := 1) rfl ?_); obtain ⟨gb4, hgb4⟩ : ∃ g_, w19.heap.size = g_ := ⟨_, rfl⟩; refine ag_alloc boardT gb4 hgb4 rfl rfl ?_; intro w20 hb_ hB_ hs_; have GEb4 : Hid (w.heap.size ≤ gb4) := hid (by have := HL.out.size; omega); replace HL := hid (HL.out.trans (hb_.mono GEb4.out)); have BKb4 := hid hB_; clear hb_ hB_ hs_ hgb4)
     | ((with_reducible refine gate_s (t := 24) (p := 1) rfl ?_); refine ag_store boardT gb4 0 (bv zL) (bv t1) (bv t1) BKb4.out (by rw [show (bv t1) = av (Value.int .i8) t1 from rfl, av_size]; exact (by first | rfl | (simp only [List.length_set, List.length_replicate, zL_len, List.length_cons, List.length_nil, LN_t1.out]; done) | (simp [zL_len, LN_t1.out]; done))) (av_le (by first | rfl | (simp only [List.length_set, List.length_replicate, zL_len, List.length_cons, List.length_nil, LN_t1.out]; done) | (simp [zL_len, LN_t1.out]; done))) (av_one (fun _ => rfl)) (av_put (by first | rfl | (simp only [List.length_set, List.length_replicate, zL_len, List.length_cons, List.length_nil, LN_t1.out]; done) | (simp [zL_len, LN_t1.out]; done)) (by first | rfl | (simp only [List.length_set, List.length_replicate, zL_len, List.length_cons, List.length_nil, LN_t1.out]; done) | (simp [zL_len, LN_t1.out]; done))) rfl _ _ rfl rfl rfl ?_; intro w21 ho_ hB_; replace HL := hid (ho_.below HL.out GEb4.out); replace BKb4 := hid hB_; clear ho_ hB_)
     | ((with_reducible refine gate_d (N := 9) rfl ?_); refine ag_fix (.pointer (some ⟨gb4, 6, none⟩)) (ex_at 24 (.pointer (some ⟨gb4, 0, none⟩)) (.int .i64 6) (.pointer (some ⟨gb4, 6, none⟩)) (fun w_ => (run_atv 22 uT24 sT22.size gb4 0 6 (by omega) (by omega) w_).trans rfl) _ _ rfl rfl rfl) rfl ?_)
     | ((with_reducible refine gate_d (N := 10) rfl ?_); refine ag_fix (.int .i8 (nt t1 6 0)) (ex_get sT22 gb4 (6) (.int .i8 (nt t1 6 0)) ((bv t1)) BKb4.out (av_get 0 (by have h_ : t1.length = 64 := (by first | rfl | (simp only [List.length_set, List.length_replicate, zL_len, List.length_cons, List.length_nil, LN_t1.out]; done) | (simp [zL_len, LN_t1.out]; done)); omega)) _ rfl rfl) rfl ?_)
     | ((with_reducible refine gate_d (N := 13) rfl ?_); refine ag_fix (.pointer (some ⟨gb4, 8, none⟩)) (ex_at 24 (.pointer (some ⟨gb4, 0, none⟩)) (.int .i64 8) (.pointer (some ⟨gb4, 8, none⟩)) (fun w_ => (run_atv 22 uT24 sT22.size gb4 0 8 (by omega) (by omega) w_).trans rfl) _ _ rfl rfl rfl) rfl ?_)
     | ((with_reducible refine gate_d (N := 14) rfl ?_); refine ag_fix (.int .i8 (nt t1 8 0)) (ex_get sT22 gb4 (8) (.int .i8 (nt t1 8 0)) ((bv t1)) BKb4.out (av_get 0 (by have h_ : t1.length = 64 := (by first | rfl | (simp only [List.length_set, List.length_replicate, zL_len, List.length_cons, List.length_nil, LN_t1.out]; done) | (simp [zL_len, LN_t1.out]; done)); omega)) _ rfl rfl) rfl ?_)
     | ((with_reducible refine gate_d (N := 18) rfl ?_); refine ag_fix (.pointer (some ⟨gb4, 60, none⟩)) (ex_at 24 (.pointer (some ⟨gb4, 0, none⟩)) (.int .i64 60) (.pointer (some ⟨gb4, 60, none⟩)) (fun w_ => (run_atv 22 uT24 sT22.size gb4 0 60 (by omega) (by omega) w_).trans rfl) _ _ rfl rfl rfl) rfl ?_)
     | ((with_reducible refine gate_d (N := 19) rfl ?_); refine ag_fix (.int .i8 (nt t1 60 0)) (ex_get sT22 gb4 (60) (.int .i8 (nt t1 60 0)) ((bv t1)) BKb4.out (av_get 0 (by have h_ : t1.length = 64 := (by first | rfl | (simp only [List.length_set, List.length_replicate, zL_len, List.length_cons, List.length_nil, LN_t1.out]; done) | (simp [zL_len, LN_t1.out]; done)); omega)) _ rfl rfl) rfl ?_))
    (try simp only [Act.put, List.setIfInBounds_toArray, List.set_cons_zero, List.set_cons_succ])
    go_ret
    exact ⟨by first | rfl | (simp; done) | (simp [*]; done), HL.out⟩
  ·
   rw [if_neg c7] at H
   have c7b0 : ((nt t1 8 0) == 1) = false := beq_eq_false_iff_ne.mpr c7
   have c7b1 : ((nt t1 8 0) != 1) = true := bne_iff_ne.mpr c7
   have hc7 := hid c7
   clear c7
   obtain rfl := Option.some.inj H
   clear H
   go_enter Try.func41, Try.ntmps41
   have k22 := True.intro
   go_wp2_with (first
    | (go_at_call 44; clear k22; refine (i_roll_Read.calls k (⟨#[119, 104, 105, 116, 101, 32, 75, 103, 49, 32, 80, 97, 50, 32, 98, 108, 97, 99, 107, 32, 75, 101, 56]⟩ : ByteArray) t1 t2 t3 _ A5.out).mono ?_; rintro e_ w23 ⟨rfl, ln_t1, hb_⟩; have LN_t1 := hid ln_t1; clear ln_t1; replace HL := hid (HL.out.trans (hb_.mono HL.out.size)); clear hb_)
    | ((with_reducible refine gate_d (N := 1) rfl ?_); obtain ⟨gb4, hgb4⟩ : ∃ g_, w23.heap.size = g_ := ⟨_, rfl⟩; refine ag_alloc boardT gb4 hgb4 rfl rfl ?_; intro w24 hb_ hB_ hs_; have GEb4 : Hid (w.heap.size ≤ gb4) := hid (by have := HL.out.size; omega); replace HL := hid (HL.out.trans (hb_.mono GEb4.out)); have BKb4 := hid hB_; clear hb_ hB_ hs_ hgb4)
    | ((with_reducible refine gate_s (t := 24) (p := 1) rfl ?_); refine ag_store boardT gb4 0 (bv zL) (bv t1) (bv t1) BKb4.out (by rw [show (bv t1) = av (Value.int .i8) t1 from rfl, av_size]; exact (by first | rfl | (simp only [List.length_set, List.length_replicate, zL_len, List.length_cons, List.length_nil, LN_t1.out]; done) | (simp [zL_len, LN_t1.out]; done))) (av_le (by first | rfl | (simp only [List.length_set, List.length_replicate, zL_len, List.length_cons, List.length_nil, LN_t1.out]; done) | (simp [zL_len, LN_t1.out]; done))) (av_one (fun _ => rfl)) (av_put (by first | rfl | (simp only [List.length_set, List.length_replicate, zL_len, List.length_cons, List.length_nil, LN_t1.out]; done) | (simp [zL_len, LN_t1.out]; done)) (by first | rfl | (simp only [List.length_set, List.length_replicate, zL_len, List.length_cons, List.length_nil, LN_t1.out]; done) | (simp [zL_len, LN_t1.out]; done))) rfl _ _ rfl rfl rfl ?_; intro w25 ho_ hB_; replace HL := hid (ho_.below HL.out GEb4.out); replace BKb4 := hid hB_; clear ho_ hB_)
    | ((with_reducible refine gate_d (N := 9) rfl ?_); refine ag_fix (.pointer (some ⟨gb4, 6, none⟩)) (ex_at 24 (.pointer (some ⟨gb4, 0, none⟩)) (.int .i64 6) (.pointer (some ⟨gb4, 6, none⟩)) (fun w_ => (run_atv 22 uT24 sT22.size gb4 0 6 (by omega) (by omega) w_).trans rfl) _ _ rfl rfl rfl) rfl ?_)
    | ((with_reducible refine gate_d (N := 10) rfl ?_); refine ag_fix (.int .i8 (nt t1 6 0)) (ex_get sT22 gb4 (6) (.int .i8 (nt t1 6 0)) ((bv t1)) BKb4.out (av_get 0 (by have h_ : t1.length = 64 := (by first | rfl | (simp only [List.length_set, List.length_replicate, zL_len, List.length_cons, List.length_nil, LN_t1.out]; done) | (simp [zL_len, LN_t1.out]; done)); omega)) _ rfl rfl) rfl ?_)
    | ((with_reducible refine gate_d (N := 13) rfl ?_); refine ag_fix (.pointer (some ⟨gb4, 8, none⟩)) (ex_at 24 (.pointer (some ⟨gb4, 0, none⟩)) (.int .i64 8) (.pointer (some ⟨gb4, 8, none⟩)) (fun w_ => (run_atv 22 uT24 sT22.size gb4 0 8 (by omega) (by omega) w_).trans rfl) _ _ rfl rfl rfl) rfl ?_)
    | ((with_reducible refine gate_d (N := 14) rfl ?_); refine ag_fix (.int .i8 (nt t1 8 0)) (ex_get sT22 gb4 (8) (.int .i8 (nt t1 8 0)) ((bv t1)) BKb4.out (av_get 0 (by have h_ : t1.length = 64 := (by first | rfl | (simp only [List.length_set, List.length_replicate, zL_len, List.length_cons, List.length_nil, LN_t1.out]; done) | (simp [zL_len, LN_t1.out]; done)); omega)) _ rfl rfl) rfl ?_))
   (try simp only [Act.put, List.setIfInBounds_toArray, List.set_cons_zero, List.set_cons_succ])
   go_ret
   exact ⟨by first | rfl | (simp; done) | (simp [*]; done), HL.out⟩
 ·
  rw [if_neg c6] at H
  have c6b0 : ((nt t1 6 0) == 6) = false := beq_eq_false_iff_ne.mpr c6
  have c6b1 : ((nt t1 6 0) != 6) = true := bne_iff_ne.mpr c6
  have hc6 := hid c6
  clear c6
  obtain rfl := Option.some.inj H
  clear H
  go_enter Try.func41, Try.ntmps41
  have k26 := True.intro
  go_wp2_with (first
   | (go_at_call 44; clear k26; refine (i_roll_Read.calls k (⟨#[119, 104, 105, 116, 101, 32, 75, 103, 49, 32, 80, 97, 50, 32, 98, 108, 97, 99, 107, 32, 75, 101, 56]⟩ : ByteArray) t1 t2 t3 _ A5.out).mono ?_; rintro e_ w27 ⟨rfl, ln_t1, hb_⟩; have LN_t1 := hid ln_t1; clear ln_t1; replace HL := hid (HL.out.trans (hb_.mono HL.out.size)); clear hb_)
   | ((with_reducible refine gate_d (N := 1) rfl ?_); obtain ⟨gb4, hgb4⟩ : ∃ g_, w27.heap.size = g_ := ⟨_, rfl⟩; refine ag_alloc boardT gb4 hgb4 rfl rfl ?_; intro w28 hb_ hB_ hs_; have GEb4 : Hid (w.heap.size ≤ gb4) := hid (by have := HL.out.size; omega); replace HL := hid (HL.out.trans (hb_.mono GEb4.out)); have BKb4 := hid hB_; clear hb_ hB_ hs_ hgb4)
   | ((with_reducible refine gate_s (t := 24) (p := 1) rfl ?_); refine ag_store boardT gb4 0 (bv zL) (bv t1) (bv t1) BKb4.out (by rw [show (bv t1) = av (Value.int .i8) t1 from rfl, av_size]; exact (by first | rfl | (simp only [List.length_set, List.length_replicate, zL_len, List.length_cons, List.length_nil, LN_t1.out]; done) | (simp [zL_len, LN_t1.out]; done))) (av_le (by first | rfl | (simp only [List.length_set, List.length_replicate, zL_len, List.length_cons, List.length_nil, LN_t1.out]; done) | (simp [zL_len, LN_t1.out]; done))) (av_one (fun _ => rfl)) (av_put (by first | rfl | (simp only [List.length_set, List.length_replicate, zL_len, List.length_cons, List.length_nil, LN_t1.out]; done) | (simp [zL_len, LN_t1.out]; done)) (by first | rfl | (simp only [List.length_set, List.length_replicate, zL_len, List.length_cons, List.length_nil, LN_t1.out]; done) | (simp [zL_len, LN_t1.out]; done))) rfl _ _ rfl rfl rfl ?_; intro w29 ho_ hB_; replace HL := hid (ho_.below HL.out GEb4.out); replace BKb4 := hid hB_; clear ho_ hB_)
   | ((with_reducible refine gate_d (N := 9) rfl ?_); refine ag_fix (.pointer (some ⟨gb4, 6, none⟩)) (ex_at 24 (.pointer (some ⟨gb4, 0, none⟩)) (.int .i64 6) (.pointer (some ⟨gb4, 6, none⟩)) (fun w_ => (run_atv 22 uT24 sT22.size gb4 0 6 (by omega) (by omega) w_).trans rfl) _ _ rfl rfl rfl) rfl ?_)
   | ((with_reducible refine gate_d (N := 10) rfl ?_); refine ag_fix (.int .i8 (nt t1 6 0)) (ex_get sT22 gb4 (6) (.int .i8 (nt t1 6 0)) ((bv t1)) BKb4.out (av_get 0 (by have h_ : t1.length = 64 := (by first | rfl | (simp only [List.length_set, List.length_replicate, zL_len, List.length_cons, List.length_nil, LN_t1.out]; done) | (simp [zL_len, LN_t1.out]; done)); omega)) _ rfl rfl) rfl ?_))
  (try simp only [Act.put, List.setIfInBounds_toArray, List.set_cons_zero, List.set_cons_succ])
  go_ret
  exact ⟨by first | rfl | (simp; done) | (simp [*]; done), HL.out⟩
/-! i_alfillaw05_RollWrites: function 12 -/
def i_alfillaw05_RollWrites.f (k : Nat) (a0 : List Int) : Option (Bool) := (i_alfillaw05_wakes.f k).bind fun t2 => (if t2 = true then ((i_roll_Write.f k a0).bind fun bt3 => ((i_alfilref05_Write.f k a0).bind fun bt5 => (if bt3.1.toList = bt5.1.toList then (if bt3.2 = bt5.2 then ((i_roll_Read.f k bt3.1).bind fun bt7 => (if bt3.2 = 0 then (if bt7.1 = a0 then (if bt7.2.1 = (bt3.1.size : Int) then (some (bt7.2.2 == 0)) else (some false)) else (some false)) else (some true))) else (some false)) else (some false)))) else (some false))
set_option maxHeartbeats 40000000 in
set_option maxRecDepth 100000 in
theorem i_alfillaw05_RollWrites.calls (k : Nat) (a0 : List Int) (hla0 : a0.length = 64) (r1 : Bool) (w : World) (h : i_alfillaw05_RollWrites.f k a0 = some r1) :
    Calls Try.prog 12 #[.agg (bv a0)] w fun e w' => e = .returned (.bool r1) ∧ Below w.heap.size w w' := by
 have LN_a0 := hid hla0
 clear hla0
 have HL := hid (Below.refl w.heap.size w)
 have H : ((i_alfillaw05_wakes.f k).bind fun t2 => (if t2 = true then ((i_roll_Write.f k a0).bind fun bt3 => ((i_alfilref05_Write.f k a0).bind fun bt5 => (if bt3.1.toList = bt5.1.toList then (if bt3.2 = bt5.2 then ((i_roll_Read.f k bt3.1).bind fun bt7 => (if bt3.2 = 0 then (if bt7.1 = a0 then (if bt7.2.1 = (bt3.1.size : Int) then (some (bt7.2.2 == 0)) else (some false)) else (some false)) else (some true))) else (some false)) else (some false)))) else (some false))) = some r1 := h
 clear h
 replace H := Option.bind_eq_some_iff.mp H
 obtain ⟨t2, A11_, H⟩ := H
 replace H : (if t2 = true then ((i_roll_Write.f k a0).bind fun bt3 => ((i_alfilref05_Write.f k a0).bind fun bt5 => (if bt3.1.toList = bt5.1.toList then (if bt3.2 = bt5.2 then ((i_roll_Read.f k bt3.1).bind fun bt7 => (if bt3.2 = 0 then (if bt7.1 = a0 then (if bt7.2.1 = (bt3.1.size : Int) then (some (bt7.2.2 == 0)) else (some false)) else (some false)) else (some true))) else (some false)) else (some false)))) else (some false)) = some r1 := H
 have A11 := hid A11_
 clear A11_
 cases t2 with
 | true =>
  rw [if_pos rfl] at H
  replace H := Option.bind_eq_some_iff.mp H
  obtain ⟨⟨t3, t4⟩, A13_, H⟩ := H
  replace H : ((i_alfilref05_Write.f k a0).bind fun bt5 => (if t3.toList = bt5.1.toList then (if t4 = bt5.2 then ((i_roll_Read.f k t3).bind fun bt7 => (if t4 = 0 then (if bt7.1 = a0 then (if bt7.2.1 = (t3.size : Int) then (some (bt7.2.2 == 0)) else (some false)) else (some false)) else (some true))) else (some false)) else (some false))) = some r1 := H
  have A13 := hid A13_
  clear A13_
  replace H := Option.bind_eq_some_iff.mp H
  obtain ⟨⟨t5, t6⟩, A14_, H⟩ := H
  replace H : (if t3.toList = t5.toList then (if t4 = t6 then ((i_roll_Read.f k t3).bind fun bt7 => (if t4 = 0 then (if bt7.1 = a0 then (if bt7.2.1 = (t3.size : Int) then (some (bt7.2.2 == 0)) else (some false)) else (some false)) else (some true))) else (some false)) else (some false)) = some r1 := H
  have A14 := hid A14_
  clear A14_
  by_cases c15 : t3.toList = t5.toList
  ·
   rw [if_pos c15] at H
   have c15b0 : (t3.toList == t5.toList) = true := beq_iff_eq.mpr c15
   have c15b1 : (t3.toList != t5.toList) = false := bne_eq_false_iff_eq.mpr c15
   have hc15 := hid c15
   clear c15
   by_cases c16 : t4 = t6
   ·
    rw [if_pos c16] at H
    have c16b0 : (t4 == t6) = true := beq_iff_eq.mpr c16
    have c16b1 : (t4 != t6) = false := bne_eq_false_iff_eq.mpr c16
    have hc16 := hid c16
    clear c16
    replace H := Option.bind_eq_some_iff.mp H
    obtain ⟨⟨t7, t8, t9⟩, A17_, H⟩ := H
    replace H : (if t4 = 0 then (if t7 = a0 then (if t8 = (t3.size : Int) then (some (t9 == 0)) else (some false)) else (some false)) else (some true)) = some r1 := H
    have A17 := hid A17_
    clear A17_
    by_cases c18 : t4 = 0
    ·
     rw [if_pos c18] at H
     have c18b0 : (t4 == 0) = true := beq_iff_eq.mpr c18
     have c18b1 : (t4 != 0) = false := bne_eq_false_iff_eq.mpr c18
     have hc18 := hid c18
     clear c18
     by_cases c19 : t7 = a0
     ·
      rw [if_pos c19] at H
      have c19b0 : (t7 == a0) = true := beq_iff_eq.mpr c19
      have c19b1 : (t7 != a0) = false := bne_eq_false_iff_eq.mpr c19
      have hc19 := hid c19
      clear c19
      by_cases c20 : t8 = (t3.size : Int)
      ·
       rw [if_pos c20] at H
       have c20b0 : (t8 == (t3.size : Int)) = true := beq_iff_eq.mpr c20
       have c20b1 : (t8 != (t3.size : Int)) = false := bne_eq_false_iff_eq.mpr c20
       have hc20 := hid c20
       clear c20
       obtain rfl := Option.some.inj H
       clear H
       go_enter Try.func12, Try.ntmps12
       have k22 := True.intro
       have k24 := True.intro
       have k26 := True.intro
       have k28 := True.intro
       go_wp2_with (first
        | ((with_reducible refine gate_d (N := 1) rfl ?_); obtain ⟨gb1, hgb1⟩ : ∃ g_, w.heap.size = g_ := ⟨_, rfl⟩; refine ag_box (bv a0) gb1 hgb1 rfl _ rfl rfl ?_; intro w21 hb_ hB_ hs_; have GEb1 : Hid (w.heap.size ≤ gb1) := hid (by have := HL.out.size; omega); replace HL := hid (HL.out.trans (hb_.mono GEb1.out)); have BKb1 := hid hB_; clear hb_ hB_ hs_ hgb1)
        | (go_at_call 41; clear k22; refine (i_alfillaw05_wakes.calls k true _ A11.out).mono ?_; rintro e_ w23 ⟨rfl, hb_⟩; replace BKb1 := hid (BKb1.out.below hb_ BKb1.out.lt); replace HL := hid (HL.out.trans (hb_.mono HL.out.size)); clear hb_)
        | ((with_reducible refine gate_d (N := 13) rfl ?_); refine ag_fix (.agg (bv a0)) (ex_load boardT gb1 0 (bv a0) (bv a0) BKb1.out (av_le (by first | rfl | (simp only [List.length_set, List.length_replicate, zL_len, List.length_cons, List.length_nil, LN_a0.out]; done) | (simp [zL_len, LN_a0.out]; done))) (av_ex (by first | rfl | (simp only [List.length_set, List.length_replicate, zL_len, List.length_cons, List.length_nil, LN_a0.out]; done) | (simp [zL_len, LN_a0.out]; done))) _ rfl rfl) rfl ?_)
        | (go_at_call 42; clear k24; refine (i_roll_Write.calls k a0 (by first | rfl | (simp only [List.length_set, List.length_replicate, zL_len, List.length_cons, List.length_nil, LN_a0.out]; done) | (simp [zL_len, LN_a0.out]; done)) t3 t4 _ A13.out).mono ?_; rintro e_ w25 ⟨rfl, hb_⟩; replace BKb1 := hid (BKb1.out.below hb_ BKb1.out.lt); replace HL := hid (HL.out.trans (hb_.mono HL.out.size)); clear hb_)
        | ((with_reducible refine gate_d (N := 18) rfl ?_); refine ag_fix (.agg (bv a0)) (ex_load boardT gb1 0 (bv a0) (bv a0) BKb1.out (av_le (by first | rfl | (simp only [List.length_set, List.length_replicate, zL_len, List.length_cons, List.length_nil, LN_a0.out]; done) | (simp [zL_len, LN_a0.out]; done))) (av_ex (by first | rfl | (simp only [List.length_set, List.length_replicate, zL_len, List.length_cons, List.length_nil, LN_a0.out]; done) | (simp [zL_len, LN_a0.out]; done))) _ rfl rfl) rfl ?_)
        | (go_at_call 43; clear k26; refine (i_alfilref05_Write.calls k a0 (by first | rfl | (simp only [List.length_set, List.length_replicate, zL_len, List.length_cons, List.length_nil, LN_a0.out]; done) | (simp [zL_len, LN_a0.out]; done)) t5 t6 _ A14.out).mono ?_; rintro e_ w27 ⟨rfl, hb_⟩; replace BKb1 := hid (BKb1.out.below hb_ BKb1.out.lt); replace HL := hid (HL.out.trans (hb_.mono HL.out.size)); clear hb_)
        | (go_at_call 44; clear k28; refine (i_roll_Read.calls k t3 t7 t8 t9 _ A17.out).mono ?_; rintro e_ w29 ⟨rfl, ln_t7, hb_⟩; have LN_t7 := hid ln_t7; clear ln_t7; replace BKb1 := hid (BKb1.out.below hb_ BKb1.out.lt); replace HL := hid (HL.out.trans (hb_.mono HL.out.size)); clear hb_)
        | ((with_reducible refine gate_d (N := 7) rfl ?_); obtain ⟨gb10, hgb10⟩ : ∃ g_, w29.heap.size = g_ := ⟨_, rfl⟩; refine ag_alloc boardT gb10 hgb10 rfl rfl ?_; intro w30 hb_ hB_ hs_; have GEb10 : Hid (w.heap.size ≤ gb10) := hid (by have := HL.out.size; omega); have NBb1_b10 : Hid (gb1 ≠ gb10) := hid (by have := BKb1.out.lt; omega); have NBb10_b1 : Hid (gb10 ≠ gb1) := hid (by have := NBb1_b10.out; omega); replace BKb1 := hid (BKb1.out.below hb_ (by rw [← hgb10]; exact BKb1.out.lt)); replace HL := hid (HL.out.trans (hb_.mono GEb10.out)); have BKb10 := hid hB_; clear hb_ hB_ hs_ hgb10)
        | ((with_reducible refine gate_s (t := 24) (p := 7) rfl ?_); refine ag_store boardT gb10 0 (bv zL) (bv t7) (bv t7) BKb10.out (by rw [show (bv t7) = av (Value.int .i8) t7 from rfl, av_size]; exact (by first | rfl | (simp only [List.length_set, List.length_replicate, zL_len, List.length_cons, List.length_nil, LN_a0.out, LN_t7.out]; done) | (simp [zL_len, LN_a0.out, LN_t7.out]; done))) (av_le (by first | rfl | (simp only [List.length_set, List.length_replicate, zL_len, List.length_cons, List.length_nil, LN_a0.out, LN_t7.out]; done) | (simp [zL_len, LN_a0.out, LN_t7.out]; done))) (av_one (fun _ => rfl)) (av_put (by first | rfl | (simp only [List.length_set, List.length_replicate, zL_len, List.length_cons, List.length_nil, LN_a0.out, LN_t7.out]; done) | (simp [zL_len, LN_a0.out, LN_t7.out]; done)) (by first | rfl | (simp only [List.length_set, List.length_replicate, zL_len, List.length_cons, List.length_nil, LN_a0.out, LN_t7.out]; done) | (simp [zL_len, LN_a0.out, LN_t7.out]; done))) rfl _ _ rfl rfl rfl ?_; intro w31 ho_ hB_; replace BKb1 := hid (BKb1.out.off ho_ NBb1_b10.out); replace HL := hid (ho_.below HL.out GEb10.out); replace BKb10 := hid hB_; clear ho_ hB_)
        | ((with_reducible refine gate_d (N := 39) rfl ?_); refine ag_fix (.agg (bv t7)) (ex_load boardT gb10 0 (bv t7) (bv t7) BKb10.out (av_le (by first | rfl | (simp only [List.length_set, List.length_replicate, zL_len, List.length_cons, List.length_nil, LN_a0.out, LN_t7.out]; done) | (simp [zL_len, LN_a0.out, LN_t7.out]; done))) (av_ex (by first | rfl | (simp only [List.length_set, List.length_replicate, zL_len, List.length_cons, List.length_nil, LN_a0.out, LN_t7.out]; done) | (simp [zL_len, LN_a0.out, LN_t7.out]; done))) _ rfl rfl) rfl ?_)
        | ((with_reducible refine gate_d (N := 40) rfl ?_); refine ag_fix (.agg (bv a0)) (ex_load boardT gb1 0 (bv a0) (bv a0) BKb1.out (av_le (by first | rfl | (simp only [List.length_set, List.length_replicate, zL_len, List.length_cons, List.length_nil, LN_a0.out, LN_t7.out]; done) | (simp [zL_len, LN_a0.out, LN_t7.out]; done))) (av_ex (by first | rfl | (simp only [List.length_set, List.length_replicate, zL_len, List.length_cons, List.length_nil, LN_a0.out, LN_t7.out]; done) | (simp [zL_len, LN_a0.out, LN_t7.out]; done))) _ rfl rfl) rfl ?_)
        | ((with_reducible refine gate_d (N := 41) rfl ?_); refine ag_fix (.bool true) (ex_eq .eql 24 (.agg (bv t7)) (.agg (bv a0)) (.bool true) (fun x_ y_ w_ => run_guard _ x_ y_ _ _ w_) (fun w_ => (eql_board t7 a0 (by first | rfl | (simp only [List.length_set, List.length_replicate, zL_len, List.length_cons, List.length_nil, LN_a0.out, LN_t7.out]; done) | (simp [zL_len, LN_a0.out, LN_t7.out]; done)) (by first | rfl | (simp only [List.length_set, List.length_replicate, zL_len, List.length_cons, List.length_nil, LN_a0.out, LN_t7.out]; done) | (simp [zL_len, LN_a0.out, LN_t7.out]; done)) w_).trans (by first | (rw [decide_eq_true hc19.out]; done) | (rw [decide_eq_true hc19.out]; rfl))) _ _ _ rfl rfl rfl) rfl ?_))
       (try simp only [Act.put, List.setIfInBounds_toArray, List.set_cons_zero, List.set_cons_succ])
       go_ret
       exact ⟨by first | rfl | (simp; done) | (simp [*]; done), HL.out⟩
      ·
       rw [if_neg c20] at H
       have c20b0 : (t8 == (t3.size : Int)) = false := beq_eq_false_iff_ne.mpr c20
       have c20b1 : (t8 != (t3.size : Int)) = true := bne_iff_ne.mpr c20
       have hc20 := hid c20
       clear c20
       obtain rfl := Option.some.inj H
       clear H
       go_enter Try.func12, Try.ntmps12
       have k33 := True.intro
       have k35 := True.intro
       have k37 := True.intro
       have k39 := True.intro
       go_wp2_with (first
        | ((with_reducible refine gate_d (N := 1) rfl ?_); obtain ⟨gb1, hgb1⟩ : ∃ g_, w.heap.size = g_ := ⟨_, rfl⟩; refine ag_box (bv a0) gb1 hgb1 rfl _ rfl rfl ?_; intro w32 hb_ hB_ hs_; have GEb1 : Hid (w.heap.size ≤ gb1) := hid (by have := HL.out.size; omega); replace HL := hid (HL.out.trans (hb_.mono GEb1.out)); have BKb1 := hid hB_; clear hb_ hB_ hs_ hgb1)
        | (go_at_call 41; clear k33; refine (i_alfillaw05_wakes.calls k true _ A11.out).mono ?_; rintro e_ w34 ⟨rfl, hb_⟩; replace BKb1 := hid (BKb1.out.below hb_ BKb1.out.lt); replace HL := hid (HL.out.trans (hb_.mono HL.out.size)); clear hb_)
        | ((with_reducible refine gate_d (N := 13) rfl ?_); refine ag_fix (.agg (bv a0)) (ex_load boardT gb1 0 (bv a0) (bv a0) BKb1.out (av_le (by first | rfl | (simp only [List.length_set, List.length_replicate, zL_len, List.length_cons, List.length_nil, LN_a0.out]; done) | (simp [zL_len, LN_a0.out]; done))) (av_ex (by first | rfl | (simp only [List.length_set, List.length_replicate, zL_len, List.length_cons, List.length_nil, LN_a0.out]; done) | (simp [zL_len, LN_a0.out]; done))) _ rfl rfl) rfl ?_)
        | (go_at_call 42; clear k35; refine (i_roll_Write.calls k a0 (by first | rfl | (simp only [List.length_set, List.length_replicate, zL_len, List.length_cons, List.length_nil, LN_a0.out]; done) | (simp [zL_len, LN_a0.out]; done)) t3 t4 _ A13.out).mono ?_; rintro e_ w36 ⟨rfl, hb_⟩; replace BKb1 := hid (BKb1.out.below hb_ BKb1.out.lt); replace HL := hid (HL.out.trans (hb_.mono HL.out.size)); clear hb_)
        | ((with_reducible refine gate_d (N := 18) rfl ?_); refine ag_fix (.agg (bv a0)) (ex_load boardT gb1 0 (bv a0) (bv a0) BKb1.out (av_le (by first | rfl | (simp only [List.length_set, List.length_replicate, zL_len, List.length_cons, List.length_nil, LN_a0.out]; done) | (simp [zL_len, LN_a0.out]; done))) (av_ex (by first | rfl | (simp only [List.length_set, List.length_replicate, zL_len, List.length_cons, List.length_nil, LN_a0.out]; done) | (simp [zL_len, LN_a0.out]; done))) _ rfl rfl) rfl ?_)
        | (go_at_call 43; clear k37; refine (i_alfilref05_Write.calls k a0 (by first | rfl | (simp only [List.length_set, List.length_replicate, zL_len, List.length_cons, List.length_nil, LN_a0.out]; done) | (simp [zL_len, LN_a0.out]; done)) t5 t6 _ A14.out).mono ?_; rintro e_ w38 ⟨rfl, hb_⟩; replace BKb1 := hid (BKb1.out.below hb_ BKb1.out.lt); replace HL := hid (HL.out.trans (hb_.mono HL.out.size)); clear hb_)
        | (go_at_call 44; clear k39; refine (i_roll_Read.calls k t3 t7 t8 t9 _ A17.out).mono ?_; rintro e_ w40 ⟨rfl, ln_t7, hb_⟩; have LN_t7 := hid ln_t7; clear ln_t7; replace BKb1 := hid (BKb1.out.below hb_ BKb1.out.lt); replace HL := hid (HL.out.trans (hb_.mono HL.out.size)); clear hb_)
        | ((with_reducible refine gate_d (N := 7) rfl ?_); obtain ⟨gb10, hgb10⟩ : ∃ g_, w40.heap.size = g_ := ⟨_, rfl⟩; refine ag_alloc boardT gb10 hgb10 rfl rfl ?_; intro w41 hb_ hB_ hs_; have GEb10 : Hid (w.heap.size ≤ gb10) := hid (by have := HL.out.size; omega); have NBb1_b10 : Hid (gb1 ≠ gb10) := hid (by have := BKb1.out.lt; omega); have NBb10_b1 : Hid (gb10 ≠ gb1) := hid (by have := NBb1_b10.out; omega); replace BKb1 := hid (BKb1.out.below hb_ (by rw [← hgb10]; exact BKb1.out.lt)); replace HL := hid (HL.out.trans (hb_.mono GEb10.out)); have BKb10 := hid hB_; clear hb_ hB_ hs_ hgb10)
        | ((with_reducible refine gate_s (t := 24) (p := 7) rfl ?_); refine ag_store boardT gb10 0 (bv zL) (bv t7) (bv t7) BKb10.out (by rw [show (bv t7) = av (Value.int .i8) t7 from rfl, av_size]; exact (by first | rfl | (simp only [List.length_set, List.length_replicate, zL_len, List.length_cons, List.length_nil, LN_a0.out, LN_t7.out]; done) | (simp [zL_len, LN_a0.out, LN_t7.out]; done))) (av_le (by first | rfl | (simp only [List.length_set, List.length_replicate, zL_len, List.length_cons, List.length_nil, LN_a0.out, LN_t7.out]; done) | (simp [zL_len, LN_a0.out, LN_t7.out]; done))) (av_one (fun _ => rfl)) (av_put (by first | rfl | (simp only [List.length_set, List.length_replicate, zL_len, List.length_cons, List.length_nil, LN_a0.out, LN_t7.out]; done) | (simp [zL_len, LN_a0.out, LN_t7.out]; done)) (by first | rfl | (simp only [List.length_set, List.length_replicate, zL_len, List.length_cons, List.length_nil, LN_a0.out, LN_t7.out]; done) | (simp [zL_len, LN_a0.out, LN_t7.out]; done))) rfl _ _ rfl rfl rfl ?_; intro w42 ho_ hB_; replace BKb1 := hid (BKb1.out.off ho_ NBb1_b10.out); replace HL := hid (ho_.below HL.out GEb10.out); replace BKb10 := hid hB_; clear ho_ hB_)
        | ((with_reducible refine gate_d (N := 39) rfl ?_); refine ag_fix (.agg (bv t7)) (ex_load boardT gb10 0 (bv t7) (bv t7) BKb10.out (av_le (by first | rfl | (simp only [List.length_set, List.length_replicate, zL_len, List.length_cons, List.length_nil, LN_a0.out, LN_t7.out]; done) | (simp [zL_len, LN_a0.out, LN_t7.out]; done))) (av_ex (by first | rfl | (simp only [List.length_set, List.length_replicate, zL_len, List.length_cons, List.length_nil, LN_a0.out, LN_t7.out]; done) | (simp [zL_len, LN_a0.out, LN_t7.out]; done))) _ rfl rfl) rfl ?_)
        | ((with_reducible refine gate_d (N := 40) rfl ?_); refine ag_fix (.agg (bv a0)) (ex_load boardT gb1 0 (bv a0) (bv a0) BKb1.out (av_le (by first | rfl | (simp only [List.length_set, List.length_replicate, zL_len, List.length_cons, List.length_nil, LN_a0.out, LN_t7.out]; done) | (simp [zL_len, LN_a0.out, LN_t7.out]; done))) (av_ex (by first | rfl | (simp only [List.length_set, List.length_replicate, zL_len, List.length_cons, List.length_nil, LN_a0.out, LN_t7.out]; done) | (simp [zL_len, LN_a0.out, LN_t7.out]; done))) _ rfl rfl) rfl ?_)
        | ((with_reducible refine gate_d (N := 41) rfl ?_); refine ag_fix (.bool true) (ex_eq .eql 24 (.agg (bv t7)) (.agg (bv a0)) (.bool true) (fun x_ y_ w_ => run_guard _ x_ y_ _ _ w_) (fun w_ => (eql_board t7 a0 (by first | rfl | (simp only [List.length_set, List.length_replicate, zL_len, List.length_cons, List.length_nil, LN_a0.out, LN_t7.out]; done) | (simp [zL_len, LN_a0.out, LN_t7.out]; done)) (by first | rfl | (simp only [List.length_set, List.length_replicate, zL_len, List.length_cons, List.length_nil, LN_a0.out, LN_t7.out]; done) | (simp [zL_len, LN_a0.out, LN_t7.out]; done)) w_).trans (by first | (rw [decide_eq_true hc19.out]; done) | (rw [decide_eq_true hc19.out]; rfl))) _ _ _ rfl rfl rfl) rfl ?_))
       (try simp only [Act.put, List.setIfInBounds_toArray, List.set_cons_zero, List.set_cons_succ])
       go_ret
       exact ⟨by first | rfl | (simp; done) | (simp [*]; done), HL.out⟩
     ·
      rw [if_neg c19] at H
      have c19b0 : (t7 == a0) = false := beq_eq_false_iff_ne.mpr c19
      have c19b1 : (t7 != a0) = true := bne_iff_ne.mpr c19
      have hc19 := hid c19
      clear c19
      obtain rfl := Option.some.inj H
      clear H
      go_enter Try.func12, Try.ntmps12
      have k44 := True.intro
      have k46 := True.intro
      have k48 := True.intro
      have k50 := True.intro
      go_wp2_with (first
       | ((with_reducible refine gate_d (N := 1) rfl ?_); obtain ⟨gb1, hgb1⟩ : ∃ g_, w.heap.size = g_ := ⟨_, rfl⟩; refine ag_box (bv a0) gb1 hgb1 rfl _ rfl rfl ?_; intro w43 hb_ hB_ hs_; have GEb1 : Hid (w.heap.size ≤ gb1) := hid (by have := HL.out.size; omega); replace HL := hid (HL.out.trans (hb_.mono GEb1.out)); have BKb1 := hid hB_; clear hb_ hB_ hs_ hgb1)
       | (go_at_call 41; clear k44; refine (i_alfillaw05_wakes.calls k true _ A11.out).mono ?_; rintro e_ w45 ⟨rfl, hb_⟩; replace BKb1 := hid (BKb1.out.below hb_ BKb1.out.lt); replace HL := hid (HL.out.trans (hb_.mono HL.out.size)); clear hb_)
       | ((with_reducible refine gate_d (N := 13) rfl ?_); refine ag_fix (.agg (bv a0)) (ex_load boardT gb1 0 (bv a0) (bv a0) BKb1.out (av_le (by first | rfl | (simp only [List.length_set, List.length_replicate, zL_len, List.length_cons, List.length_nil, LN_a0.out]; done) | (simp [zL_len, LN_a0.out]; done))) (av_ex (by first | rfl | (simp only [List.length_set, List.length_replicate, zL_len, List.length_cons, List.length_nil, LN_a0.out]; done) | (simp [zL_len, LN_a0.out]; done))) _ rfl rfl) rfl ?_)
       | (go_at_call 42; clear k46; refine (i_roll_Write.calls k a0 (by first | rfl | (simp only [List.length_set, List.length_replicate, zL_len, List.length_cons, List.length_nil, LN_a0.out]; done) | (simp [zL_len, LN_a0.out]; done)) t3 t4 _ A13.out).mono ?_; rintro e_ w47 ⟨rfl, hb_⟩; replace BKb1 := hid (BKb1.out.below hb_ BKb1.out.lt); replace HL := hid (HL.out.trans (hb_.mono HL.out.size)); clear hb_)
       | ((with_reducible refine gate_d (N := 18) rfl ?_); refine ag_fix (.agg (bv a0)) (ex_load boardT gb1 0 (bv a0) (bv a0) BKb1.out (av_le (by first | rfl | (simp only [List.length_set, List.length_replicate, zL_len, List.length_cons, List.length_nil, LN_a0.out]; done) | (simp [zL_len, LN_a0.out]; done))) (av_ex (by first | rfl | (simp only [List.length_set, List.length_replicate, zL_len, List.length_cons, List.length_nil, LN_a0.out]; done) | (simp [zL_len, LN_a0.out]; done))) _ rfl rfl) rfl ?_)
       | (go_at_call 43; clear k48; refine (i_alfilref05_Write.calls k a0 (by first | rfl | (simp only [List.length_set, List.length_replicate, zL_len, List.length_cons, List.length_nil, LN_a0.out]; done) | (simp [zL_len, LN_a0.out]; done)) t5 t6 _ A14.out).mono ?_; rintro e_ w49 ⟨rfl, hb_⟩; replace BKb1 := hid (BKb1.out.below hb_ BKb1.out.lt); replace HL := hid (HL.out.trans (hb_.mono HL.out.size)); clear hb_)
       | (go_at_call 44; clear k50; refine (i_roll_Read.calls k t3 t7 t8 t9 _ A17.out).mono ?_; rintro e_ w51 ⟨rfl, ln_t7, hb_⟩; have LN_t7 := hid ln_t7; clear ln_t7; replace BKb1 := hid (BKb1.out.below hb_ BKb1.out.lt); replace HL := hid (HL.out.trans (hb_.mono HL.out.size)); clear hb_)
       | ((with_reducible refine gate_d (N := 7) rfl ?_); obtain ⟨gb10, hgb10⟩ : ∃ g_, w51.heap.size = g_ := ⟨_, rfl⟩; refine ag_alloc boardT gb10 hgb10 rfl rfl ?_; intro w52 hb_ hB_ hs_; have GEb10 : Hid (w.heap.size ≤ gb10) := hid (by have := HL.out.size; omega); have NBb1_b10 : Hid (gb1 ≠ gb10) := hid (by have := BKb1.out.lt; omega); have NBb10_b1 : Hid (gb10 ≠ gb1) := hid (by have := NBb1_b10.out; omega); replace BKb1 := hid (BKb1.out.below hb_ (by rw [← hgb10]; exact BKb1.out.lt)); replace HL := hid (HL.out.trans (hb_.mono GEb10.out)); have BKb10 := hid hB_; clear hb_ hB_ hs_ hgb10)
       | ((with_reducible refine gate_s (t := 24) (p := 7) rfl ?_); refine ag_store boardT gb10 0 (bv zL) (bv t7) (bv t7) BKb10.out (by rw [show (bv t7) = av (Value.int .i8) t7 from rfl, av_size]; exact (by first | rfl | (simp only [List.length_set, List.length_replicate, zL_len, List.length_cons, List.length_nil, LN_a0.out, LN_t7.out]; done) | (simp [zL_len, LN_a0.out, LN_t7.out]; done))) (av_le (by first | rfl | (simp only [List.length_set, List.length_replicate, zL_len, List.length_cons, List.length_nil, LN_a0.out, LN_t7.out]; done) | (simp [zL_len, LN_a0.out, LN_t7.out]; done))) (av_one (fun _ => rfl)) (av_put (by first | rfl | (simp only [List.length_set, List.length_replicate, zL_len, List.length_cons, List.length_nil, LN_a0.out, LN_t7.out]; done) | (simp [zL_len, LN_a0.out, LN_t7.out]; done)) (by first | rfl | (simp only [List.length_set, List.length_replicate, zL_len, List.length_cons, List.length_nil, LN_a0.out, LN_t7.out]; done) | (simp [zL_len, LN_a0.out, LN_t7.out]; done))) rfl _ _ rfl rfl rfl ?_; intro w53 ho_ hB_; replace BKb1 := hid (BKb1.out.off ho_ NBb1_b10.out); replace HL := hid (ho_.below HL.out GEb10.out); replace BKb10 := hid hB_; clear ho_ hB_)
       | ((with_reducible refine gate_d (N := 39) rfl ?_); refine ag_fix (.agg (bv t7)) (ex_load boardT gb10 0 (bv t7) (bv t7) BKb10.out (av_le (by first | rfl | (simp only [List.length_set, List.length_replicate, zL_len, List.length_cons, List.length_nil, LN_a0.out, LN_t7.out]; done) | (simp [zL_len, LN_a0.out, LN_t7.out]; done))) (av_ex (by first | rfl | (simp only [List.length_set, List.length_replicate, zL_len, List.length_cons, List.length_nil, LN_a0.out, LN_t7.out]; done) | (simp [zL_len, LN_a0.out, LN_t7.out]; done))) _ rfl rfl) rfl ?_)
       | ((with_reducible refine gate_d (N := 40) rfl ?_); refine ag_fix (.agg (bv a0)) (ex_load boardT gb1 0 (bv a0) (bv a0) BKb1.out (av_le (by first | rfl | (simp only [List.length_set, List.length_replicate, zL_len, List.length_cons, List.length_nil, LN_a0.out, LN_t7.out]; done) | (simp [zL_len, LN_a0.out, LN_t7.out]; done))) (av_ex (by first | rfl | (simp only [List.length_set, List.length_replicate, zL_len, List.length_cons, List.length_nil, LN_a0.out, LN_t7.out]; done) | (simp [zL_len, LN_a0.out, LN_t7.out]; done))) _ rfl rfl) rfl ?_)
       | ((with_reducible refine gate_d (N := 41) rfl ?_); refine ag_fix (.bool false) (ex_eq .eql 24 (.agg (bv t7)) (.agg (bv a0)) (.bool false) (fun x_ y_ w_ => run_guard _ x_ y_ _ _ w_) (fun w_ => (eql_board t7 a0 (by first | rfl | (simp only [List.length_set, List.length_replicate, zL_len, List.length_cons, List.length_nil, LN_a0.out, LN_t7.out]; done) | (simp [zL_len, LN_a0.out, LN_t7.out]; done)) (by first | rfl | (simp only [List.length_set, List.length_replicate, zL_len, List.length_cons, List.length_nil, LN_a0.out, LN_t7.out]; done) | (simp [zL_len, LN_a0.out, LN_t7.out]; done)) w_).trans (by first | (rw [decide_eq_false hc19.out]; done) | (rw [decide_eq_false hc19.out]; rfl))) _ _ _ rfl rfl rfl) rfl ?_))
      (try simp only [Act.put, List.setIfInBounds_toArray, List.set_cons_zero, List.set_cons_succ])
      go_ret
      exact ⟨by first | rfl | (simp; done) | (simp [*]; done), HL.out⟩
    ·
     rw [if_neg c18] at H
     have c18b0 : (t4 == 0) = false := beq_eq_false_iff_ne.mpr c18
     have c18b1 : (t4 != 0) = true := bne_iff_ne.mpr c18
     have hc18 := hid c18
     clear c18
     obtain rfl := Option.some.inj H
     clear H
     go_enter Try.func12, Try.ntmps12
     have k55 := True.intro
     have k57 := True.intro
     have k59 := True.intro
     have k61 := True.intro
     go_wp2_with (first
      | ((with_reducible refine gate_d (N := 1) rfl ?_); obtain ⟨gb1, hgb1⟩ : ∃ g_, w.heap.size = g_ := ⟨_, rfl⟩; refine ag_box (bv a0) gb1 hgb1 rfl _ rfl rfl ?_; intro w54 hb_ hB_ hs_; have GEb1 : Hid (w.heap.size ≤ gb1) := hid (by have := HL.out.size; omega); replace HL := hid (HL.out.trans (hb_.mono GEb1.out)); have BKb1 := hid hB_; clear hb_ hB_ hs_ hgb1)
      | (go_at_call 41; clear k55; refine (i_alfillaw05_wakes.calls k true _ A11.out).mono ?_; rintro e_ w56 ⟨rfl, hb_⟩; replace BKb1 := hid (BKb1.out.below hb_ BKb1.out.lt); replace HL := hid (HL.out.trans (hb_.mono HL.out.size)); clear hb_)
      | ((with_reducible refine gate_d (N := 13) rfl ?_); refine ag_fix (.agg (bv a0)) (ex_load boardT gb1 0 (bv a0) (bv a0) BKb1.out (av_le (by first | rfl | (simp only [List.length_set, List.length_replicate, zL_len, List.length_cons, List.length_nil, LN_a0.out]; done) | (simp [zL_len, LN_a0.out]; done))) (av_ex (by first | rfl | (simp only [List.length_set, List.length_replicate, zL_len, List.length_cons, List.length_nil, LN_a0.out]; done) | (simp [zL_len, LN_a0.out]; done))) _ rfl rfl) rfl ?_)
      | (go_at_call 42; clear k57; refine (i_roll_Write.calls k a0 (by first | rfl | (simp only [List.length_set, List.length_replicate, zL_len, List.length_cons, List.length_nil, LN_a0.out]; done) | (simp [zL_len, LN_a0.out]; done)) t3 t4 _ A13.out).mono ?_; rintro e_ w58 ⟨rfl, hb_⟩; replace BKb1 := hid (BKb1.out.below hb_ BKb1.out.lt); replace HL := hid (HL.out.trans (hb_.mono HL.out.size)); clear hb_)
      | ((with_reducible refine gate_d (N := 18) rfl ?_); refine ag_fix (.agg (bv a0)) (ex_load boardT gb1 0 (bv a0) (bv a0) BKb1.out (av_le (by first | rfl | (simp only [List.length_set, List.length_replicate, zL_len, List.length_cons, List.length_nil, LN_a0.out]; done) | (simp [zL_len, LN_a0.out]; done))) (av_ex (by first | rfl | (simp only [List.length_set, List.length_replicate, zL_len, List.length_cons, List.length_nil, LN_a0.out]; done) | (simp [zL_len, LN_a0.out]; done))) _ rfl rfl) rfl ?_)
      | (go_at_call 43; clear k59; refine (i_alfilref05_Write.calls k a0 (by first | rfl | (simp only [List.length_set, List.length_replicate, zL_len, List.length_cons, List.length_nil, LN_a0.out]; done) | (simp [zL_len, LN_a0.out]; done)) t5 t6 _ A14.out).mono ?_; rintro e_ w60 ⟨rfl, hb_⟩; replace BKb1 := hid (BKb1.out.below hb_ BKb1.out.lt); replace HL := hid (HL.out.trans (hb_.mono HL.out.size)); clear hb_)
      | (go_at_call 44; clear k61; refine (i_roll_Read.calls k t3 t7 t8 t9 _ A17.out).mono ?_; rintro e_ w62 ⟨rfl, ln_t7, hb_⟩; have LN_t7 := hid ln_t7; clear ln_t7; replace BKb1 := hid (BKb1.out.below hb_ BKb1.out.lt); replace HL := hid (HL.out.trans (hb_.mono HL.out.size)); clear hb_)
      | ((with_reducible refine gate_d (N := 7) rfl ?_); obtain ⟨gb10, hgb10⟩ : ∃ g_, w62.heap.size = g_ := ⟨_, rfl⟩; refine ag_alloc boardT gb10 hgb10 rfl rfl ?_; intro w63 hb_ hB_ hs_; have GEb10 : Hid (w.heap.size ≤ gb10) := hid (by have := HL.out.size; omega); have NBb1_b10 : Hid (gb1 ≠ gb10) := hid (by have := BKb1.out.lt; omega); have NBb10_b1 : Hid (gb10 ≠ gb1) := hid (by have := NBb1_b10.out; omega); replace BKb1 := hid (BKb1.out.below hb_ (by rw [← hgb10]; exact BKb1.out.lt)); replace HL := hid (HL.out.trans (hb_.mono GEb10.out)); have BKb10 := hid hB_; clear hb_ hB_ hs_ hgb10)
      | ((with_reducible refine gate_s (t := 24) (p := 7) rfl ?_); refine ag_store boardT gb10 0 (bv zL) (bv t7) (bv t7) BKb10.out (by rw [show (bv t7) = av (Value.int .i8) t7 from rfl, av_size]; exact (by first | rfl | (simp only [List.length_set, List.length_replicate, zL_len, List.length_cons, List.length_nil, LN_a0.out, LN_t7.out]; done) | (simp [zL_len, LN_a0.out, LN_t7.out]; done))) (av_le (by first | rfl | (simp only [List.length_set, List.length_replicate, zL_len, List.length_cons, List.length_nil, LN_a0.out, LN_t7.out]; done) | (simp [zL_len, LN_a0.out, LN_t7.out]; done))) (av_one (fun _ => rfl)) (av_put (by first | rfl | (simp only [List.length_set, List.length_replicate, zL_len, List.length_cons, List.length_nil, LN_a0.out, LN_t7.out]; done) | (simp [zL_len, LN_a0.out, LN_t7.out]; done)) (by first | rfl | (simp only [List.length_set, List.length_replicate, zL_len, List.length_cons, List.length_nil, LN_a0.out, LN_t7.out]; done) | (simp [zL_len, LN_a0.out, LN_t7.out]; done))) rfl _ _ rfl rfl rfl ?_; intro w64 ho_ hB_; replace BKb1 := hid (BKb1.out.off ho_ NBb1_b10.out); replace HL := hid (ho_.below HL.out GEb10.out); replace BKb10 := hid hB_; clear ho_ hB_))
     (try simp only [Act.put, List.setIfInBounds_toArray, List.set_cons_zero, List.set_cons_succ])
     go_ret
     exact ⟨by first | rfl | (simp; done) | (simp [*]; done), HL.out⟩
   ·
    rw [if_neg c16] at H
    have c16b0 : (t4 == t6) = false := beq_eq_false_iff_ne.mpr c16
    have c16b1 : (t4 != t6) = true := bne_iff_ne.mpr c16
    have hc16 := hid c16
    clear c16
    obtain rfl := Option.some.inj H
    clear H
    go_enter Try.func12, Try.ntmps12
    have k66 := True.intro
    have k68 := True.intro
    have k70 := True.intro
    go_wp2_with (first
     | ((with_reducible refine gate_d (N := 1) rfl ?_); obtain ⟨gb1, hgb1⟩ : ∃ g_, w.heap.size = g_ := ⟨_, rfl⟩; refine ag_box (bv a0) gb1 hgb1 rfl _ rfl rfl ?_; intro w65 hb_ hB_ hs_; have GEb1 : Hid (w.heap.size ≤ gb1) := hid (by have := HL.out.size; omega); replace HL := hid (HL.out.trans (hb_.mono GEb1.out)); have BKb1 := hid hB_; clear hb_ hB_ hs_ hgb1)
     | (go_at_call 41; clear k66; refine (i_alfillaw05_wakes.calls k true _ A11.out).mono ?_; rintro e_ w67 ⟨rfl, hb_⟩; replace BKb1 := hid (BKb1.out.below hb_ BKb1.out.lt); replace HL := hid (HL.out.trans (hb_.mono HL.out.size)); clear hb_)
     | ((with_reducible refine gate_d (N := 13) rfl ?_); refine ag_fix (.agg (bv a0)) (ex_load boardT gb1 0 (bv a0) (bv a0) BKb1.out (av_le (by first | rfl | (simp only [List.length_set, List.length_replicate, zL_len, List.length_cons, List.length_nil, LN_a0.out]; done) | (simp [zL_len, LN_a0.out]; done))) (av_ex (by first | rfl | (simp only [List.length_set, List.length_replicate, zL_len, List.length_cons, List.length_nil, LN_a0.out]; done) | (simp [zL_len, LN_a0.out]; done))) _ rfl rfl) rfl ?_)
     | (go_at_call 42; clear k68; refine (i_roll_Write.calls k a0 (by first | rfl | (simp only [List.length_set, List.length_replicate, zL_len, List.length_cons, List.length_nil, LN_a0.out]; done) | (simp [zL_len, LN_a0.out]; done)) t3 t4 _ A13.out).mono ?_; rintro e_ w69 ⟨rfl, hb_⟩; replace BKb1 := hid (BKb1.out.below hb_ BKb1.out.lt); replace HL := hid (HL.out.trans (hb_.mono HL.out.size)); clear hb_)
     | ((with_reducible refine gate_d (N := 18) rfl ?_); refine ag_fix (.agg (bv a0)) (ex_load boardT gb1 0 (bv a0) (bv a0) BKb1.out (av_le (by first | rfl | (simp only [List.length_set, List.length_replicate, zL_len, List.length_cons, List.length_nil, LN_a0.out]; done) | (simp [zL_len, LN_a0.out]; done))) (av_ex (by first | rfl | (simp only [List.length_set, List.length_replicate, zL_len, List.length_cons, List.length_nil, LN_a0.out]; done) | (simp [zL_len, LN_a0.out]; done))) _ rfl rfl) rfl ?_)
     | (go_at_call 43; clear k70; refine (i_alfilref05_Write.calls k a0 (by first | rfl | (simp only [List.length_set, List.length_replicate, zL_len, List.length_cons, List.length_nil, LN_a0.out]; done) | (simp [zL_len, LN_a0.out]; done)) t5 t6 _ A14.out).mono ?_; rintro e_ w71 ⟨rfl, hb_⟩; replace BKb1 := hid (BKb1.out.below hb_ BKb1.out.lt); replace HL := hid (HL.out.trans (hb_.mono HL.out.size)); clear hb_))
    (try simp only [Act.put, List.setIfInBounds_toArray, List.set_cons_zero, List.set_cons_succ])
    go_ret
    exact ⟨by first | rfl | (simp; done) | (simp [*]; done), HL.out⟩
  ·
   rw [if_neg c15] at H
   have c15b0 : (t3.toList == t5.toList) = false := beq_eq_false_iff_ne.mpr c15
   have c15b1 : (t3.toList != t5.toList) = true := bne_iff_ne.mpr c15
   have hc15 := hid c15
   clear c15
   obtain rfl := Option.some.inj H
   clear H
   go_enter Try.func12, Try.ntmps12
   have k73 := True.intro
   have k75 := True.intro
   have k77 := True.intro
   go_wp2_with (first
    | ((with_reducible refine gate_d (N := 1) rfl ?_); obtain ⟨gb1, hgb1⟩ : ∃ g_, w.heap.size = g_ := ⟨_, rfl⟩; refine ag_box (bv a0) gb1 hgb1 rfl _ rfl rfl ?_; intro w72 hb_ hB_ hs_; have GEb1 : Hid (w.heap.size ≤ gb1) := hid (by have := HL.out.size; omega); replace HL := hid (HL.out.trans (hb_.mono GEb1.out)); have BKb1 := hid hB_; clear hb_ hB_ hs_ hgb1)
    | (go_at_call 41; clear k73; refine (i_alfillaw05_wakes.calls k true _ A11.out).mono ?_; rintro e_ w74 ⟨rfl, hb_⟩; replace BKb1 := hid (BKb1.out.below hb_ BKb1.out.lt); replace HL := hid (HL.out.trans (hb_.mono HL.out.size)); clear hb_)
    | ((with_reducible refine gate_d (N := 13) rfl ?_); refine ag_fix (.agg (bv a0)) (ex_load boardT gb1 0 (bv a0) (bv a0) BKb1.out (av_le (by first | rfl | (simp only [List.length_set, List.length_replicate, zL_len, List.length_cons, List.length_nil, LN_a0.out]; done) | (simp [zL_len, LN_a0.out]; done))) (av_ex (by first | rfl | (simp only [List.length_set, List.length_replicate, zL_len, List.length_cons, List.length_nil, LN_a0.out]; done) | (simp [zL_len, LN_a0.out]; done))) _ rfl rfl) rfl ?_)
    | (go_at_call 42; clear k75; refine (i_roll_Write.calls k a0 (by first | rfl | (simp only [List.length_set, List.length_replicate, zL_len, List.length_cons, List.length_nil, LN_a0.out]; done) | (simp [zL_len, LN_a0.out]; done)) t3 t4 _ A13.out).mono ?_; rintro e_ w76 ⟨rfl, hb_⟩; replace BKb1 := hid (BKb1.out.below hb_ BKb1.out.lt); replace HL := hid (HL.out.trans (hb_.mono HL.out.size)); clear hb_)
    | ((with_reducible refine gate_d (N := 18) rfl ?_); refine ag_fix (.agg (bv a0)) (ex_load boardT gb1 0 (bv a0) (bv a0) BKb1.out (av_le (by first | rfl | (simp only [List.length_set, List.length_replicate, zL_len, List.length_cons, List.length_nil, LN_a0.out]; done) | (simp [zL_len, LN_a0.out]; done))) (av_ex (by first | rfl | (simp only [List.length_set, List.length_replicate, zL_len, List.length_cons, List.length_nil, LN_a0.out]; done) | (simp [zL_len, LN_a0.out]; done))) _ rfl rfl) rfl ?_)
    | (go_at_call 43; clear k77; refine (i_alfilref05_Write.calls k a0 (by first | rfl | (simp only [List.length_set, List.length_replicate, zL_len, List.length_cons, List.length_nil, LN_a0.out]; done) | (simp [zL_len, LN_a0.out]; done)) t5 t6 _ A14.out).mono ?_; rintro e_ w78 ⟨rfl, hb_⟩; replace BKb1 := hid (BKb1.out.below hb_ BKb1.out.lt); replace HL := hid (HL.out.trans (hb_.mono HL.out.size)); clear hb_))
   (try simp only [Act.put, List.setIfInBounds_toArray, List.set_cons_zero, List.set_cons_succ])
   go_ret
   exact ⟨by first | rfl | (simp; done) | (simp [*]; done), HL.out⟩
 | false =>
  rw [if_neg (show ¬ (false = true) by decide)] at H
  obtain rfl := Option.some.inj H
  clear H
  go_enter Try.func12, Try.ntmps12
  have k80 := True.intro
  go_wp2_with (first
   | ((with_reducible refine gate_d (N := 1) rfl ?_); obtain ⟨gb1, hgb1⟩ : ∃ g_, w.heap.size = g_ := ⟨_, rfl⟩; refine ag_box (bv a0) gb1 hgb1 rfl _ rfl rfl ?_; intro w79 hb_ hB_ hs_; have GEb1 : Hid (w.heap.size ≤ gb1) := hid (by have := HL.out.size; omega); replace HL := hid (HL.out.trans (hb_.mono GEb1.out)); have BKb1 := hid hB_; clear hb_ hB_ hs_ hgb1)
   | (go_at_call 41; clear k80; refine (i_alfillaw05_wakes.calls k false _ A11.out).mono ?_; rintro e_ w81 ⟨rfl, hb_⟩; replace BKb1 := hid (BKb1.out.below hb_ BKb1.out.lt); replace HL := hid (HL.out.trans (hb_.mono HL.out.size)); clear hb_))
  (try simp only [Act.put, List.setIfInBounds_toArray, List.set_cons_zero, List.set_cons_succ])
  go_ret
  exact ⟨by first | rfl | (simp; done) | (simp [*]; done), HL.out⟩
end Go.Proofs.Ytpgdcpkggmkooaa
