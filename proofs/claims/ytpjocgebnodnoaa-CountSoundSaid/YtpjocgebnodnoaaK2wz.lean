import Derived.Test.YtpjocgebnodnoaaProg
import Derived.Test.YtpjocgebnodnoaaK1wz
import Derived.Test.YtpjocgebnodnoaaKrz
namespace Go.Proofs.Ytpjocgebnodnoaa
open Go.RowKit
set_option linter.unusedVariables false
set_option linter.unusedSimpArgs false
set_option maxRecDepth 100000
theorem aT133_agg (w : World) : (isAgg 133).run Try.prog w = .ok true w := by kernel_rfl
theorem aT133_size (w : World) : (sizeOf 133).run Try.prog w = .ok 64 w := by kernel_rfl
theorem aT133_zero (w : World) : (zeroValue 133).run Try.prog w = .ok (.agg (av Value.bool (List.replicate 64 false))) w := by kernel_rfl
theorem aT133 : AggT Try.prog 133 64 (av Value.bool (List.replicate 64 false)) := ⟨aT133_agg, aT133_size, aT133_zero, by first | rfl | decide⟩
theorem uT133 : Try.prog.underlying 133 = some (.array 64 4) := by kernel_rfl
mutual
def i_alfilref10_struck.l0 : Nat → List Int → List (List Int) → Int → List Bool → Option ((List Bool))
  | 0, _, _, _, _ => none
  | k + 1, a0, t4, x7_0, yb3_0_0 => if x7_0 < (t4.length : Int) then (i_alfilref10_struck.l1 k a0 x7_0 t4 0 yb3_0_0) else (some yb3_0_0)
def i_alfilref10_struck.l1 : Nat → List Int → Int → List (List Int) → Int → List Bool → Option ((List Bool))
  | 0, _, _, _, _, _ => none
  | k + 1, a0, x7_0, t4, x8_1, yb3_0_1 => if 0 ≤ x7_0 then (if x7_0 < (t4.length : Int) then (if x8_1 < ((nt t4 x7_0.toNat []).length : Int) then (if 0 ≤ x8_1 then (if 0 ≤ (nt (nt t4 x7_0.toNat []) x8_1.toNat 0) then (if (nt (nt t4 x7_0.toNat []) x8_1.toNat 0) < 64 then (if (nt a0 ((nt (nt t4 x7_0.toNat []) x8_1.toNat 0).toNat) 0) = 0 then (i_alfilref10_struck.l1 k a0 x7_0 t4 (wrap64 (x8_1 + 1)) (yb3_0_1.set (nt (nt t4 x7_0.toNat []) x8_1.toNat 0).toNat true)) else (i_alfilref10_struck.l0 k a0 t4 (wrap64 (x7_0 + 1)) (yb3_0_1.set (nt (nt t4 x7_0.toNat []) x8_1.toNat 0).toNat true))) else (none)) else (none)) else (none)) else (i_alfilref10_struck.l0 k a0 t4 (wrap64 (x7_0 + 1)) yb3_0_1)) else (none)) else (none)
end
def i_alfilref10_struck.f (k : Nat) (a0 : List Int) (a1 : Int) : Option ((List Bool)) := if 0 ≤ a1 then (if a1 < 64 then ((i_alfilref06_Of.f k (wrap64 (nt a0 a1.toNat 0)) a1).bind fun t4 => (i_alfilref10_struck.l0 k a0 t4 0 (List.replicate 64 false))) else (none)) else (none)
set_option maxHeartbeats 40000000 in
set_option maxRecDepth 100000 in
theorem i_alfilref10_struck.calls (k : Nat) (a0 : List Int) (a1 : Int) (hla0 : a0.length = 64) (r1 : List Bool) (w : World) (h : i_alfilref10_struck.f k a0 a1 = some r1) :
    Calls Try.prog 106 #[.agg (bv a0), .int .i64 a1] w fun e w' => e = .returned (.agg (av Value.bool r1)) ∧ r1.length = 64 ∧ Below w.heap.size w w' := by
 have LN_a0 := hid hla0
 clear hla0
 have HL := hid (Below.refl w.heap.size w)
 have H : (if 0 ≤ a1 then (if a1 < 64 then ((i_alfilref06_Of.f k (wrap64 (nt a0 a1.toNat 0)) a1).bind fun t4 => (i_alfilref10_struck.l0 k a0 t4 0 (List.replicate 64 false))) else (none)) else (none)) = some r1 := h
 clear h
 by_cases c37 : 0 ≤ a1
 ·
  rw [if_pos c37] at H
  have c37b0 : decide (0 ≤ a1) = true := decide_eq_true c37
  have hc37 := hid c37
  clear c37
  by_cases c38 : a1 < 64
  ·
   rw [if_pos c38] at H
   have c38b0 : decide (a1 < 64) = true := decide_eq_true c38
   have hc38 := hid c38
   clear c38
   replace H := Option.bind_eq_some_iff.mp H
   obtain ⟨t4, A39_, H⟩ := H
   have A39 := hid A39_
   clear A39_
   have H' := hid H
   clear H
   go_enter Try.func106, Try.ntmps106
   have k43 := True.intro
   go_wp2_with (first
    | ((with_reducible refine gate_d (N := 2) rfl ?_); obtain ⟨gb1, hgb1⟩ : ∃ g_, w.heap.size = g_ := ⟨_, rfl⟩; refine ag_box (bv a0) gb1 hgb1 rfl _ rfl rfl ?_; intro w40 hb_ hB_ hs_; have GEb1 : Hid (w.heap.size ≤ gb1) := hid (by have := HL.out.size; omega); replace HL := hid (HL.out.trans (hb_.mono GEb1.out)); have BKb1 := hid hB_; clear hb_ hB_ hs_ hgb1)
    | ((with_reducible refine gate_d (N := 4) rfl ?_); obtain ⟨gb2, hgb2⟩ : ∃ g_, w40.heap.size = g_ := ⟨_, rfl⟩; refine ag_alloc aT133 gb2 hgb2 rfl rfl ?_; intro w41 hb_ hB_ hs_; have GEb2 : Hid (w.heap.size ≤ gb2) := hid (by have := HL.out.size; omega); have NBb1_b2 : Hid (gb1 ≠ gb2) := hid (by have := BKb1.out.lt; omega); have NBb2_b1 : Hid (gb2 ≠ gb1) := hid (by have := NBb1_b2.out; omega); replace BKb1 := hid (BKb1.out.below hb_ (by rw [← hgb2]; exact BKb1.out.lt)); replace HL := hid (HL.out.trans (hb_.mono GEb2.out)); have BKb2 := hid hB_; clear hb_ hB_ hs_ hgb2)
    | ((with_reducible refine gate_d (N := 5) rfl ?_); obtain ⟨gb3, hgb3⟩ : ∃ g_, w41.heap.size = g_ := ⟨_, rfl⟩; refine ag_alloc aT133 gb3 hgb3 rfl rfl ?_; intro w42 hb_ hB_ hs_; have GEb3 : Hid (w.heap.size ≤ gb3) := hid (by have := HL.out.size; omega); have NBb1_b3 : Hid (gb1 ≠ gb3) := hid (by have := BKb1.out.lt; omega); have NBb3_b1 : Hid (gb3 ≠ gb1) := hid (by have := NBb1_b3.out; omega); replace BKb1 := hid (BKb1.out.below hb_ (by rw [← hgb3]; exact BKb1.out.lt)); have NBb2_b3 : Hid (gb2 ≠ gb3) := hid (by have := BKb2.out.lt; omega); have NBb3_b2 : Hid (gb3 ≠ gb2) := hid (by have := NBb2_b3.out; omega); replace BKb2 := hid (BKb2.out.below hb_ (by rw [← hgb3]; exact BKb2.out.lt)); replace HL := hid (HL.out.trans (hb_.mono GEb3.out)); have BKb3 := hid hB_; clear hb_ hB_ hs_ hgb3)
    | ((with_reducible refine gate_d (N := 10) rfl ?_); refine ag_fix (.pointer (some ⟨gb1, a1.toNat, none⟩)) (ex_at 44 (.pointer (some ⟨gb1, 0, none⟩)) (.int .i64 a1) (.pointer (some ⟨gb1, a1.toNat, none⟩)) (fun w_ => (run_atv 42 uT44 sT42.size gb1 0 a1 hc37.out hc38.out w_).trans (by simp)) _ _ rfl rfl rfl) rfl ?_)
    | ((with_reducible refine gate_d (N := 11) rfl ?_); refine ag_fix (.int .i8 (nt a0 a1.toNat 0)) (ex_get sT42 gb1 (a1.toNat) (.int .i8 (nt a0 a1.toNat 0)) ((bv a0)) BKb1.out (av_get 0 (by have h_ : a0.length = 64 := LN_a0.out; have h1_ := hc37.out; have h2_ := hc38.out; omega)) _ rfl rfl) rfl ?_)
    | (go_at_call 55; clear k43; refine (i_alfilref06_Of.calls k (wrap64 (nt a0 a1.toNat 0)) a1 t4 _ A39.out).mono ?_; rintro e_ w44 ⟨ut4, rfl, so_t4, hb_⟩; replace so_t4 := so_t4.mono HL.out.size; have SWn_t4 := hid so_t4; clear so_t4; replace BKb1 := hid (BKb1.out.below hb_ BKb1.out.lt); replace BKb2 := hid (BKb2.out.below hb_ BKb2.out.lt); replace BKb3 := hid (BKb3.out.below hb_ BKb3.out.lt); replace HL := hid (HL.out.trans (hb_.mono HL.out.size)); clear hb_; have SWt4 := SWn_t4; clear SWn_t4))
   (try simp only [Act.put, sI, sZ, sS])
   go_loopg [7] k (fun kq v7 w' => ∃ (x7_0 : Int) (yb3_0_0 : List Bool), v7 = .int .i64 x7_0 ∧ Hid (i_alfilref10_struck.l0 kq a0 t4 x7_0 yb3_0_0 = some r1) ∧ Hid (kq ≤ k) ∧ Hid (yb3_0_0.length = 64) ∧ Hid (Blk w' gb1 44 (bv a0)) ∧ Hid (Blk w' gb2 133 (av Value.bool (List.replicate 64 false))) ∧ Hid (Blk w' gb3 133 (av Value.bool yb3_0_0)) ∧ Hid (OwnS w' w.heap.size 27 3 (Value.int .i64) ut4 t4) ∧ Hid (Below w.heap.size w w'))
   case atStart => exact ⟨(0 : Int), (List.replicate 64 false), (by first | rfl | (simp; done) | (simp [*]; done)), H', (hid (by first | omega | (omega))), (hid (by first | rfl | (simp only [List.length_set, List.length_replicate, zL_len, List.length_cons, List.length_nil, LN_a0.out]; done) | (simp [zL_len, LN_a0.out]; done))), (hid (by exact BKb1.out)), (hid (by exact BKb2.out)), (hid (by exact BKb3.out)), SWt4, HL⟩
   case round =>
    clear H'
    clear HL BKb1 BKb2 BKb3 SWt4
    obtain ⟨x7_0, yb3_0_0, rfl, HA, HK45, LN_yb3_0_0, BKb1, BKb2, BKb3, SWt4, HL⟩ := hrel
    cases gk with
    | zero => exact absurd HA.out (by simp [i_alfilref10_struck.l0])
    | succ k46 =>
     have H := HA.out
     clear HA
     simp only [i_alfilref10_struck.l0] at H
     by_cases c47 : x7_0 < (t4.length : Int)
     ·
      rw [if_pos c47] at H
      have c47b0 : decide (x7_0 < (t4.length : Int)) = true := decide_eq_true c47
      have hc47 := hid c47
      clear c47
      have H' := hid H
      clear H
      go_wp2_with (first
       | ((with_reducible refine gate_d (N := 17) rfl ?_); obtain ⟨A48, c49, hv50⟩ := SWt4.out.slS.shape; skip; refine ag_fix (.int .i64 (t4.length : Int)) (ex_len us92 _ _ _ _ hv50 _ rfl rfl) rfl ?_; clear hv50))
      (try simp only [Act.put, sI, sZ, sS])
      go_loopg [8] k46 (fun kq v8 w' => ∃ (x8_1 : Int) (yb3_0_1 : List Bool), v8 = .int .i64 x8_1 ∧ Hid (i_alfilref10_struck.l1 kq a0 x7_0 t4 x8_1 yb3_0_1 = some r1) ∧ Hid (kq ≤ k46) ∧ Hid (yb3_0_1.length = 64) ∧ Hid (Blk w' gb1 44 (bv a0)) ∧ Hid (Blk w' gb2 133 (av Value.bool (List.replicate 64 false))) ∧ Hid (Blk w' gb3 133 (av Value.bool yb3_0_1)) ∧ Hid (OwnS w' w.heap.size 27 3 (Value.int .i64) ut4 t4) ∧ Hid (Below w.heap.size w w'))
      case atStart => exact ⟨(0 : Int), yb3_0_0, (by first | rfl | (simp; done) | (simp [*]; done)), H', (hid (by first | omega | (have := HK45.out; omega))), (hid (by first | rfl | (simp only [List.length_set, List.length_replicate, zL_len, List.length_cons, List.length_nil, LN_a0.out, LN_yb3_0_0.out]; done) | (simp [zL_len, LN_a0.out, LN_yb3_0_0.out]; done))), (hid (by exact BKb1.out)), (hid (by exact BKb2.out)), (hid (by exact BKb3.out)), SWt4, HL⟩
      case round =>
       clear H'
       clear HL BKb1 BKb2 BKb3 SWt4
       obtain ⟨x8_1, yb3_0_1, rfl, HA, HK51, LN_yb3_0_1, BKb1, BKb2, BKb3, SWt4, HL⟩ := hrel
       cases gk with
       | zero => exact absurd HA.out (by simp [i_alfilref10_struck.l1])
       | succ k52 =>
        have H := HA.out
        clear HA
        simp only [i_alfilref10_struck.l1] at H
        by_cases c53 : 0 ≤ x7_0
        ·
         rw [if_pos c53] at H
         have c53b0 : decide (0 ≤ x7_0) = true := decide_eq_true c53
         have hc53 := hid c53
         clear c53
         by_cases c54 : x7_0 < (t4.length : Int)
         ·
          rw [if_pos c54] at H
          have c54b0 : decide (x7_0 < (t4.length : Int)) = true := decide_eq_true c54
          have hc54 := hid c54
          clear c54
          by_cases c55 : x8_1 < ((nt t4 x7_0.toNat []).length : Int)
          ·
           rw [if_pos c55] at H
           have c55b0 : decide (x8_1 < ((nt t4 x7_0.toNat []).length : Int)) = true := decide_eq_true c55
           have hc55 := hid c55
           clear c55
           by_cases c56 : 0 ≤ x8_1
           ·
            rw [if_pos c56] at H
            have c56b0 : decide (0 ≤ x8_1) = true := decide_eq_true c56
            have hc56 := hid c56
            clear c56
            by_cases c57 : 0 ≤ (nt (nt t4 x7_0.toNat []) x8_1.toNat 0)
            ·
             rw [if_pos c57] at H
             have c57b0 : decide (0 ≤ (nt (nt t4 x7_0.toNat []) x8_1.toNat 0)) = true := decide_eq_true c57
             have hc57 := hid c57
             clear c57
             by_cases c58 : (nt (nt t4 x7_0.toNat []) x8_1.toNat 0) < 64
             ·
              rw [if_pos c58] at H
              have c58b0 : decide ((nt (nt t4 x7_0.toNat []) x8_1.toNat 0) < 64) = true := decide_eq_true c58
              have hc58 := hid c58
              clear c58
              by_cases c59 : (nt a0 ((nt (nt t4 x7_0.toNat []) x8_1.toNat 0).toNat) 0) = 0
              ·
               rw [if_pos c59] at H
               have c59b0 : ((nt a0 ((nt (nt t4 x7_0.toNat []) x8_1.toNat 0).toNat) 0) == 0) = true := beq_iff_eq.mpr c59
               have c59b1 : ((nt a0 ((nt (nt t4 x7_0.toNat []) x8_1.toNat 0).toNat) 0) != 0) = false := bne_eq_false_iff_eq.mpr c59
               have hc59 := hid c59
               clear c59
               have H' := hid H
               clear H
               go_wp2_with (first
                | ((with_reducible refine gate_d (N := 24) rfl ?_); obtain ⟨ad29, c60, uead29, hv61, HCad29_, HEad29_⟩ := SlS.get SWt4.out.slS (i := x7_0) hc53.out hc54.out; have HCad29 := hid HCad29_; have HEad29 := hid HEad29_; clear HCad29_ HEad29_; refine ag_fix (.pointer (some (ad29.add x7_0.toNat))) (ex_sat _ _ x7_0 _ _ hv61 hc53.out hc54.out us92 sT27 _ _ rfl rfl rfl) rfl ?_; clear hv61)
                | ((with_reducible refine gate_d (N := 25) rfl ?_); have SWo30 : Hid (SlT wr 3 uead29 ((nt t4 x7_0.toNat []).map (Value.int .i64))) := hid HEad29.out; refine ag_fix (uead29) (ex_scell sT27 _ _ HCad29.out _ rfl rfl) rfl ?_)
                | ((with_reducible refine gate_d (N := 26) rfl ?_); obtain ⟨A62, c63, hv64⟩ := SWo30.out.sl.shape; rw [List.length_map] at hv64; refine ag_fix (.int .i64 ((nt t4 x7_0.toNat []).length : Int)) (ex_len us27 _ _ _ _ hv64 _ rfl rfl) rfl ?_; clear hv64)
                | ((with_reducible refine gate_d (N := 32) rfl ?_); obtain ⟨ad31, c65, uead31, hv66, HCad31_, HEad31_⟩ := SlS.get SWt4.out.slS (i := x7_0) hc53.out hc54.out; have HCad31 := hid HCad31_; have HEad31 := hid HEad31_; clear HCad31_ HEad31_; refine ag_fix (.pointer (some (ad31.add x7_0.toNat))) (ex_sat _ _ x7_0 _ _ hv66 hc53.out hc54.out us92 sT27 _ _ rfl rfl rfl) rfl ?_; clear hv66)
                | ((with_reducible refine gate_d (N := 33) rfl ?_); have SWo32 : Hid (SlT wr 3 uead31 ((nt t4 x7_0.toNat []).map (Value.int .i64))) := hid HEad31.out; refine ag_fix (uead31) (ex_scell sT27 _ _ HCad31.out _ rfl rfl) rfl ?_)
                | ((with_reducible refine gate_d (N := 35) rfl ?_); obtain ⟨ad33, c67, hv68, HCad33_⟩ := Sl.get (l := nt t4 x7_0.toNat []) (f := (Value.int .i64)) SWo32.out.sl 0 (i := x8_1) hc56.out hc55.out; have HCad33 := hid HCad33_; clear HCad33_; refine ag_fix (.pointer (some (ad33.add x8_1.toNat))) (ex_sat _ _ x8_1 _ _ hv68 hc56.out hc55.out us27 sT3 _ _ rfl rfl rfl) rfl ?_; have HVAad33 := hid hv68; clear hv68)
                | ((with_reducible refine gate_d (N := 36) rfl ?_); refine ag_fix (.int .i64 (nt (nt t4 x7_0.toNat []) x8_1.toNat 0)) (ex_scell sT3 _ _ HCad33.out _ rfl rfl) rfl ?_)
                | ((with_reducible refine gate_d (N := 37) rfl ?_); refine ag_fix (.pointer (some ⟨gb3, (nt (nt t4 x7_0.toNat []) x8_1.toNat 0).toNat, none⟩)) (ex_at 133 (.pointer (some ⟨gb3, 0, none⟩)) (.int .i64 (nt (nt t4 x7_0.toNat []) x8_1.toNat 0)) (.pointer (some ⟨gb3, (nt (nt t4 x7_0.toNat []) x8_1.toNat 0).toNat, none⟩)) (fun w_ => (run_atv 4 uT133 sT4.size gb3 0 (nt (nt t4 x7_0.toNat []) x8_1.toNat 0) hc57.out hc58.out w_).trans (by simp)) _ _ rfl rfl rfl) rfl ?_)
                | ((with_reducible refine gate_s (t := 4) (p := 37) rfl ?_); refine ag_set sT4 gb3 ((nt (nt t4 x7_0.toNat []) x8_1.toNat 0).toNat) (.bool true) (av Value.bool yb3_0_1) (av Value.bool (yb3_0_1.set (nt (nt t4 x7_0.toNat []) x8_1.toNat 0).toNat true)) BKb3.out (by rw [show (av Value.bool yb3_0_1) = av Value.bool yb3_0_1 from rfl, av_size]; exact (by have h_ : yb3_0_1.length = 64 := LN_yb3_0_1.out; have h1_ := hc57.out; have h2_ := hc58.out; omega)) rfl rfl (av_set _ _) rfl _ _ rfl rfl rfl ?_; intro w69 ho_ hB_; replace BKb1 := hid (BKb1.out.off ho_ NBb1_b3.out); replace BKb2 := hid (BKb2.out.off ho_ NBb2_b3.out); replace SWt4 := hid (SWt4.out.off ho_ BKb3.out (by decide)); replace SWo30 := hid (SWo30.out.off ho_ BKb3.out (by decide)); replace SWo32 := hid (SWo32.out.off ho_ BKb3.out (by decide)); replace HL := hid (ho_.below HL.out GEb3.out); replace BKb3 := hid hB_; clear ho_ hB_)
                | ((with_reducible refine gate_d (N := 40) rfl ?_); obtain ⟨ad34, c70, uead34, hv71, HCad34_, HEad34_⟩ := SlS.get SWt4.out.slS (i := x7_0) hc53.out hc54.out; have HCad34 := hid HCad34_; have HEad34 := hid HEad34_; clear HCad34_ HEad34_; refine ag_fix (.pointer (some (ad34.add x7_0.toNat))) (ex_sat _ _ x7_0 _ _ hv71 hc53.out hc54.out us92 sT27 _ _ rfl rfl rfl) rfl ?_; clear hv71)
                | ((with_reducible refine gate_d (N := 41) rfl ?_); have SWo35 : Hid (SlT w69 3 uead34 ((nt t4 x7_0.toNat []).map (Value.int .i64))) := hid HEad34.out; refine ag_fix (uead34) (ex_scell sT27 _ _ HCad34.out _ rfl rfl) rfl ?_)
                | ((with_reducible refine gate_d (N := 43) rfl ?_); obtain ⟨ad36, c72, hv73, HCad36_⟩ := Sl.get (l := nt t4 x7_0.toNat []) (f := (Value.int .i64)) SWo35.out.sl 0 (i := x8_1) hc56.out hc55.out; have HCad36 := hid HCad36_; clear HCad36_; refine ag_fix (.pointer (some (ad36.add x8_1.toNat))) (ex_sat _ _ x8_1 _ _ hv73 hc56.out hc55.out us27 sT3 _ _ rfl rfl rfl) rfl ?_; have HVAad36 := hid hv73; clear hv73)
                | ((with_reducible refine gate_d (N := 44) rfl ?_); refine ag_fix (.int .i64 (nt (nt t4 x7_0.toNat []) x8_1.toNat 0)) (ex_scell sT3 _ _ HCad36.out _ rfl rfl) rfl ?_)
                | ((with_reducible refine gate_d (N := 45) rfl ?_); refine ag_fix (.pointer (some ⟨gb1, (nt (nt t4 x7_0.toNat []) x8_1.toNat 0).toNat, none⟩)) (ex_at 44 (.pointer (some ⟨gb1, 0, none⟩)) (.int .i64 (nt (nt t4 x7_0.toNat []) x8_1.toNat 0)) (.pointer (some ⟨gb1, (nt (nt t4 x7_0.toNat []) x8_1.toNat 0).toNat, none⟩)) (fun w_ => (run_atv 42 uT44 sT42.size gb1 0 (nt (nt t4 x7_0.toNat []) x8_1.toNat 0) hc57.out hc58.out w_).trans (by simp)) _ _ rfl rfl rfl) rfl ?_)
                | ((with_reducible refine gate_d (N := 46) rfl ?_); refine ag_fix (.int .i8 (nt a0 ((nt (nt t4 x7_0.toNat []) x8_1.toNat 0).toNat) 0)) (ex_get sT42 gb1 ((nt (nt t4 x7_0.toNat []) x8_1.toNat 0).toNat) (.int .i8 (nt a0 ((nt (nt t4 x7_0.toNat []) x8_1.toNat 0).toNat) 0)) ((bv a0)) BKb1.out (av_get 0 (by have h_ : a0.length = 64 := LN_a0.out; have h1_ := hc57.out; have h2_ := hc58.out; omega)) _ rfl rfl) rfl ?_))
               (try simp only [Act.put, sI, sZ, sS])
               go_roundg k52
               case measure => have := HK45.out; have := HK51.out; omega
               case rel => exact ⟨wrap64 (x8_1 + 1), yb3_0_1.set (nt (nt t4 x7_0.toNat []) x8_1.toNat 0).toNat true, (by first | rfl | (simp; done) | (simp [*]; done)), H', (hid (by first | omega | (have := HK45.out; have := HK51.out; omega))), (hid (by first | rfl | (simp only [List.length_set, List.length_replicate, zL_len, List.length_cons, List.length_nil, LN_a0.out, LN_yb3_0_0.out, LN_yb3_0_1.out]; done) | (simp [zL_len, LN_a0.out, LN_yb3_0_0.out, LN_yb3_0_1.out]; done))), (hid (by exact BKb1.out)), (hid (by exact BKb2.out)), (hid (by exact BKb3.out)), SWt4, HL⟩
              ·
               rw [if_neg c59] at H
               have c59b0 : ((nt a0 ((nt (nt t4 x7_0.toNat []) x8_1.toNat 0).toNat) 0) == 0) = false := beq_eq_false_iff_ne.mpr c59
               have c59b1 : ((nt a0 ((nt (nt t4 x7_0.toNat []) x8_1.toNat 0).toNat) 0) != 0) = true := bne_iff_ne.mpr c59
               have hc59 := hid c59
               clear c59
               have H' := hid H
               clear H
               go_wp2_with (first
                | ((with_reducible refine gate_d (N := 24) rfl ?_); obtain ⟨ad29, c74, uead29, hv75, HCad29_, HEad29_⟩ := SlS.get SWt4.out.slS (i := x7_0) hc53.out hc54.out; have HCad29 := hid HCad29_; have HEad29 := hid HEad29_; clear HCad29_ HEad29_; refine ag_fix (.pointer (some (ad29.add x7_0.toNat))) (ex_sat _ _ x7_0 _ _ hv75 hc53.out hc54.out us92 sT27 _ _ rfl rfl rfl) rfl ?_; clear hv75)
                | ((with_reducible refine gate_d (N := 25) rfl ?_); have SWo30 : Hid (SlT wr 3 uead29 ((nt t4 x7_0.toNat []).map (Value.int .i64))) := hid HEad29.out; refine ag_fix (uead29) (ex_scell sT27 _ _ HCad29.out _ rfl rfl) rfl ?_)
                | ((with_reducible refine gate_d (N := 26) rfl ?_); obtain ⟨A76, c77, hv78⟩ := SWo30.out.sl.shape; rw [List.length_map] at hv78; refine ag_fix (.int .i64 ((nt t4 x7_0.toNat []).length : Int)) (ex_len us27 _ _ _ _ hv78 _ rfl rfl) rfl ?_; clear hv78)
                | ((with_reducible refine gate_d (N := 32) rfl ?_); obtain ⟨ad31, c79, uead31, hv80, HCad31_, HEad31_⟩ := SlS.get SWt4.out.slS (i := x7_0) hc53.out hc54.out; have HCad31 := hid HCad31_; have HEad31 := hid HEad31_; clear HCad31_ HEad31_; refine ag_fix (.pointer (some (ad31.add x7_0.toNat))) (ex_sat _ _ x7_0 _ _ hv80 hc53.out hc54.out us92 sT27 _ _ rfl rfl rfl) rfl ?_; clear hv80)
                | ((with_reducible refine gate_d (N := 33) rfl ?_); have SWo32 : Hid (SlT wr 3 uead31 ((nt t4 x7_0.toNat []).map (Value.int .i64))) := hid HEad31.out; refine ag_fix (uead31) (ex_scell sT27 _ _ HCad31.out _ rfl rfl) rfl ?_)
                | ((with_reducible refine gate_d (N := 35) rfl ?_); obtain ⟨ad33, c81, hv82, HCad33_⟩ := Sl.get (l := nt t4 x7_0.toNat []) (f := (Value.int .i64)) SWo32.out.sl 0 (i := x8_1) hc56.out hc55.out; have HCad33 := hid HCad33_; clear HCad33_; refine ag_fix (.pointer (some (ad33.add x8_1.toNat))) (ex_sat _ _ x8_1 _ _ hv82 hc56.out hc55.out us27 sT3 _ _ rfl rfl rfl) rfl ?_; have HVAad33 := hid hv82; clear hv82)
                | ((with_reducible refine gate_d (N := 36) rfl ?_); refine ag_fix (.int .i64 (nt (nt t4 x7_0.toNat []) x8_1.toNat 0)) (ex_scell sT3 _ _ HCad33.out _ rfl rfl) rfl ?_)
                | ((with_reducible refine gate_d (N := 37) rfl ?_); refine ag_fix (.pointer (some ⟨gb3, (nt (nt t4 x7_0.toNat []) x8_1.toNat 0).toNat, none⟩)) (ex_at 133 (.pointer (some ⟨gb3, 0, none⟩)) (.int .i64 (nt (nt t4 x7_0.toNat []) x8_1.toNat 0)) (.pointer (some ⟨gb3, (nt (nt t4 x7_0.toNat []) x8_1.toNat 0).toNat, none⟩)) (fun w_ => (run_atv 4 uT133 sT4.size gb3 0 (nt (nt t4 x7_0.toNat []) x8_1.toNat 0) hc57.out hc58.out w_).trans (by simp)) _ _ rfl rfl rfl) rfl ?_)
                | ((with_reducible refine gate_s (t := 4) (p := 37) rfl ?_); refine ag_set sT4 gb3 ((nt (nt t4 x7_0.toNat []) x8_1.toNat 0).toNat) (.bool true) (av Value.bool yb3_0_1) (av Value.bool (yb3_0_1.set (nt (nt t4 x7_0.toNat []) x8_1.toNat 0).toNat true)) BKb3.out (by rw [show (av Value.bool yb3_0_1) = av Value.bool yb3_0_1 from rfl, av_size]; exact (by have h_ : yb3_0_1.length = 64 := LN_yb3_0_1.out; have h1_ := hc57.out; have h2_ := hc58.out; omega)) rfl rfl (av_set _ _) rfl _ _ rfl rfl rfl ?_; intro w83 ho_ hB_; replace BKb1 := hid (BKb1.out.off ho_ NBb1_b3.out); replace BKb2 := hid (BKb2.out.off ho_ NBb2_b3.out); replace SWt4 := hid (SWt4.out.off ho_ BKb3.out (by decide)); replace SWo30 := hid (SWo30.out.off ho_ BKb3.out (by decide)); replace SWo32 := hid (SWo32.out.off ho_ BKb3.out (by decide)); replace HL := hid (ho_.below HL.out GEb3.out); replace BKb3 := hid hB_; clear ho_ hB_)
                | ((with_reducible refine gate_d (N := 40) rfl ?_); obtain ⟨ad34, c84, uead34, hv85, HCad34_, HEad34_⟩ := SlS.get SWt4.out.slS (i := x7_0) hc53.out hc54.out; have HCad34 := hid HCad34_; have HEad34 := hid HEad34_; clear HCad34_ HEad34_; refine ag_fix (.pointer (some (ad34.add x7_0.toNat))) (ex_sat _ _ x7_0 _ _ hv85 hc53.out hc54.out us92 sT27 _ _ rfl rfl rfl) rfl ?_; clear hv85)
                | ((with_reducible refine gate_d (N := 41) rfl ?_); have SWo35 : Hid (SlT w83 3 uead34 ((nt t4 x7_0.toNat []).map (Value.int .i64))) := hid HEad34.out; refine ag_fix (uead34) (ex_scell sT27 _ _ HCad34.out _ rfl rfl) rfl ?_)
                | ((with_reducible refine gate_d (N := 43) rfl ?_); obtain ⟨ad36, c86, hv87, HCad36_⟩ := Sl.get (l := nt t4 x7_0.toNat []) (f := (Value.int .i64)) SWo35.out.sl 0 (i := x8_1) hc56.out hc55.out; have HCad36 := hid HCad36_; clear HCad36_; refine ag_fix (.pointer (some (ad36.add x8_1.toNat))) (ex_sat _ _ x8_1 _ _ hv87 hc56.out hc55.out us27 sT3 _ _ rfl rfl rfl) rfl ?_; have HVAad36 := hid hv87; clear hv87)
                | ((with_reducible refine gate_d (N := 44) rfl ?_); refine ag_fix (.int .i64 (nt (nt t4 x7_0.toNat []) x8_1.toNat 0)) (ex_scell sT3 _ _ HCad36.out _ rfl rfl) rfl ?_)
                | ((with_reducible refine gate_d (N := 45) rfl ?_); refine ag_fix (.pointer (some ⟨gb1, (nt (nt t4 x7_0.toNat []) x8_1.toNat 0).toNat, none⟩)) (ex_at 44 (.pointer (some ⟨gb1, 0, none⟩)) (.int .i64 (nt (nt t4 x7_0.toNat []) x8_1.toNat 0)) (.pointer (some ⟨gb1, (nt (nt t4 x7_0.toNat []) x8_1.toNat 0).toNat, none⟩)) (fun w_ => (run_atv 42 uT44 sT42.size gb1 0 (nt (nt t4 x7_0.toNat []) x8_1.toNat 0) hc57.out hc58.out w_).trans (by simp)) _ _ rfl rfl rfl) rfl ?_)
                | ((with_reducible refine gate_d (N := 46) rfl ?_); refine ag_fix (.int .i8 (nt a0 ((nt (nt t4 x7_0.toNat []) x8_1.toNat 0).toNat) 0)) (ex_get sT42 gb1 ((nt (nt t4 x7_0.toNat []) x8_1.toNat 0).toNat) (.int .i8 (nt a0 ((nt (nt t4 x7_0.toNat []) x8_1.toNat 0).toNat) 0)) ((bv a0)) BKb1.out (av_get 0 (by have h_ : a0.length = 64 := LN_a0.out; have h1_ := hc57.out; have h2_ := hc58.out; omega)) _ rfl rfl) rfl ?_))
               (try simp only [Act.put, sI, sZ, sS])
               go_roundg k52
               case measure => have := HK45.out; have := HK51.out; omega
               case rel => exact ⟨wrap64 (x7_0 + 1), yb3_0_1.set (nt (nt t4 x7_0.toNat []) x8_1.toNat 0).toNat true, (by first | rfl | (simp; done) | (simp [*]; done)), H', (hid (by first | omega | (have := HK45.out; have := HK51.out; omega))), (hid (by first | rfl | (simp only [List.length_set, List.length_replicate, zL_len, List.length_cons, List.length_nil, LN_a0.out, LN_yb3_0_0.out, LN_yb3_0_1.out]; done) | (simp [zL_len, LN_a0.out, LN_yb3_0_0.out, LN_yb3_0_1.out]; done))), (hid (by exact BKb1.out)), (hid (by exact BKb2.out)), (hid (by exact BKb3.out)), SWt4, HL⟩
             ·
              rw [if_neg c58] at H
              exact absurd H (by simp)
            ·
             rw [if_neg c57] at H
             exact absurd H (by simp)
           ·
            rw [if_neg c56] at H
            exact absurd H (by simp)
          ·
           rw [if_neg c55] at H
           have c55b0 : decide (x8_1 < ((nt t4 x7_0.toNat []).length : Int)) = false := decide_eq_false c55
           have hc55 := hid c55
           clear c55
           have H' := hid H
           clear H
           go_wp2_with (first
            | ((with_reducible refine gate_d (N := 24) rfl ?_); obtain ⟨ad29, c88, uead29, hv89, HCad29_, HEad29_⟩ := SlS.get SWt4.out.slS (i := x7_0) hc53.out hc54.out; have HCad29 := hid HCad29_; have HEad29 := hid HEad29_; clear HCad29_ HEad29_; refine ag_fix (.pointer (some (ad29.add x7_0.toNat))) (ex_sat _ _ x7_0 _ _ hv89 hc53.out hc54.out us92 sT27 _ _ rfl rfl rfl) rfl ?_; clear hv89)
            | ((with_reducible refine gate_d (N := 25) rfl ?_); have SWo30 : Hid (SlT wr 3 uead29 ((nt t4 x7_0.toNat []).map (Value.int .i64))) := hid HEad29.out; refine ag_fix (uead29) (ex_scell sT27 _ _ HCad29.out _ rfl rfl) rfl ?_)
            | ((with_reducible refine gate_d (N := 26) rfl ?_); obtain ⟨A90, c91, hv92⟩ := SWo30.out.sl.shape; rw [List.length_map] at hv92; refine ag_fix (.int .i64 ((nt t4 x7_0.toNat []).length : Int)) (ex_len us27 _ _ _ _ hv92 _ rfl rfl) rfl ?_; clear hv92))
           (try simp only [Act.put, sI, sZ, sS])
           go_roundg k52
           case measure => have := HK45.out; have := HK51.out; omega
           case rel => exact ⟨wrap64 (x7_0 + 1), yb3_0_1, (by first | rfl | (simp; done) | (simp [*]; done)), H', (hid (by first | omega | (have := HK45.out; have := HK51.out; omega))), (hid (by first | rfl | (simp only [List.length_set, List.length_replicate, zL_len, List.length_cons, List.length_nil, LN_a0.out, LN_yb3_0_0.out, LN_yb3_0_1.out]; done) | (simp [zL_len, LN_a0.out, LN_yb3_0_0.out, LN_yb3_0_1.out]; done))), (hid (by exact BKb1.out)), (hid (by exact BKb2.out)), (hid (by exact BKb3.out)), SWt4, HL⟩
         ·
          rw [if_neg c54] at H
          exact absurd H (by simp)
        ·
         rw [if_neg c53] at H
         exact absurd H (by simp)
     ·
      rw [if_neg c47] at H
      have c47b0 : decide (x7_0 < (t4.length : Int)) = false := decide_eq_false c47
      have hc47 := hid c47
      clear c47
      obtain rfl := Option.some.inj H
      clear H
      go_wp2_with (first
       | ((with_reducible refine gate_d (N := 17) rfl ?_); obtain ⟨A93, c94, hv95⟩ := SWt4.out.slS.shape; skip; refine ag_fix (.int .i64 (t4.length : Int)) (ex_len us92 _ _ _ _ hv95 _ rfl rfl) rfl ?_; clear hv95)
       | ((with_reducible refine gate_d (N := 48) rfl ?_); refine ag_fix (.agg (av Value.bool yb3_0_0)) (ex_load aT133 gb3 0 (av Value.bool yb3_0_0) (av Value.bool yb3_0_0) BKb3.out (av_le LN_yb3_0_0.out) (av_ex LN_yb3_0_0.out) _ rfl rfl) rfl ?_)
       | ((with_reducible refine gate_s (t := 133) (p := 4) rfl ?_); refine ag_store aT133 gb2 0 (av Value.bool (List.replicate 64 false)) (av Value.bool yb3_0_0) (av Value.bool yb3_0_0) BKb2.out (by rw [show (av Value.bool yb3_0_0) = av Value.bool yb3_0_0 from rfl, av_size]; exact LN_yb3_0_0.out) (av_le (by first | rfl | (simp only [List.length_set, List.length_replicate, zL_len, List.length_cons, List.length_nil, LN_a0.out, LN_yb3_0_0.out]; done) | (simp [zL_len, LN_a0.out, LN_yb3_0_0.out]; done))) (av_one (fun _ => rfl)) (av_put (by first | rfl | (simp only [List.length_set, List.length_replicate, zL_len, List.length_cons, List.length_nil, LN_a0.out, LN_yb3_0_0.out]; done) | (simp [zL_len, LN_a0.out, LN_yb3_0_0.out]; done)) LN_yb3_0_0.out) rfl _ _ rfl rfl rfl ?_; intro w96 ho_ hB_; replace BKb1 := hid (BKb1.out.off ho_ NBb1_b2.out); replace BKb3 := hid (BKb3.out.off ho_ NBb3_b2.out); replace SWt4 := hid (SWt4.out.off ho_ BKb2.out (by decide)); replace HL := hid (ho_.below HL.out GEb2.out); replace BKb2 := hid hB_; clear ho_ hB_))
      (try simp only [Act.put, sI, sZ, sS])
      refine bodyPost_ret (v := .agg (av Value.bool yb3_0_0)) (res_c aT133 rfl _ gb2 (av Value.bool yb3_0_0) BKb2.out (by rw [show (av Value.bool yb3_0_0) = av Value.bool yb3_0_0 from rfl, av_size]; exact LN_yb3_0_0.out) rfl) rfl ?_
      exact ⟨by first | rfl | (simp; done) | (simp [*]; done), LN_yb3_0_0.out, HL.out⟩
  ·
   rw [if_neg c38] at H
   exact absurd H (by simp)
 ·
  rw [if_neg c37] at H
  exact absurd H (by simp)
mutual
def i_alfilref07_Hits.l0 : Nat → List Int → Int → List (List Int) → Int → Option (Bool)
  | 0, _, _, _, _ => none
  | k + 1, a0, a2, t2, x8_0 => if x8_0 < (t2.length : Int) then (i_alfilref07_Hits.l1 k a0 a2 x8_0 t2 0) else (some false)
def i_alfilref07_Hits.l1 : Nat → List Int → Int → Int → List (List Int) → Int → Option (Bool)
  | 0, _, _, _, _, _ => none
  | k + 1, a0, a2, x8_0, t2, x9_1 => if 0 ≤ x8_0 then (if x8_0 < (t2.length : Int) then (if x9_1 < ((nt t2 x8_0.toNat []).length : Int) then (if 0 ≤ x9_1 then (if (nt (nt t2 x8_0.toNat []) x9_1.toNat 0) = a2 then (some true) else (if 0 ≤ (nt (nt t2 x8_0.toNat []) x9_1.toNat 0) then (if (nt (nt t2 x8_0.toNat []) x9_1.toNat 0) < 64 then (if (nt a0 ((nt (nt t2 x8_0.toNat []) x9_1.toNat 0).toNat) 0) = 0 then (i_alfilref07_Hits.l1 k a0 a2 x8_0 t2 (wrap64 (x9_1 + 1))) else (i_alfilref07_Hits.l0 k a0 a2 t2 (wrap64 (x8_0 + 1)))) else (none)) else (none))) else (none)) else (i_alfilref07_Hits.l0 k a0 a2 t2 (wrap64 (x8_0 + 1)))) else (none)) else (none)
end
def i_alfilref07_Hits.f (k : Nat) (a0 : List Int) (a1 : Int) (a2 : Int) : Option (Bool) := if 0 ≤ a1 then (if a1 < 64 then ((i_alfilref06_Of.f k (wrap64 (nt a0 a1.toNat 0)) a1).bind fun t2 => (i_alfilref07_Hits.l0 k a0 a2 t2 0)) else (none)) else (none)
set_option maxHeartbeats 40000000 in
set_option maxRecDepth 100000 in
theorem i_alfilref07_Hits.calls (k : Nat) (a0 : List Int) (a1 : Int) (a2 : Int) (hla0 : a0.length = 64) (r1 : Bool) (w : World) (h : i_alfilref07_Hits.f k a0 a1 a2 = some r1) :
    Calls Try.prog 117 #[.agg (bv a0), .int .i64 a1, .int .i64 a2] w fun e w' => e = .returned (.bool r1) ∧ Below w.heap.size w w' := by
 have LN_a0 := hid hla0
 clear hla0
 have HL := hid (Below.refl w.heap.size w)
 have H : (if 0 ≤ a1 then (if a1 < 64 then ((i_alfilref06_Of.f k (wrap64 (nt a0 a1.toNat 0)) a1).bind fun t2 => (i_alfilref07_Hits.l0 k a0 a2 t2 0)) else (none)) else (none)) = some r1 := h
 clear h
 by_cases c35 : 0 ≤ a1
 ·
  rw [if_pos c35] at H
  have c35b0 : decide (0 ≤ a1) = true := decide_eq_true c35
  have hc35 := hid c35
  clear c35
  by_cases c36 : a1 < 64
  ·
   rw [if_pos c36] at H
   have c36b0 : decide (a1 < 64) = true := decide_eq_true c36
   have hc36 := hid c36
   clear c36
   replace H := Option.bind_eq_some_iff.mp H
   obtain ⟨t2, A37_, H⟩ := H
   have A37 := hid A37_
   clear A37_
   have H' := hid H
   clear H
   go_enter Try.func117, Try.ntmps117
   have k39 := True.intro
   go_wp2_with (first
    | ((with_reducible refine gate_d (N := 3) rfl ?_); obtain ⟨gb1, hgb1⟩ : ∃ g_, w.heap.size = g_ := ⟨_, rfl⟩; refine ag_box (bv a0) gb1 hgb1 rfl _ rfl rfl ?_; intro w38 hb_ hB_ hs_; have GEb1 : Hid (w.heap.size ≤ gb1) := hid (by have := HL.out.size; omega); replace HL := hid (HL.out.trans (hb_.mono GEb1.out)); have BKb1 := hid hB_; clear hb_ hB_ hs_ hgb1)
    | ((with_reducible refine gate_d (N := 11) rfl ?_); refine ag_fix (.pointer (some ⟨gb1, a1.toNat, none⟩)) (ex_at 44 (.pointer (some ⟨gb1, 0, none⟩)) (.int .i64 a1) (.pointer (some ⟨gb1, a1.toNat, none⟩)) (fun w_ => (run_atv 42 uT44 sT42.size gb1 0 a1 hc35.out hc36.out w_).trans (by simp)) _ _ rfl rfl rfl) rfl ?_)
    | ((with_reducible refine gate_d (N := 12) rfl ?_); refine ag_fix (.int .i8 (nt a0 a1.toNat 0)) (ex_get sT42 gb1 (a1.toNat) (.int .i8 (nt a0 a1.toNat 0)) ((bv a0)) BKb1.out (av_get 0 (by have h_ : a0.length = 64 := LN_a0.out; have h1_ := hc35.out; have h2_ := hc36.out; omega)) _ rfl rfl) rfl ?_)
    | (go_at_call 55; clear k39; refine (i_alfilref06_Of.calls k (wrap64 (nt a0 a1.toNat 0)) a1 t2 _ A37.out).mono ?_; rintro e_ w40 ⟨ut2, rfl, so_t2, hb_⟩; replace so_t2 := so_t2.mono HL.out.size; have SWn_t2 := hid so_t2; clear so_t2; replace BKb1 := hid (BKb1.out.below hb_ BKb1.out.lt); replace HL := hid (HL.out.trans (hb_.mono HL.out.size)); clear hb_; have SWt2 := SWn_t2; clear SWn_t2))
   (try simp only [Act.put, sI, sZ, sS])
   go_loopg [8] k (fun kq v8 w' => ∃ (x8_0 : Int), v8 = .int .i64 x8_0 ∧ Hid (i_alfilref07_Hits.l0 kq a0 a2 t2 x8_0 = some r1) ∧ Hid (kq ≤ k) ∧ Hid (Blk w' gb1 44 (bv a0)) ∧ Hid (OwnS w' w.heap.size 27 3 (Value.int .i64) ut2 t2) ∧ Hid (Below w.heap.size w w'))
   case atStart => exact ⟨(0 : Int), (by first | rfl | (simp; done) | (simp [*]; done)), H', (hid (by first | omega | (omega))), (hid (by exact BKb1.out)), SWt2, HL⟩
   case round =>
    clear H'
    clear HL BKb1 SWt2
    obtain ⟨x8_0, rfl, HA, HK41, BKb1, SWt2, HL⟩ := hrel
    cases gk with
    | zero => exact absurd HA.out (by simp [i_alfilref07_Hits.l0])
    | succ k42 =>
     have H := HA.out
     clear HA
     simp only [i_alfilref07_Hits.l0] at H
     by_cases c43 : x8_0 < (t2.length : Int)
     ·
      rw [if_pos c43] at H
      have c43b0 : decide (x8_0 < (t2.length : Int)) = true := decide_eq_true c43
      have hc43 := hid c43
      clear c43
      have H' := hid H
      clear H
      go_wp2_with (first
       | ((with_reducible refine gate_d (N := 18) rfl ?_); obtain ⟨A44, c45, hv46⟩ := SWt2.out.slS.shape; skip; refine ag_fix (.int .i64 (t2.length : Int)) (ex_len us92 _ _ _ _ hv46 _ rfl rfl) rfl ?_; clear hv46))
      (try simp only [Act.put, sI, sZ, sS])
      go_loopg [9] k42 (fun kq v9 w' => ∃ (x9_1 : Int), v9 = .int .i64 x9_1 ∧ Hid (i_alfilref07_Hits.l1 kq a0 a2 x8_0 t2 x9_1 = some r1) ∧ Hid (kq ≤ k42) ∧ Hid (Blk w' gb1 44 (bv a0)) ∧ Hid (OwnS w' w.heap.size 27 3 (Value.int .i64) ut2 t2) ∧ Hid (Below w.heap.size w w'))
      case atStart => exact ⟨(0 : Int), (by first | rfl | (simp; done) | (simp [*]; done)), H', (hid (by first | omega | (have := HK41.out; omega))), (hid (by exact BKb1.out)), SWt2, HL⟩
      case round =>
       clear H'
       clear HL BKb1 SWt2
       obtain ⟨x9_1, rfl, HA, HK47, BKb1, SWt2, HL⟩ := hrel
       cases gk with
       | zero => exact absurd HA.out (by simp [i_alfilref07_Hits.l1])
       | succ k48 =>
        have H := HA.out
        clear HA
        simp only [i_alfilref07_Hits.l1] at H
        by_cases c49 : 0 ≤ x8_0
        ·
         rw [if_pos c49] at H
         have c49b0 : decide (0 ≤ x8_0) = true := decide_eq_true c49
         have hc49 := hid c49
         clear c49
         by_cases c50 : x8_0 < (t2.length : Int)
         ·
          rw [if_pos c50] at H
          have c50b0 : decide (x8_0 < (t2.length : Int)) = true := decide_eq_true c50
          have hc50 := hid c50
          clear c50
          by_cases c51 : x9_1 < ((nt t2 x8_0.toNat []).length : Int)
          ·
           rw [if_pos c51] at H
           have c51b0 : decide (x9_1 < ((nt t2 x8_0.toNat []).length : Int)) = true := decide_eq_true c51
           have hc51 := hid c51
           clear c51
           by_cases c52 : 0 ≤ x9_1
           ·
            rw [if_pos c52] at H
            have c52b0 : decide (0 ≤ x9_1) = true := decide_eq_true c52
            have hc52 := hid c52
            clear c52
            by_cases c53 : (nt (nt t2 x8_0.toNat []) x9_1.toNat 0) = a2
            ·
             rw [if_pos c53] at H
             have c53b0 : ((nt (nt t2 x8_0.toNat []) x9_1.toNat 0) == a2) = true := beq_iff_eq.mpr c53
             have c53b1 : ((nt (nt t2 x8_0.toNat []) x9_1.toNat 0) != a2) = false := bne_eq_false_iff_eq.mpr c53
             have hc53 := hid c53
             clear c53
             obtain rfl := Option.some.inj H
             clear H
             go_wp2_with (first
              | ((with_reducible refine gate_d (N := 25) rfl ?_); obtain ⟨ad27, c54, uead27, hv55, HCad27_, HEad27_⟩ := SlS.get SWt2.out.slS (i := x8_0) hc49.out hc50.out; have HCad27 := hid HCad27_; have HEad27 := hid HEad27_; clear HCad27_ HEad27_; refine ag_fix (.pointer (some (ad27.add x8_0.toNat))) (ex_sat _ _ x8_0 _ _ hv55 hc49.out hc50.out us92 sT27 _ _ rfl rfl rfl) rfl ?_; clear hv55)
              | ((with_reducible refine gate_d (N := 26) rfl ?_); have SWo28 : Hid (SlT wr 3 uead27 ((nt t2 x8_0.toNat []).map (Value.int .i64))) := hid HEad27.out; refine ag_fix (uead27) (ex_scell sT27 _ _ HCad27.out _ rfl rfl) rfl ?_)
              | ((with_reducible refine gate_d (N := 27) rfl ?_); obtain ⟨A56, c57, hv58⟩ := SWo28.out.sl.shape; rw [List.length_map] at hv58; refine ag_fix (.int .i64 ((nt t2 x8_0.toNat []).length : Int)) (ex_len us27 _ _ _ _ hv58 _ rfl rfl) rfl ?_; clear hv58)
              | ((with_reducible refine gate_d (N := 33) rfl ?_); obtain ⟨ad29, c59, uead29, hv60, HCad29_, HEad29_⟩ := SlS.get SWt2.out.slS (i := x8_0) hc49.out hc50.out; have HCad29 := hid HCad29_; have HEad29 := hid HEad29_; clear HCad29_ HEad29_; refine ag_fix (.pointer (some (ad29.add x8_0.toNat))) (ex_sat _ _ x8_0 _ _ hv60 hc49.out hc50.out us92 sT27 _ _ rfl rfl rfl) rfl ?_; clear hv60)
              | ((with_reducible refine gate_d (N := 34) rfl ?_); have SWo30 : Hid (SlT wr 3 uead29 ((nt t2 x8_0.toNat []).map (Value.int .i64))) := hid HEad29.out; refine ag_fix (uead29) (ex_scell sT27 _ _ HCad29.out _ rfl rfl) rfl ?_)
              | ((with_reducible refine gate_d (N := 36) rfl ?_); obtain ⟨ad31, c61, hv62, HCad31_⟩ := Sl.get (l := nt t2 x8_0.toNat []) (f := (Value.int .i64)) SWo30.out.sl 0 (i := x9_1) hc52.out hc51.out; have HCad31 := hid HCad31_; clear HCad31_; refine ag_fix (.pointer (some (ad31.add x9_1.toNat))) (ex_sat _ _ x9_1 _ _ hv62 hc52.out hc51.out us27 sT3 _ _ rfl rfl rfl) rfl ?_; have HVAad31 := hid hv62; clear hv62)
              | ((with_reducible refine gate_d (N := 37) rfl ?_); refine ag_fix (.int .i64 (nt (nt t2 x8_0.toNat []) x9_1.toNat 0)) (ex_scell sT3 _ _ HCad31.out _ rfl rfl) rfl ?_))
             (try simp only [Act.put, sI, sZ, sS])
             go_ret
             exact ⟨by first | rfl | (simp; done) | (simp [*]; done), HL.out⟩
            ·
             rw [if_neg c53] at H
             have c53b0 : ((nt (nt t2 x8_0.toNat []) x9_1.toNat 0) == a2) = false := beq_eq_false_iff_ne.mpr c53
             have c53b1 : ((nt (nt t2 x8_0.toNat []) x9_1.toNat 0) != a2) = true := bne_iff_ne.mpr c53
             have hc53 := hid c53
             clear c53
             by_cases c63 : 0 ≤ (nt (nt t2 x8_0.toNat []) x9_1.toNat 0)
             ·
              rw [if_pos c63] at H
              have c63b0 : decide (0 ≤ (nt (nt t2 x8_0.toNat []) x9_1.toNat 0)) = true := decide_eq_true c63
              have hc63 := hid c63
              clear c63
              by_cases c64 : (nt (nt t2 x8_0.toNat []) x9_1.toNat 0) < 64
              ·
               rw [if_pos c64] at H
               have c64b0 : decide ((nt (nt t2 x8_0.toNat []) x9_1.toNat 0) < 64) = true := decide_eq_true c64
               have hc64 := hid c64
               clear c64
               by_cases c65 : (nt a0 ((nt (nt t2 x8_0.toNat []) x9_1.toNat 0).toNat) 0) = 0
               ·
                rw [if_pos c65] at H
                have c65b0 : ((nt a0 ((nt (nt t2 x8_0.toNat []) x9_1.toNat 0).toNat) 0) == 0) = true := beq_iff_eq.mpr c65
                have c65b1 : ((nt a0 ((nt (nt t2 x8_0.toNat []) x9_1.toNat 0).toNat) 0) != 0) = false := bne_eq_false_iff_eq.mpr c65
                have hc65 := hid c65
                clear c65
                have H' := hid H
                clear H
                go_wp2_with (first
                 | ((with_reducible refine gate_d (N := 25) rfl ?_); obtain ⟨ad27, c66, uead27, hv67, HCad27_, HEad27_⟩ := SlS.get SWt2.out.slS (i := x8_0) hc49.out hc50.out; have HCad27 := hid HCad27_; have HEad27 := hid HEad27_; clear HCad27_ HEad27_; refine ag_fix (.pointer (some (ad27.add x8_0.toNat))) (ex_sat _ _ x8_0 _ _ hv67 hc49.out hc50.out us92 sT27 _ _ rfl rfl rfl) rfl ?_; clear hv67)
                 | ((with_reducible refine gate_d (N := 26) rfl ?_); have SWo28 : Hid (SlT wr 3 uead27 ((nt t2 x8_0.toNat []).map (Value.int .i64))) := hid HEad27.out; refine ag_fix (uead27) (ex_scell sT27 _ _ HCad27.out _ rfl rfl) rfl ?_)
                 | ((with_reducible refine gate_d (N := 27) rfl ?_); obtain ⟨A68, c69, hv70⟩ := SWo28.out.sl.shape; rw [List.length_map] at hv70; refine ag_fix (.int .i64 ((nt t2 x8_0.toNat []).length : Int)) (ex_len us27 _ _ _ _ hv70 _ rfl rfl) rfl ?_; clear hv70)
                 | ((with_reducible refine gate_d (N := 33) rfl ?_); obtain ⟨ad29, c71, uead29, hv72, HCad29_, HEad29_⟩ := SlS.get SWt2.out.slS (i := x8_0) hc49.out hc50.out; have HCad29 := hid HCad29_; have HEad29 := hid HEad29_; clear HCad29_ HEad29_; refine ag_fix (.pointer (some (ad29.add x8_0.toNat))) (ex_sat _ _ x8_0 _ _ hv72 hc49.out hc50.out us92 sT27 _ _ rfl rfl rfl) rfl ?_; clear hv72)
                 | ((with_reducible refine gate_d (N := 34) rfl ?_); have SWo30 : Hid (SlT wr 3 uead29 ((nt t2 x8_0.toNat []).map (Value.int .i64))) := hid HEad29.out; refine ag_fix (uead29) (ex_scell sT27 _ _ HCad29.out _ rfl rfl) rfl ?_)
                 | ((with_reducible refine gate_d (N := 36) rfl ?_); obtain ⟨ad31, c73, hv74, HCad31_⟩ := Sl.get (l := nt t2 x8_0.toNat []) (f := (Value.int .i64)) SWo30.out.sl 0 (i := x9_1) hc52.out hc51.out; have HCad31 := hid HCad31_; clear HCad31_; refine ag_fix (.pointer (some (ad31.add x9_1.toNat))) (ex_sat _ _ x9_1 _ _ hv74 hc52.out hc51.out us27 sT3 _ _ rfl rfl rfl) rfl ?_; have HVAad31 := hid hv74; clear hv74)
                 | ((with_reducible refine gate_d (N := 37) rfl ?_); refine ag_fix (.int .i64 (nt (nt t2 x8_0.toNat []) x9_1.toNat 0)) (ex_scell sT3 _ _ HCad31.out _ rfl rfl) rfl ?_)
                 | ((with_reducible refine gate_d (N := 42) rfl ?_); obtain ⟨ad32, c75, uead32, hv76, HCad32_, HEad32_⟩ := SlS.get SWt2.out.slS (i := x8_0) hc49.out hc50.out; have HCad32 := hid HCad32_; have HEad32 := hid HEad32_; clear HCad32_ HEad32_; refine ag_fix (.pointer (some (ad32.add x8_0.toNat))) (ex_sat _ _ x8_0 _ _ hv76 hc49.out hc50.out us92 sT27 _ _ rfl rfl rfl) rfl ?_; clear hv76)
                 | ((with_reducible refine gate_d (N := 43) rfl ?_); have SWo33 : Hid (SlT wr 3 uead32 ((nt t2 x8_0.toNat []).map (Value.int .i64))) := hid HEad32.out; refine ag_fix (uead32) (ex_scell sT27 _ _ HCad32.out _ rfl rfl) rfl ?_)
                 | ((with_reducible refine gate_d (N := 45) rfl ?_); obtain ⟨ad34, c77, hv78, HCad34_⟩ := Sl.get (l := nt t2 x8_0.toNat []) (f := (Value.int .i64)) SWo33.out.sl 0 (i := x9_1) hc52.out hc51.out; have HCad34 := hid HCad34_; clear HCad34_; refine ag_fix (.pointer (some (ad34.add x9_1.toNat))) (ex_sat _ _ x9_1 _ _ hv78 hc52.out hc51.out us27 sT3 _ _ rfl rfl rfl) rfl ?_; have HVAad34 := hid hv78; clear hv78)
                 | ((with_reducible refine gate_d (N := 46) rfl ?_); refine ag_fix (.int .i64 (nt (nt t2 x8_0.toNat []) x9_1.toNat 0)) (ex_scell sT3 _ _ HCad34.out _ rfl rfl) rfl ?_)
                 | ((with_reducible refine gate_d (N := 47) rfl ?_); refine ag_fix (.pointer (some ⟨gb1, (nt (nt t2 x8_0.toNat []) x9_1.toNat 0).toNat, none⟩)) (ex_at 44 (.pointer (some ⟨gb1, 0, none⟩)) (.int .i64 (nt (nt t2 x8_0.toNat []) x9_1.toNat 0)) (.pointer (some ⟨gb1, (nt (nt t2 x8_0.toNat []) x9_1.toNat 0).toNat, none⟩)) (fun w_ => (run_atv 42 uT44 sT42.size gb1 0 (nt (nt t2 x8_0.toNat []) x9_1.toNat 0) hc63.out hc64.out w_).trans (by simp)) _ _ rfl rfl rfl) rfl ?_)
                 | ((with_reducible refine gate_d (N := 48) rfl ?_); refine ag_fix (.int .i8 (nt a0 ((nt (nt t2 x8_0.toNat []) x9_1.toNat 0).toNat) 0)) (ex_get sT42 gb1 ((nt (nt t2 x8_0.toNat []) x9_1.toNat 0).toNat) (.int .i8 (nt a0 ((nt (nt t2 x8_0.toNat []) x9_1.toNat 0).toNat) 0)) ((bv a0)) BKb1.out (av_get 0 (by have h_ : a0.length = 64 := LN_a0.out; have h1_ := hc63.out; have h2_ := hc64.out; omega)) _ rfl rfl) rfl ?_))
                (try simp only [Act.put, sI, sZ, sS])
                go_roundg k48
                case measure => have := HK41.out; have := HK47.out; omega
                case rel => exact ⟨wrap64 (x9_1 + 1), (by first | rfl | (simp; done) | (simp [*]; done)), H', (hid (by first | omega | (have := HK41.out; have := HK47.out; omega))), (hid (by exact BKb1.out)), SWt2, HL⟩
               ·
                rw [if_neg c65] at H
                have c65b0 : ((nt a0 ((nt (nt t2 x8_0.toNat []) x9_1.toNat 0).toNat) 0) == 0) = false := beq_eq_false_iff_ne.mpr c65
                have c65b1 : ((nt a0 ((nt (nt t2 x8_0.toNat []) x9_1.toNat 0).toNat) 0) != 0) = true := bne_iff_ne.mpr c65
                have hc65 := hid c65
                clear c65
                have H' := hid H
                clear H
                go_wp2_with (first
                 | ((with_reducible refine gate_d (N := 25) rfl ?_); obtain ⟨ad27, c79, uead27, hv80, HCad27_, HEad27_⟩ := SlS.get SWt2.out.slS (i := x8_0) hc49.out hc50.out; have HCad27 := hid HCad27_; have HEad27 := hid HEad27_; clear HCad27_ HEad27_; refine ag_fix (.pointer (some (ad27.add x8_0.toNat))) (ex_sat _ _ x8_0 _ _ hv80 hc49.out hc50.out us92 sT27 _ _ rfl rfl rfl) rfl ?_; clear hv80)
                 | ((with_reducible refine gate_d (N := 26) rfl ?_); have SWo28 : Hid (SlT wr 3 uead27 ((nt t2 x8_0.toNat []).map (Value.int .i64))) := hid HEad27.out; refine ag_fix (uead27) (ex_scell sT27 _ _ HCad27.out _ rfl rfl) rfl ?_)
                 | ((with_reducible refine gate_d (N := 27) rfl ?_); obtain ⟨A81, c82, hv83⟩ := SWo28.out.sl.shape; rw [List.length_map] at hv83; refine ag_fix (.int .i64 ((nt t2 x8_0.toNat []).length : Int)) (ex_len us27 _ _ _ _ hv83 _ rfl rfl) rfl ?_; clear hv83)
                 | ((with_reducible refine gate_d (N := 33) rfl ?_); obtain ⟨ad29, c84, uead29, hv85, HCad29_, HEad29_⟩ := SlS.get SWt2.out.slS (i := x8_0) hc49.out hc50.out; have HCad29 := hid HCad29_; have HEad29 := hid HEad29_; clear HCad29_ HEad29_; refine ag_fix (.pointer (some (ad29.add x8_0.toNat))) (ex_sat _ _ x8_0 _ _ hv85 hc49.out hc50.out us92 sT27 _ _ rfl rfl rfl) rfl ?_; clear hv85)
                 | ((with_reducible refine gate_d (N := 34) rfl ?_); have SWo30 : Hid (SlT wr 3 uead29 ((nt t2 x8_0.toNat []).map (Value.int .i64))) := hid HEad29.out; refine ag_fix (uead29) (ex_scell sT27 _ _ HCad29.out _ rfl rfl) rfl ?_)
                 | ((with_reducible refine gate_d (N := 36) rfl ?_); obtain ⟨ad31, c86, hv87, HCad31_⟩ := Sl.get (l := nt t2 x8_0.toNat []) (f := (Value.int .i64)) SWo30.out.sl 0 (i := x9_1) hc52.out hc51.out; have HCad31 := hid HCad31_; clear HCad31_; refine ag_fix (.pointer (some (ad31.add x9_1.toNat))) (ex_sat _ _ x9_1 _ _ hv87 hc52.out hc51.out us27 sT3 _ _ rfl rfl rfl) rfl ?_; have HVAad31 := hid hv87; clear hv87)
                 | ((with_reducible refine gate_d (N := 37) rfl ?_); refine ag_fix (.int .i64 (nt (nt t2 x8_0.toNat []) x9_1.toNat 0)) (ex_scell sT3 _ _ HCad31.out _ rfl rfl) rfl ?_)
                 | ((with_reducible refine gate_d (N := 42) rfl ?_); obtain ⟨ad32, c88, uead32, hv89, HCad32_, HEad32_⟩ := SlS.get SWt2.out.slS (i := x8_0) hc49.out hc50.out; have HCad32 := hid HCad32_; have HEad32 := hid HEad32_; clear HCad32_ HEad32_; refine ag_fix (.pointer (some (ad32.add x8_0.toNat))) (ex_sat _ _ x8_0 _ _ hv89 hc49.out hc50.out us92 sT27 _ _ rfl rfl rfl) rfl ?_; clear hv89)
                 | ((with_reducible refine gate_d (N := 43) rfl ?_); have SWo33 : Hid (SlT wr 3 uead32 ((nt t2 x8_0.toNat []).map (Value.int .i64))) := hid HEad32.out; refine ag_fix (uead32) (ex_scell sT27 _ _ HCad32.out _ rfl rfl) rfl ?_)
                 | ((with_reducible refine gate_d (N := 45) rfl ?_); obtain ⟨ad34, c90, hv91, HCad34_⟩ := Sl.get (l := nt t2 x8_0.toNat []) (f := (Value.int .i64)) SWo33.out.sl 0 (i := x9_1) hc52.out hc51.out; have HCad34 := hid HCad34_; clear HCad34_; refine ag_fix (.pointer (some (ad34.add x9_1.toNat))) (ex_sat _ _ x9_1 _ _ hv91 hc52.out hc51.out us27 sT3 _ _ rfl rfl rfl) rfl ?_; have HVAad34 := hid hv91; clear hv91)
                 | ((with_reducible refine gate_d (N := 46) rfl ?_); refine ag_fix (.int .i64 (nt (nt t2 x8_0.toNat []) x9_1.toNat 0)) (ex_scell sT3 _ _ HCad34.out _ rfl rfl) rfl ?_)
                 | ((with_reducible refine gate_d (N := 47) rfl ?_); refine ag_fix (.pointer (some ⟨gb1, (nt (nt t2 x8_0.toNat []) x9_1.toNat 0).toNat, none⟩)) (ex_at 44 (.pointer (some ⟨gb1, 0, none⟩)) (.int .i64 (nt (nt t2 x8_0.toNat []) x9_1.toNat 0)) (.pointer (some ⟨gb1, (nt (nt t2 x8_0.toNat []) x9_1.toNat 0).toNat, none⟩)) (fun w_ => (run_atv 42 uT44 sT42.size gb1 0 (nt (nt t2 x8_0.toNat []) x9_1.toNat 0) hc63.out hc64.out w_).trans (by simp)) _ _ rfl rfl rfl) rfl ?_)
                 | ((with_reducible refine gate_d (N := 48) rfl ?_); refine ag_fix (.int .i8 (nt a0 ((nt (nt t2 x8_0.toNat []) x9_1.toNat 0).toNat) 0)) (ex_get sT42 gb1 ((nt (nt t2 x8_0.toNat []) x9_1.toNat 0).toNat) (.int .i8 (nt a0 ((nt (nt t2 x8_0.toNat []) x9_1.toNat 0).toNat) 0)) ((bv a0)) BKb1.out (av_get 0 (by have h_ : a0.length = 64 := LN_a0.out; have h1_ := hc63.out; have h2_ := hc64.out; omega)) _ rfl rfl) rfl ?_))
                (try simp only [Act.put, sI, sZ, sS])
                go_roundg k48
                case measure => have := HK41.out; have := HK47.out; omega
                case rel => exact ⟨wrap64 (x8_0 + 1), (by first | rfl | (simp; done) | (simp [*]; done)), H', (hid (by first | omega | (have := HK41.out; have := HK47.out; omega))), (hid (by exact BKb1.out)), SWt2, HL⟩
              ·
               rw [if_neg c64] at H
               exact absurd H (by simp)
             ·
              rw [if_neg c63] at H
              exact absurd H (by simp)
           ·
            rw [if_neg c52] at H
            exact absurd H (by simp)
          ·
           rw [if_neg c51] at H
           have c51b0 : decide (x9_1 < ((nt t2 x8_0.toNat []).length : Int)) = false := decide_eq_false c51
           have hc51 := hid c51
           clear c51
           have H' := hid H
           clear H
           go_wp2_with (first
            | ((with_reducible refine gate_d (N := 25) rfl ?_); obtain ⟨ad27, c92, uead27, hv93, HCad27_, HEad27_⟩ := SlS.get SWt2.out.slS (i := x8_0) hc49.out hc50.out; have HCad27 := hid HCad27_; have HEad27 := hid HEad27_; clear HCad27_ HEad27_; refine ag_fix (.pointer (some (ad27.add x8_0.toNat))) (ex_sat _ _ x8_0 _ _ hv93 hc49.out hc50.out us92 sT27 _ _ rfl rfl rfl) rfl ?_; clear hv93)
            | ((with_reducible refine gate_d (N := 26) rfl ?_); have SWo28 : Hid (SlT wr 3 uead27 ((nt t2 x8_0.toNat []).map (Value.int .i64))) := hid HEad27.out; refine ag_fix (uead27) (ex_scell sT27 _ _ HCad27.out _ rfl rfl) rfl ?_)
            | ((with_reducible refine gate_d (N := 27) rfl ?_); obtain ⟨A94, c95, hv96⟩ := SWo28.out.sl.shape; rw [List.length_map] at hv96; refine ag_fix (.int .i64 ((nt t2 x8_0.toNat []).length : Int)) (ex_len us27 _ _ _ _ hv96 _ rfl rfl) rfl ?_; clear hv96))
           (try simp only [Act.put, sI, sZ, sS])
           go_roundg k48
           case measure => have := HK41.out; have := HK47.out; omega
           case rel => exact ⟨wrap64 (x8_0 + 1), (by first | rfl | (simp; done) | (simp [*]; done)), H', (hid (by first | omega | (have := HK41.out; have := HK47.out; omega))), (hid (by exact BKb1.out)), SWt2, HL⟩
         ·
          rw [if_neg c50] at H
          exact absurd H (by simp)
        ·
         rw [if_neg c49] at H
         exact absurd H (by simp)
     ·
      rw [if_neg c43] at H
      have c43b0 : decide (x8_0 < (t2.length : Int)) = false := decide_eq_false c43
      have hc43 := hid c43
      clear c43
      obtain rfl := Option.some.inj H
      clear H
      go_wp2_with (first
       | ((with_reducible refine gate_d (N := 18) rfl ?_); obtain ⟨A97, c98, hv99⟩ := SWt2.out.slS.shape; skip; refine ag_fix (.int .i64 (t2.length : Int)) (ex_len us92 _ _ _ _ hv99 _ rfl rfl) rfl ?_; clear hv99))
      (try simp only [Act.put, sI, sZ, sS])
      go_ret
      exact ⟨by first | rfl | (simp; done) | (simp [*]; done), HL.out⟩
  ·
   rw [if_neg c36] at H
   exact absurd H (by simp)
 ·
  rw [if_neg c35] at H
  exact absurd H (by simp)
def i_alfilref07_By.l0 : Nat → List Int → Int → Int → List Int → Int → Option ((List Int))
  | 0, _, _, _, _, _ => none
  | k + 1, a0, a1, a2, x7_0, x8_0 => if x8_0 < 64 then (if 0 ≤ x8_0 then ((i_alfilref02_Side.f k (wrap64 (nt a0 x8_0.toNat 0))).bind fun t7 => (if t7 = a2 then ((i_alfilref07_Hits.f k a0 x8_0 a1).bind fun t8 => (if t8 = true then (if x7_0.length < 17592186044416 then (i_alfilref07_By.l0 k a0 a1 a2 (x7_0 ++ [x8_0]) (wrap64 (x8_0 + 1))) else (none)) else (i_alfilref07_By.l0 k a0 a1 a2 x7_0 (wrap64 (x8_0 + 1))))) else (i_alfilref07_By.l0 k a0 a1 a2 x7_0 (wrap64 (x8_0 + 1))))) else (none)) else (some x7_0)
def i_alfilref07_By.f (k : Nat) (a0 : List Int) (a1 : Int) (a2 : Int) : Option ((List Int)) := if a1 < 0 then (some ([] : List Int)) else (if a1 > 63 then (some ([] : List Int)) else ((i_alfilref03_Right.f k a0).bind fun t2 => (if t2 = true then (i_alfilref07_By.l0 k a0 a1 a2 ([] : List Int) 0) else (some ([] : List Int)))))
def i_alfilref07_By.post (r1 : List Int) (w : World) (e : Ending) (w' : World) : Prop := ∃ (u_r1 : Value), e = .returned (u_r1) ∧ Own w' w.heap.size 3 (u_r1) (r1.map (Value.int .i64)) ∧ Below w.heap.size w w'
set_option maxHeartbeats 40000000 in
set_option maxRecDepth 100000 in
theorem i_alfilref07_By.calls (k : Nat) (a0 : List Int) (a1 : Int) (a2 : Int) (hla0 : a0.length = 64) (r1 : List Int) (w : World) (h : i_alfilref07_By.f k a0 a1 a2 = some r1) :
    Calls Try.prog 110 #[.agg (bv a0), .int .i64 a1, .int .i64 a2] w (i_alfilref07_By.post r1 w) := by
 have LN_a0 := hid hla0
 clear hla0
 have HL := hid (Below.refl w.heap.size w)
 have H : (if a1 < 0 then (some ([] : List Int)) else (if a1 > 63 then (some ([] : List Int)) else ((i_alfilref03_Right.f k a0).bind fun t2 => (if t2 = true then (i_alfilref07_By.l0 k a0 a1 a2 ([] : List Int) 0) else (some ([] : List Int)))))) = some r1 := h
 clear h
 by_cases c11 : a1 < 0
 ·
  rw [if_pos c11] at H
  have c11b0 : decide (a1 < 0) = true := decide_eq_true c11
  have hc11 := hid c11
  clear c11
  obtain rfl := Option.some.inj H
  clear H
  go_enter Try.func110, Try.ntmps110
  go_wp2_with (first
   | ((with_reducible refine gate_d (N := 3) rfl ?_); obtain ⟨gb1, hgb1⟩ : ∃ g_, w.heap.size = g_ := ⟨_, rfl⟩; refine ag_box (bv a0) gb1 hgb1 rfl _ rfl rfl ?_; intro w12 hb_ hB_ hs_; have GEb1 : Hid (w.heap.size ≤ gb1) := hid (by have := HL.out.size; omega); replace HL := hid (HL.out.trans (hb_.mono GEb1.out)); have BKb1 := hid hB_; clear hb_ hB_ hs_ hgb1))
  (try simp only [Act.put, sI, sZ, sS])
  go_ret
  exact ⟨_, rfl, (Own.nil _ _ _), HL.out⟩
 ·
  rw [if_neg c11] at H
  have c11b0 : decide (a1 < 0) = false := decide_eq_false c11
  have hc11 := hid c11
  clear c11
  by_cases c13 : a1 > 63
  ·
   rw [if_pos c13] at H
   have c13b0 : decide (63 < a1) = true := decide_eq_true c13
   have hc13 := hid c13
   clear c13
   obtain rfl := Option.some.inj H
   clear H
   go_enter Try.func110, Try.ntmps110
   go_wp2_with (first
    | ((with_reducible refine gate_d (N := 3) rfl ?_); obtain ⟨gb1, hgb1⟩ : ∃ g_, w.heap.size = g_ := ⟨_, rfl⟩; refine ag_box (bv a0) gb1 hgb1 rfl _ rfl rfl ?_; intro w14 hb_ hB_ hs_; have GEb1 : Hid (w.heap.size ≤ gb1) := hid (by have := HL.out.size; omega); replace HL := hid (HL.out.trans (hb_.mono GEb1.out)); have BKb1 := hid hB_; clear hb_ hB_ hs_ hgb1))
   (try simp only [Act.put, sI, sZ, sS])
   go_ret
   exact ⟨_, rfl, (Own.nil _ _ _), HL.out⟩
  ·
   rw [if_neg c13] at H
   have c13b0 : decide (63 < a1) = false := decide_eq_false c13
   have hc13 := hid c13
   clear c13
   replace H := Option.bind_eq_some_iff.mp H
   obtain ⟨t2, A15_, H⟩ := H
   have A15 := hid A15_
   clear A15_
   cases t2 with
   | true =>
    rw [if_pos rfl] at H
    have H' := hid H
    clear H
    go_enter Try.func110, Try.ntmps110
    have k18 := True.intro
    go_wp2_with (first
     | ((with_reducible refine gate_d (N := 3) rfl ?_); obtain ⟨gb1, hgb1⟩ : ∃ g_, w.heap.size = g_ := ⟨_, rfl⟩; refine ag_box (bv a0) gb1 hgb1 rfl _ rfl rfl ?_; intro w17 hb_ hB_ hs_; have GEb1 : Hid (w.heap.size ≤ gb1) := hid (by have := HL.out.size; omega); replace HL := hid (HL.out.trans (hb_.mono GEb1.out)); have BKb1 := hid hB_; clear hb_ hB_ hs_ hgb1)
     | ((with_reducible refine gate_d (N := 16) rfl ?_); refine ag_fix (.agg (bv a0)) (ex_load boardT gb1 0 (bv a0) (bv a0) BKb1.out (av_le LN_a0.out) (av_ex LN_a0.out) _ rfl rfl) rfl ?_)
     | (go_at_call 37; clear k18; refine (i_alfilref03_Right.calls k a0 LN_a0.out true _ A15.out).mono ?_; rintro e_ w19 ⟨rfl, hb_⟩; replace BKb1 := hid (BKb1.out.below hb_ BKb1.out.lt); replace HL := hid (HL.out.trans (hb_.mono HL.out.size)); clear hb_))
    (try simp only [Act.put, sI, sZ, sS])
    go_loopg [7, 8] k (fun kq v7 v8 w' => ∃ (x7_0 : List Int) (ux7_0 : Value) (x8_0 : Int), ux7_0 = v7 ∧ v8 = .int .i64 x8_0 ∧ Hid (i_alfilref07_By.l0 kq a0 a1 a2 x7_0 x8_0 = some r1) ∧ Hid (kq ≤ k) ∧ Hid (Blk w' gb1 44 (bv a0)) ∧ Hid (Own w' w.heap.size 3 (ux7_0) (x7_0.map (Value.int .i64))) ∧ Hid (Below w.heap.size w w'))
    case atStart => exact ⟨([] : List Int), (.slice none 0 0), (0 : Int), (by first | rfl | (simp; done) | (simp [*]; done)), (by first | rfl | (simp; done) | (simp [*]; done)), H', (hid (by first | omega | (omega))), (hid (by exact BKb1.out)), (hid (Own.nil _ _ _)), HL⟩
    case round =>
     clear H'
     clear HL BKb1
     obtain ⟨x7_0, ux7_0, x8_0, rfl, rfl, HA, HK20, BKb1, SWx7_0, HL⟩ := hrel
     cases gk with
     | zero => exact absurd HA.out (by simp [i_alfilref07_By.l0])
     | succ k21 =>
      have H := HA.out
      clear HA
      simp only [i_alfilref07_By.l0] at H
      by_cases c22 : x8_0 < 64
      ·
       rw [if_pos c22] at H
       have c22b0 : decide (x8_0 < 64) = true := decide_eq_true c22
       have hc22 := hid c22
       clear c22
       by_cases c23 : 0 ≤ x8_0
       ·
        rw [if_pos c23] at H
        have c23b0 : decide (0 ≤ x8_0) = true := decide_eq_true c23
        have hc23 := hid c23
        clear c23
        replace H := Option.bind_eq_some_iff.mp H
        obtain ⟨t7, A24_, H⟩ := H
        have A24 := hid A24_
        clear A24_
        by_cases c25 : t7 = a2
        ·
         rw [if_pos c25] at H
         have c25b0 : (t7 == a2) = true := beq_iff_eq.mpr c25
         have c25b1 : (t7 != a2) = false := bne_eq_false_iff_eq.mpr c25
         have hc25 := hid c25
         clear c25
         have H' := hid H
         clear H
         have k27 := True.intro
         go_wp2_with (first
          | ((with_reducible refine gate_d (N := 26) rfl ?_); refine ag_fix (.pointer (some ⟨gb1, x8_0.toNat, none⟩)) (ex_at 44 (.pointer (some ⟨gb1, 0, none⟩)) (.int .i64 x8_0) (.pointer (some ⟨gb1, x8_0.toNat, none⟩)) (fun w_ => (run_atv 42 uT44 sT42.size gb1 0 x8_0 hc23.out hc22.out w_).trans (by simp)) _ _ rfl rfl rfl) rfl ?_)
          | ((with_reducible refine gate_d (N := 27) rfl ?_); refine ag_fix (.int .i8 (nt a0 x8_0.toNat 0)) (ex_get sT42 gb1 (x8_0.toNat) (.int .i8 (nt a0 x8_0.toNat 0)) ((bv a0)) BKb1.out (av_get 0 (by have h_ : a0.length = 64 := LN_a0.out; have h1_ := hc23.out; have h2_ := hc22.out; omega)) _ rfl rfl) rfl ?_)
          | (go_at_call 115; clear k27; refine (i_alfilref02_Side.calls k21 (wrap64 (nt a0 x8_0.toNat 0)) t7 _ A24.out).mono ?_; rintro e_ w' ⟨rfl, rfl⟩)
          | ((with_reducible refine gate_d (N := 33) rfl ?_); refine ag_fix (.agg (bv a0)) (ex_load boardT gb1 0 (bv a0) (bv a0) BKb1.out (av_le LN_a0.out) (av_ex LN_a0.out) _ rfl rfl) rfl ?_))
         (try simp only [Act.put, sI, sZ, sS])
         have H := H'.out
         clear H'
         replace H := Option.bind_eq_some_iff.mp H
         obtain ⟨t8, A26_, H⟩ := H
         have A26 := hid A26_
         clear A26_
         cases t8 with
         | true =>
          rw [if_pos rfl] at H
          by_cases c29 : x7_0.length < 17592186044416
          ·
           rw [if_pos c29] at H
           have c29b0 : decide (x7_0.length < 17592186044416) = true := decide_eq_true c29
           have hc29 := hid c29
           clear c29
           have H' := hid H
           clear H
           have k30 := True.intro
           have k34 := True.intro
           go_wp2_with (first
            | (go_at_call 117; clear k30; refine (i_alfilref07_Hits.calls k21 a0 x8_0 a1 LN_a0.out true _ A26.out).mono ?_; rintro e_ w31 ⟨rfl, hb_⟩; replace BKb1 := hid (BKb1.out.below hb_ BKb1.out.lt); replace SWx7_0 := hid (SWx7_0.out.below hb_); replace HL := hid (HL.out.trans (hb_.mono HL.out.size)); clear hb_)
            | ((with_reducible refine gate_d (N := 40) rfl ?_); obtain ⟨gb9, hgb9⟩ : ∃ g_, w31.heap.size = g_ := ⟨_, rfl⟩; refine ag_lit sT3 (.int .i64 x8_0) gb9 hgb9 rfl _ rfl rfl (fun w_ => by kernel_rfl) ?_; intro w32 hb_ hB_ hs_; have GEb9 : Hid (w.heap.size ≤ gb9) := hid (by have := HL.out.size; omega); have NBb1_b9 : Hid (gb1 ≠ gb9) := hid (by have := BKb1.out.lt; omega); have NBb9_b1 : Hid (gb9 ≠ gb1) := hid (by have := NBb1_b9.out; omega); replace BKb1 := hid (BKb1.out.below hb_ (by rw [← hgb9]; exact BKb1.out.lt)); replace SWx7_0 := hid (SWx7_0.out.below (by rw [hgb9]; exact hb_)); replace HL := hid (HL.out.trans (hb_.mono GEb9.out)); have BKb9 := hid hB_; clear hb_ hB_ hs_ hgb9)
            | (at_builtin; clear k34; refine app_one eT27 w.heap.size (ux7_0) (x7_0.map (Value.int .i64)) (.int .i64 x8_0) gb9 1 SWx7_0.out BKb9.out rfl (by have h_ := hc29.out; rw [List.length_map]; omega) (by have h_ := hc29.out; rw [List.length_map]; unfold maxLen; omega) HL.out.size rfl _ _ rfl rfl rfl ?_; intro uo10 w33 ho_ hb_ hk_ hi_; clear SWx7_0; have SWo10 : Hid (Own w33 w.heap.size 3 (uo10) ((x7_0 ++ [x8_0]).map (Value.int .i64))) := hid (by rw [List.map_append]; exact ho_); replace BKb1 := hid (hk_ _ _ _ (by decide) BKb1.out); replace HL := hid (HL.out.trans hb_); clear ho_ hb_ hk_ hi_ BKb9))
           (try simp only [Act.put, sI, sZ, sS])
           go_roundg k21
           case measure => have := HK20.out; omega
           case rel => exact ⟨x7_0 ++ [x8_0], (uo10), wrap64 (x8_0 + 1), (by first | rfl | (simp; done) | (simp [*]; done)), (by first | rfl | (simp; done) | (simp [*]; done)), H', (hid (by first | omega | (have := HK20.out; omega))), (hid (by exact BKb1.out)), SWo10, HL⟩
          ·
           rw [if_neg c29] at H
           exact absurd H (by simp)
         | false =>
          rw [if_neg (show ¬ (false = true) by decide)] at H
          have H' := hid H
          clear H
          have k35 := True.intro
          go_wp2_with (first
           | (go_at_call 117; clear k35; refine (i_alfilref07_Hits.calls k21 a0 x8_0 a1 LN_a0.out false _ A26.out).mono ?_; rintro e_ w36 ⟨rfl, hb_⟩; replace BKb1 := hid (BKb1.out.below hb_ BKb1.out.lt); replace SWx7_0 := hid (SWx7_0.out.below hb_); replace HL := hid (HL.out.trans (hb_.mono HL.out.size)); clear hb_))
          (try simp only [Act.put, sI, sZ, sS])
          go_roundg k21
          case measure => have := HK20.out; omega
          case rel => exact ⟨x7_0, (ux7_0), wrap64 (x8_0 + 1), (by first | rfl | (simp; done) | (simp [*]; done)), (by first | rfl | (simp; done) | (simp [*]; done)), H', (hid (by first | omega | (have := HK20.out; omega))), (hid (by exact BKb1.out)), SWx7_0, HL⟩
        ·
         rw [if_neg c25] at H
         have c25b0 : (t7 == a2) = false := beq_eq_false_iff_ne.mpr c25
         have c25b1 : (t7 != a2) = true := bne_iff_ne.mpr c25
         have hc25 := hid c25
         clear c25
         have H' := hid H
         clear H
         have k37 := True.intro
         go_wp2_with (first
          | ((with_reducible refine gate_d (N := 26) rfl ?_); refine ag_fix (.pointer (some ⟨gb1, x8_0.toNat, none⟩)) (ex_at 44 (.pointer (some ⟨gb1, 0, none⟩)) (.int .i64 x8_0) (.pointer (some ⟨gb1, x8_0.toNat, none⟩)) (fun w_ => (run_atv 42 uT44 sT42.size gb1 0 x8_0 hc23.out hc22.out w_).trans (by simp)) _ _ rfl rfl rfl) rfl ?_)
          | ((with_reducible refine gate_d (N := 27) rfl ?_); refine ag_fix (.int .i8 (nt a0 x8_0.toNat 0)) (ex_get sT42 gb1 (x8_0.toNat) (.int .i8 (nt a0 x8_0.toNat 0)) ((bv a0)) BKb1.out (av_get 0 (by have h_ : a0.length = 64 := LN_a0.out; have h1_ := hc23.out; have h2_ := hc22.out; omega)) _ rfl rfl) rfl ?_)
          | (go_at_call 115; clear k37; refine (i_alfilref02_Side.calls k21 (wrap64 (nt a0 x8_0.toNat 0)) t7 _ A24.out).mono ?_; rintro e_ w' ⟨rfl, rfl⟩))
         (try simp only [Act.put, sI, sZ, sS])
         go_roundg k21
         case measure => have := HK20.out; omega
         case rel => exact ⟨x7_0, (ux7_0), wrap64 (x8_0 + 1), (by first | rfl | (simp; done) | (simp [*]; done)), (by first | rfl | (simp; done) | (simp [*]; done)), H', (hid (by first | omega | (have := HK20.out; omega))), (hid (by exact BKb1.out)), SWx7_0, HL⟩
       ·
        rw [if_neg c23] at H
        exact absurd H (by simp)
      ·
       rw [if_neg c22] at H
       have c22b0 : decide (x8_0 < 64) = false := decide_eq_false c22
       have hc22 := hid c22
       clear c22
       obtain rfl := Option.some.inj H
       clear H
       go_wp2_with fail
       (try simp only [Act.put, sI, sZ, sS])
       go_ret
       exact ⟨_, rfl, (by exact SWx7_0.out), HL.out⟩
   | false =>
    rw [if_neg (show ¬ (false = true) by decide)] at H
    obtain rfl := Option.some.inj H
    clear H
    go_enter Try.func110, Try.ntmps110
    have k39 := True.intro
    go_wp2_with (first
     | ((with_reducible refine gate_d (N := 3) rfl ?_); obtain ⟨gb1, hgb1⟩ : ∃ g_, w.heap.size = g_ := ⟨_, rfl⟩; refine ag_box (bv a0) gb1 hgb1 rfl _ rfl rfl ?_; intro w38 hb_ hB_ hs_; have GEb1 : Hid (w.heap.size ≤ gb1) := hid (by have := HL.out.size; omega); replace HL := hid (HL.out.trans (hb_.mono GEb1.out)); have BKb1 := hid hB_; clear hb_ hB_ hs_ hgb1)
     | ((with_reducible refine gate_d (N := 16) rfl ?_); refine ag_fix (.agg (bv a0)) (ex_load boardT gb1 0 (bv a0) (bv a0) BKb1.out (av_le LN_a0.out) (av_ex LN_a0.out) _ rfl rfl) rfl ?_)
     | (go_at_call 37; clear k39; refine (i_alfilref03_Right.calls k a0 LN_a0.out false _ A15.out).mono ?_; rintro e_ w40 ⟨rfl, hb_⟩; replace BKb1 := hid (BKb1.out.below hb_ BKb1.out.lt); replace HL := hid (HL.out.trans (hb_.mono HL.out.size)); clear hb_))
    (try simp only [Act.put, sI, sZ, sS])
    go_ret
    exact ⟨_, rfl, (Own.nil _ _ _), HL.out⟩
def i_alfilref07_King.f (k : Nat) (a0 : List Int) (a1 : Int) : Option (Int) := if a1 = 1 then ((i_alfilref03_Where.f k a0 (-6)).bind fun t2 => (if (t2.length : Int) = 0 then (some (-1)) else (if a1 < 0 then (some (-1)) else (if a1 > 1 then (some (-1)) else (if 0 < (t2.length : Int) then (some (nt t2 0 0)) else (none)))))) else ((i_alfilref03_Where.f k a0 6).bind fun t4 => (if (t4.length : Int) = 0 then (some (-1)) else (if a1 < 0 then (some (-1)) else (if a1 > 1 then (some (-1)) else (if 0 < (t4.length : Int) then (some (nt t4 0 0)) else (none))))))
set_option maxHeartbeats 40000000 in
set_option maxRecDepth 100000 in
theorem i_alfilref07_King.calls (k : Nat) (a0 : List Int) (a1 : Int) (hla0 : a0.length = 64) (r1 : Int) (w : World) (h : i_alfilref07_King.f k a0 a1 = some r1) :
    Calls Try.prog 116 #[.agg (bv a0), .int .i64 a1] w fun e w' => e = .returned (.int .i64 r1) ∧ Below w.heap.size w w' := by
 have LN_a0 := hid hla0
 clear hla0
 have HL := hid (Below.refl w.heap.size w)
 have H : (if a1 = 1 then ((i_alfilref03_Where.f k a0 (-6)).bind fun t2 => (if (t2.length : Int) = 0 then (some (-1)) else (if a1 < 0 then (some (-1)) else (if a1 > 1 then (some (-1)) else (if 0 < (t2.length : Int) then (some (nt t2 0 0)) else (none)))))) else ((i_alfilref03_Where.f k a0 6).bind fun t4 => (if (t4.length : Int) = 0 then (some (-1)) else (if a1 < 0 then (some (-1)) else (if a1 > 1 then (some (-1)) else (if 0 < (t4.length : Int) then (some (nt t4 0 0)) else (none))))))) = some r1 := h
 clear h
 by_cases c6 : a1 = 1
 ·
  rw [if_pos c6] at H
  have c6b0 : (a1 == 1) = true := beq_iff_eq.mpr c6
  have c6b1 : (a1 != 1) = false := bne_eq_false_iff_eq.mpr c6
  have hc6 := hid c6
  clear c6
  replace H := Option.bind_eq_some_iff.mp H
  obtain ⟨t2, A7_, H⟩ := H
  have A7 := hid A7_
  clear A7_
  by_cases c8 : (t2.length : Int) = 0
  ·
   rw [if_pos c8] at H
   have c8b0 : ((t2.length : Int) == 0) = true := beq_iff_eq.mpr c8
   have c8b1 : ((t2.length : Int) != 0) = false := bne_eq_false_iff_eq.mpr c8
   have hc8 := hid c8
   clear c8
   obtain rfl := Option.some.inj H
   clear H
   go_enter Try.func116, Try.ntmps116
   have k10 := True.intro
   go_wp2_with (first
    | ((with_reducible refine gate_d (N := 2) rfl ?_); obtain ⟨gb1, hgb1⟩ : ∃ g_, w.heap.size = g_ := ⟨_, rfl⟩; refine ag_box (bv a0) gb1 hgb1 rfl _ rfl rfl ?_; intro w9 hb_ hB_ hs_; have GEb1 : Hid (w.heap.size ≤ gb1) := hid (by have := HL.out.size; omega); replace HL := hid (HL.out.trans (hb_.mono GEb1.out)); have BKb1 := hid hB_; clear hb_ hB_ hs_ hgb1)
    | ((with_reducible refine gate_d (N := 9) rfl ?_); refine ag_fix (.agg (bv a0)) (ex_load boardT gb1 0 (bv a0) (bv a0) BKb1.out (av_le LN_a0.out) (av_ex LN_a0.out) _ rfl rfl) rfl ?_)
    | (go_at_call 73; clear k10; refine (i_alfilref03_Where.calls k a0 (-6) LN_a0.out t2 _ A7.out).mono ?_; rintro e_ w11 ⟨ut2, rfl, so_t2, hb_⟩; replace so_t2 := so_t2.mono HL.out.size; have SWn_t2 := hid so_t2; clear so_t2; replace BKb1 := hid (BKb1.out.below hb_ BKb1.out.lt); replace HL := hid (HL.out.trans (hb_.mono HL.out.size)); clear hb_; have SWt2 := SWn_t2; clear SWn_t2)
    | ((with_reducible refine gate_d (N := 13) rfl ?_); obtain ⟨A12, c13, hv14⟩ := SWt2.out.sl.shape; rw [List.length_map] at hv14; refine ag_fix (.int .i64 (t2.length : Int)) (ex_len us27 _ _ _ _ hv14 _ rfl rfl) rfl ?_; clear hv14))
   (try simp only [Act.put, sI, sZ, sS])
   go_ret
   exact ⟨by first | rfl | (simp; done) | (simp [*]; done), HL.out⟩
  ·
   rw [if_neg c8] at H
   have c8b0 : ((t2.length : Int) == 0) = false := beq_eq_false_iff_ne.mpr c8
   have c8b1 : ((t2.length : Int) != 0) = true := bne_iff_ne.mpr c8
   have c8b2 : ¬ (t2 = []) := fun h_ => c8 (by rw [h_]; rfl)
   have hc8 := hid c8
   clear c8
   by_cases c15 : a1 < 0
   ·
    rw [if_pos c15] at H
    exfalso
    clear H
    have := hc6.out; omega
   ·
    rw [if_neg c15] at H
    have c15b0 : decide (a1 < 0) = false := decide_eq_false c15
    have hc15 := hid c15
    clear c15
    by_cases c16 : a1 > 1
    ·
     rw [if_pos c16] at H
     exfalso
     clear H
     have := hc6.out; have := hc15.out; omega
    ·
     rw [if_neg c16] at H
     have c16b0 : decide (1 < a1) = false := decide_eq_false c16
     have hc16 := hid c16
     clear c16
     by_cases c17 : 0 < (t2.length : Int)
     ·
      rw [if_pos c17] at H
      have c17b0 : decide (0 < (t2.length : Int)) = true := decide_eq_true c17
      have c17b1 : decide (0 < t2.length) = true := decide_eq_true (by omega)
      have hc17 := hid c17
      clear c17
      obtain rfl := Option.some.inj H
      clear H
      go_enter Try.func116, Try.ntmps116
      have k19 := True.intro
      go_wp2_with (first
       | ((with_reducible refine gate_d (N := 2) rfl ?_); obtain ⟨gb1, hgb1⟩ : ∃ g_, w.heap.size = g_ := ⟨_, rfl⟩; refine ag_box (bv a0) gb1 hgb1 rfl _ rfl rfl ?_; intro w18 hb_ hB_ hs_; have GEb1 : Hid (w.heap.size ≤ gb1) := hid (by have := HL.out.size; omega); replace HL := hid (HL.out.trans (hb_.mono GEb1.out)); have BKb1 := hid hB_; clear hb_ hB_ hs_ hgb1)
       | ((with_reducible refine gate_d (N := 9) rfl ?_); refine ag_fix (.agg (bv a0)) (ex_load boardT gb1 0 (bv a0) (bv a0) BKb1.out (av_le LN_a0.out) (av_ex LN_a0.out) _ rfl rfl) rfl ?_)
       | (go_at_call 73; clear k19; refine (i_alfilref03_Where.calls k a0 (-6) LN_a0.out t2 _ A7.out).mono ?_; rintro e_ w20 ⟨ut2, rfl, so_t2, hb_⟩; replace so_t2 := so_t2.mono HL.out.size; have SWn_t2 := hid so_t2; clear so_t2; replace BKb1 := hid (BKb1.out.below hb_ BKb1.out.lt); replace HL := hid (HL.out.trans (hb_.mono HL.out.size)); clear hb_; have SWt2 := SWn_t2; clear SWn_t2)
       | ((with_reducible refine gate_d (N := 13) rfl ?_); obtain ⟨A21, c22, hv23⟩ := SWt2.out.sl.shape; rw [List.length_map] at hv23; refine ag_fix (.int .i64 (t2.length : Int)) (ex_len us27 _ _ _ _ hv23 _ rfl rfl) rfl ?_; clear hv23)
       | ((with_reducible refine gate_d (N := 24) rfl ?_); obtain ⟨ad3, c24, hv25, HCad3_⟩ := Sl.get (l := t2) (f := (Value.int .i64)) SWt2.out.sl 0 (i := 0) (by omega) hc17.out; have HCad3 := hid HCad3_; clear HCad3_; refine ag_fix (.pointer (some (ad3.add (0 : Int).toNat))) (ex_sat _ _ 0 _ _ hv25 (by omega) hc17.out us27 sT3 _ _ rfl rfl rfl) rfl ?_; have HVAad3 := hid hv25; clear hv25)
       | ((with_reducible refine gate_d (N := 25) rfl ?_); refine ag_fix (.int .i64 (nt t2 0 0)) (ex_scell sT3 _ _ HCad3.out _ rfl rfl) rfl ?_))
      (try simp only [Act.put, sI, sZ, sS])
      go_ret
      exact ⟨by first | rfl | (simp; done) | (simp [*]; done), HL.out⟩
     ·
      rw [if_neg c17] at H
      exact absurd H (by simp)
 ·
  rw [if_neg c6] at H
  have c6b0 : (a1 == 1) = false := beq_eq_false_iff_ne.mpr c6
  have c6b1 : (a1 != 1) = true := bne_iff_ne.mpr c6
  have hc6 := hid c6
  clear c6
  replace H := Option.bind_eq_some_iff.mp H
  obtain ⟨t4, A26_, H⟩ := H
  have A26 := hid A26_
  clear A26_
  by_cases c27 : (t4.length : Int) = 0
  ·
   rw [if_pos c27] at H
   have c27b0 : ((t4.length : Int) == 0) = true := beq_iff_eq.mpr c27
   have c27b1 : ((t4.length : Int) != 0) = false := bne_eq_false_iff_eq.mpr c27
   have hc27 := hid c27
   clear c27
   obtain rfl := Option.some.inj H
   clear H
   go_enter Try.func116, Try.ntmps116
   have k29 := True.intro
   go_wp2_with (first
    | ((with_reducible refine gate_d (N := 2) rfl ?_); obtain ⟨gb1, hgb1⟩ : ∃ g_, w.heap.size = g_ := ⟨_, rfl⟩; refine ag_box (bv a0) gb1 hgb1 rfl _ rfl rfl ?_; intro w28 hb_ hB_ hs_; have GEb1 : Hid (w.heap.size ≤ gb1) := hid (by have := HL.out.size; omega); replace HL := hid (HL.out.trans (hb_.mono GEb1.out)); have BKb1 := hid hB_; clear hb_ hB_ hs_ hgb1)
    | ((with_reducible refine gate_d (N := 9) rfl ?_); refine ag_fix (.agg (bv a0)) (ex_load boardT gb1 0 (bv a0) (bv a0) BKb1.out (av_le LN_a0.out) (av_ex LN_a0.out) _ rfl rfl) rfl ?_)
    | (go_at_call 73; clear k29; refine (i_alfilref03_Where.calls k a0 6 LN_a0.out t4 _ A26.out).mono ?_; rintro e_ w30 ⟨ut4, rfl, so_t4, hb_⟩; replace so_t4 := so_t4.mono HL.out.size; have SWn_t4 := hid so_t4; clear so_t4; replace BKb1 := hid (BKb1.out.below hb_ BKb1.out.lt); replace HL := hid (HL.out.trans (hb_.mono HL.out.size)); clear hb_; have SWt4 := SWn_t4; clear SWn_t4)
    | ((with_reducible refine gate_d (N := 13) rfl ?_); obtain ⟨A31, c32, hv33⟩ := SWt4.out.sl.shape; rw [List.length_map] at hv33; refine ag_fix (.int .i64 (t4.length : Int)) (ex_len us27 _ _ _ _ hv33 _ rfl rfl) rfl ?_; clear hv33))
   (try simp only [Act.put, sI, sZ, sS])
   go_ret
   exact ⟨by first | rfl | (simp; done) | (simp [*]; done), HL.out⟩
  ·
   rw [if_neg c27] at H
   have c27b0 : ((t4.length : Int) == 0) = false := beq_eq_false_iff_ne.mpr c27
   have c27b1 : ((t4.length : Int) != 0) = true := bne_iff_ne.mpr c27
   have c27b2 : ¬ (t4 = []) := fun h_ => c27 (by rw [h_]; rfl)
   have hc27 := hid c27
   clear c27
   by_cases c34 : a1 < 0
   ·
    rw [if_pos c34] at H
    have c34b0 : decide (a1 < 0) = true := decide_eq_true c34
    have hc34 := hid c34
    clear c34
    obtain rfl := Option.some.inj H
    clear H
    go_enter Try.func116, Try.ntmps116
    have k36 := True.intro
    go_wp2_with (first
     | ((with_reducible refine gate_d (N := 2) rfl ?_); obtain ⟨gb1, hgb1⟩ : ∃ g_, w.heap.size = g_ := ⟨_, rfl⟩; refine ag_box (bv a0) gb1 hgb1 rfl _ rfl rfl ?_; intro w35 hb_ hB_ hs_; have GEb1 : Hid (w.heap.size ≤ gb1) := hid (by have := HL.out.size; omega); replace HL := hid (HL.out.trans (hb_.mono GEb1.out)); have BKb1 := hid hB_; clear hb_ hB_ hs_ hgb1)
     | ((with_reducible refine gate_d (N := 9) rfl ?_); refine ag_fix (.agg (bv a0)) (ex_load boardT gb1 0 (bv a0) (bv a0) BKb1.out (av_le LN_a0.out) (av_ex LN_a0.out) _ rfl rfl) rfl ?_)
     | (go_at_call 73; clear k36; refine (i_alfilref03_Where.calls k a0 6 LN_a0.out t4 _ A26.out).mono ?_; rintro e_ w37 ⟨ut4, rfl, so_t4, hb_⟩; replace so_t4 := so_t4.mono HL.out.size; have SWn_t4 := hid so_t4; clear so_t4; replace BKb1 := hid (BKb1.out.below hb_ BKb1.out.lt); replace HL := hid (HL.out.trans (hb_.mono HL.out.size)); clear hb_; have SWt4 := SWn_t4; clear SWn_t4)
     | ((with_reducible refine gate_d (N := 13) rfl ?_); obtain ⟨A38, c39, hv40⟩ := SWt4.out.sl.shape; rw [List.length_map] at hv40; refine ag_fix (.int .i64 (t4.length : Int)) (ex_len us27 _ _ _ _ hv40 _ rfl rfl) rfl ?_; clear hv40))
    (try simp only [Act.put, sI, sZ, sS])
    go_ret
    exact ⟨by first | rfl | (simp; done) | (simp [*]; done), HL.out⟩
   ·
    rw [if_neg c34] at H
    have c34b0 : decide (a1 < 0) = false := decide_eq_false c34
    have hc34 := hid c34
    clear c34
    by_cases c41 : a1 > 1
    ·
     rw [if_pos c41] at H
     have c41b0 : decide (1 < a1) = true := decide_eq_true c41
     have hc41 := hid c41
     clear c41
     obtain rfl := Option.some.inj H
     clear H
     go_enter Try.func116, Try.ntmps116
     have k43 := True.intro
     go_wp2_with (first
      | ((with_reducible refine gate_d (N := 2) rfl ?_); obtain ⟨gb1, hgb1⟩ : ∃ g_, w.heap.size = g_ := ⟨_, rfl⟩; refine ag_box (bv a0) gb1 hgb1 rfl _ rfl rfl ?_; intro w42 hb_ hB_ hs_; have GEb1 : Hid (w.heap.size ≤ gb1) := hid (by have := HL.out.size; omega); replace HL := hid (HL.out.trans (hb_.mono GEb1.out)); have BKb1 := hid hB_; clear hb_ hB_ hs_ hgb1)
      | ((with_reducible refine gate_d (N := 9) rfl ?_); refine ag_fix (.agg (bv a0)) (ex_load boardT gb1 0 (bv a0) (bv a0) BKb1.out (av_le LN_a0.out) (av_ex LN_a0.out) _ rfl rfl) rfl ?_)
      | (go_at_call 73; clear k43; refine (i_alfilref03_Where.calls k a0 6 LN_a0.out t4 _ A26.out).mono ?_; rintro e_ w44 ⟨ut4, rfl, so_t4, hb_⟩; replace so_t4 := so_t4.mono HL.out.size; have SWn_t4 := hid so_t4; clear so_t4; replace BKb1 := hid (BKb1.out.below hb_ BKb1.out.lt); replace HL := hid (HL.out.trans (hb_.mono HL.out.size)); clear hb_; have SWt4 := SWn_t4; clear SWn_t4)
      | ((with_reducible refine gate_d (N := 13) rfl ?_); obtain ⟨A45, c46, hv47⟩ := SWt4.out.sl.shape; rw [List.length_map] at hv47; refine ag_fix (.int .i64 (t4.length : Int)) (ex_len us27 _ _ _ _ hv47 _ rfl rfl) rfl ?_; clear hv47))
     (try simp only [Act.put, sI, sZ, sS])
     go_ret
     exact ⟨by first | rfl | (simp; done) | (simp [*]; done), HL.out⟩
    ·
     rw [if_neg c41] at H
     have c41b0 : decide (1 < a1) = false := decide_eq_false c41
     have hc41 := hid c41
     clear c41
     by_cases c48 : 0 < (t4.length : Int)
     ·
      rw [if_pos c48] at H
      have c48b0 : decide (0 < (t4.length : Int)) = true := decide_eq_true c48
      have c48b1 : decide (0 < t4.length) = true := decide_eq_true (by omega)
      have hc48 := hid c48
      clear c48
      obtain rfl := Option.some.inj H
      clear H
      go_enter Try.func116, Try.ntmps116
      have k50 := True.intro
      go_wp2_with (first
       | ((with_reducible refine gate_d (N := 2) rfl ?_); obtain ⟨gb1, hgb1⟩ : ∃ g_, w.heap.size = g_ := ⟨_, rfl⟩; refine ag_box (bv a0) gb1 hgb1 rfl _ rfl rfl ?_; intro w49 hb_ hB_ hs_; have GEb1 : Hid (w.heap.size ≤ gb1) := hid (by have := HL.out.size; omega); replace HL := hid (HL.out.trans (hb_.mono GEb1.out)); have BKb1 := hid hB_; clear hb_ hB_ hs_ hgb1)
       | ((with_reducible refine gate_d (N := 9) rfl ?_); refine ag_fix (.agg (bv a0)) (ex_load boardT gb1 0 (bv a0) (bv a0) BKb1.out (av_le LN_a0.out) (av_ex LN_a0.out) _ rfl rfl) rfl ?_)
       | (go_at_call 73; clear k50; refine (i_alfilref03_Where.calls k a0 6 LN_a0.out t4 _ A26.out).mono ?_; rintro e_ w51 ⟨ut4, rfl, so_t4, hb_⟩; replace so_t4 := so_t4.mono HL.out.size; have SWn_t4 := hid so_t4; clear so_t4; replace BKb1 := hid (BKb1.out.below hb_ BKb1.out.lt); replace HL := hid (HL.out.trans (hb_.mono HL.out.size)); clear hb_; have SWt4 := SWn_t4; clear SWn_t4)
       | ((with_reducible refine gate_d (N := 13) rfl ?_); obtain ⟨A52, c53, hv54⟩ := SWt4.out.sl.shape; rw [List.length_map] at hv54; refine ag_fix (.int .i64 (t4.length : Int)) (ex_len us27 _ _ _ _ hv54 _ rfl rfl) rfl ?_; clear hv54)
       | ((with_reducible refine gate_d (N := 24) rfl ?_); obtain ⟨ad5, c55, hv56, HCad5_⟩ := Sl.get (l := t4) (f := (Value.int .i64)) SWt4.out.sl 0 (i := 0) (by omega) hc48.out; have HCad5 := hid HCad5_; clear HCad5_; refine ag_fix (.pointer (some (ad5.add (0 : Int).toNat))) (ex_sat _ _ 0 _ _ hv56 (by omega) hc48.out us27 sT3 _ _ rfl rfl rfl) rfl ?_; have HVAad5 := hid hv56; clear hv56)
       | ((with_reducible refine gate_d (N := 25) rfl ?_); refine ag_fix (.int .i64 (nt t4 0 0)) (ex_scell sT3 _ _ HCad5.out _ rfl rfl) rfl ?_))
      (try simp only [Act.put, sI, sZ, sS])
      go_ret
      exact ⟨by first | rfl | (simp; done) | (simp [*]; done), HL.out⟩
     ·
      rw [if_neg c48] at H
      exact absurd H (by simp)
def i_alfilref07_Check.f (k : Nat) (a0 : List Int) (a1 : Int) : Option (Bool) := (i_alfilref07_King.f k a0 a1).bind fun t2 => (if t2 ≥ 0 then ((i_alfilref07_By.f k a0 t2 (wrap64 (1 - a1))).bind fun t3 => (some (decide ((t3.length : Int) > 0)))) else (some false))
set_option maxHeartbeats 40000000 in
set_option maxRecDepth 100000 in
theorem i_alfilref07_Check.calls (k : Nat) (a0 : List Int) (a1 : Int) (hla0 : a0.length = 64) (r1 : Bool) (w : World) (h : i_alfilref07_Check.f k a0 a1 = some r1) :
    Calls Try.prog 109 #[.agg (bv a0), .int .i64 a1] w fun e w' => e = .returned (.bool r1) ∧ Below w.heap.size w w' := by
 have LN_a0 := hid hla0
 clear hla0
 have HL := hid (Below.refl w.heap.size w)
 have H : ((i_alfilref07_King.f k a0 a1).bind fun t2 => (if t2 ≥ 0 then ((i_alfilref07_By.f k a0 t2 (wrap64 (1 - a1))).bind fun t3 => (some (decide ((t3.length : Int) > 0)))) else (some false))) = some r1 := h
 clear h
 replace H := Option.bind_eq_some_iff.mp H
 obtain ⟨t2, A4_, H⟩ := H
 have A4 := hid A4_
 clear A4_
 by_cases c5 : t2 ≥ 0
 ·
  rw [if_pos c5] at H
  have c5b0 : decide (0 ≤ t2) = true := decide_eq_true c5
  have hc5 := hid c5
  clear c5
  replace H := Option.bind_eq_some_iff.mp H
  obtain ⟨t3, A6_, H⟩ := H
  have A6 := hid A6_
  clear A6_
  obtain rfl := Option.some.inj H
  clear H
  go_enter Try.func109, Try.ntmps109
  have k8 := True.intro
  have k10 := True.intro
  go_wp2_with (first
   | ((with_reducible refine gate_d (N := 2) rfl ?_); obtain ⟨gb1, hgb1⟩ : ∃ g_, w.heap.size = g_ := ⟨_, rfl⟩; refine ag_box (bv a0) gb1 hgb1 rfl _ rfl rfl ?_; intro w7 hb_ hB_ hs_; have GEb1 : Hid (w.heap.size ≤ gb1) := hid (by have := HL.out.size; omega); replace HL := hid (HL.out.trans (hb_.mono GEb1.out)); have BKb1 := hid hB_; clear hb_ hB_ hs_ hgb1)
   | ((with_reducible refine gate_d (N := 6) rfl ?_); refine ag_fix (.agg (bv a0)) (ex_load boardT gb1 0 (bv a0) (bv a0) BKb1.out (av_le LN_a0.out) (av_ex LN_a0.out) _ rfl rfl) rfl ?_)
   | (go_at_call 116; clear k8; refine (i_alfilref07_King.calls k a0 a1 LN_a0.out t2 _ A4.out).mono ?_; rintro e_ w9 ⟨rfl, hb_⟩; replace BKb1 := hid (BKb1.out.below hb_ BKb1.out.lt); replace HL := hid (HL.out.trans (hb_.mono HL.out.size)); clear hb_)
   | ((with_reducible refine gate_d (N := 12) rfl ?_); refine ag_fix (.agg (bv a0)) (ex_load boardT gb1 0 (bv a0) (bv a0) BKb1.out (av_le LN_a0.out) (av_ex LN_a0.out) _ rfl rfl) rfl ?_)
   | (go_at_call 110; clear k10; refine (i_alfilref07_By.calls k a0 t2 (wrap64 (1 - a1)) LN_a0.out t3 _ A6.out).mono ?_; rintro e_ w11 ⟨ut3, rfl, so_t3, hb_⟩; replace so_t3 := so_t3.mono HL.out.size; have SWn_t3 := hid so_t3; clear so_t3; replace BKb1 := hid (BKb1.out.below hb_ BKb1.out.lt); replace HL := hid (HL.out.trans (hb_.mono HL.out.size)); clear hb_; have SWt3 := SWn_t3; clear SWn_t3)
   | ((with_reducible refine gate_d (N := 17) rfl ?_); obtain ⟨A12, c13, hv14⟩ := SWt3.out.sl.shape; rw [List.length_map] at hv14; refine ag_fix (.int .i64 (t3.length : Int)) (ex_len us27 _ _ _ _ hv14 _ rfl rfl) rfl ?_; clear hv14))
  (try simp only [Act.put, sI, sZ, sS])
  go_ret
  exact ⟨by first | rfl | (simp; done) | (simp [*]; done), HL.out⟩
 ·
  rw [if_neg c5] at H
  have c5b0 : decide (0 ≤ t2) = false := decide_eq_false c5
  have hc5 := hid c5
  clear c5
  obtain rfl := Option.some.inj H
  clear H
  go_enter Try.func109, Try.ntmps109
  have k16 := True.intro
  go_wp2_with (first
   | ((with_reducible refine gate_d (N := 2) rfl ?_); obtain ⟨gb1, hgb1⟩ : ∃ g_, w.heap.size = g_ := ⟨_, rfl⟩; refine ag_box (bv a0) gb1 hgb1 rfl _ rfl rfl ?_; intro w15 hb_ hB_ hs_; have GEb1 : Hid (w.heap.size ≤ gb1) := hid (by have := HL.out.size; omega); replace HL := hid (HL.out.trans (hb_.mono GEb1.out)); have BKb1 := hid hB_; clear hb_ hB_ hs_ hgb1)
   | ((with_reducible refine gate_d (N := 6) rfl ?_); refine ag_fix (.agg (bv a0)) (ex_load boardT gb1 0 (bv a0) (bv a0) BKb1.out (av_le LN_a0.out) (av_ex LN_a0.out) _ rfl rfl) rfl ?_)
   | (go_at_call 116; clear k16; refine (i_alfilref07_King.calls k a0 a1 LN_a0.out t2 _ A4.out).mono ?_; rintro e_ w17 ⟨rfl, hb_⟩; replace BKb1 := hid (BKb1.out.below hb_ BKb1.out.lt); replace HL := hid (HL.out.trans (hb_.mono HL.out.size)); clear hb_))
  (try simp only [Act.put, sI, sZ, sS])
  go_ret
  exact ⟨by first | rfl | (simp; done) | (simp [*]; done), HL.out⟩
end Go.Proofs.Ytpjocgebnodnoaa
