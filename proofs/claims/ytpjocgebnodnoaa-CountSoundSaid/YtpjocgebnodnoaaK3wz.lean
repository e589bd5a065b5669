import Derived.Test.YtpjocgebnodnoaaProg
import Derived.Test.YtpjocgebnodnoaaK2wz
import Derived.Test.YtpjocgebnodnoaaC4wz
import Derived.Test.YtpjocgebnodnoaaKdz
import Derived.Test.YtpjocgebnodnoaaKsz
namespace Go.Proofs.Ytpjocgebnodnoaa
open Go.RowKit
set_option linter.unusedVariables false
set_option linter.unusedSimpArgs false
set_option maxRecDepth 100000
theorem fa46_2_0 (g : Nat) (w : World) : (Instr.fieldAt 46 (.pointer (some ⟨g, 0, none⟩)) 2).run Try.prog w = .ok (.pointer (some ⟨g, 65, none⟩)) w := by kernel_rfl
def en75 (x : Int × Int × Int) : List Value := [.int .i64 x.1, .int .i64 x.2.1, .int .i64 x.2.2]
theorem en75_len (x : Int × Int × Int) : (en75 x).length = 3 := rfl
theorem us72 : Try.prog.underlying 72 = some (.slice 75) := by kernel_rfl
theorem eN72_info : (Try.prog.info? 75).map (fun i => (i.zero, i.size, i.bytes)) = some (some (.agg #[.int .i64 0, .int .i64 0, .int .i64 0]), 3, 24) := by kernel_rfl
theorem eN72 : ElemN Try.prog 72 75 3 24 := ⟨by kernel_rfl, by
  obtain ⟨i, h1, h2, h3, h4⟩ := info_parts eN72_info
  exact ⟨i, _, h1, h2, h3, h4, rfl⟩, by decide⟩
theorem us69 : Try.prog.underlying 69 = some (.slice 71) := by kernel_rfl
theorem sT71 : ScT Try.prog 71 := ⟨fun w => by kernel_rfl, fun w => by kernel_rfl⟩
def i_pos_none.f  : Option ((List Int) × Int × Int × Int) := some (zL, 0, 0, (-1))
set_option maxHeartbeats 40000000 in
set_option maxRecDepth 100000 in
theorem i_pos_none.calls (r1 : List Int) (r2 : Int) (r3 : Int) (r4 : Int) (w : World) (h : i_pos_none.f = some (r1, r2, r3, r4)) :
    Calls Try.prog 80 #[] w fun e w' => e = .returned (.agg (pv r1 r2 r3 r4)) ∧ r1.length = 64 ∧ Below w.heap.size w w' := by
 have HL := hid (Below.refl w.heap.size w)
 have H : (some (zL, 0, 0, (-1))) = some (r1, r2, r3, r4) := h
 clear h
 simp only [Option.some.injEq, Prod.mk.injEq] at H
 obtain ⟨rfl, rfl, rfl, rfl⟩ := H
 go_enter Try.func80, Try.ntmps80
 go_wp2_with (first
  | ((with_reducible refine gate_d (N := 0) rfl ?_); obtain ⟨gb1, hgb1⟩ : ∃ g_, w.heap.size = g_ := ⟨_, rfl⟩; refine ag_alloc posT gb1 hgb1 rfl rfl ?_; intro w2 hb_ hB_ hs_; have GEb1 : Hid (w.heap.size ≤ gb1) := hid (by have := HL.out.size; omega); replace HL := hid (HL.out.trans (hb_.mono GEb1.out)); have BKb1 := hid hB_; clear hb_ hB_ hs_ hgb1)
  | ((with_reducible refine gate_d (N := 1) rfl ?_); refine ag_build (.agg (pv zL 0 0 (-1))) _ rfl rfl ?_ ?_; (intro ww_; simp only [List.map_toArray, List.map_cons, List.map_nil]; kernel_rfl))
  | ((with_reducible refine gate_s (t := 46) (p := 0) rfl ?_); refine ag_store posT gb1 0 (pv zL 0 0 0) (pv zL 0 0 (-1)) (pv zL 0 0 (-1)) BKb1.out (by rw [show (pv zL 0 0 (-1)) = xv (Value.int .i8) zL [.int .i64 0, .int .i64 0, .int .i64 (-1)] from rfl, xv_size, show zL.length = 64 from zL_len]; rfl) (xv_le zL_len 67 rfl) (xv_one (fun _ => rfl) (by intro v_ hv_; simp at hv_; rcases hv_ with rfl | rfl | rfl <;> rfl)) (xv_put zL_len zL_len rfl) rfl _ _ rfl rfl rfl ?_; intro w3 ho_ hB_; replace HL := hid (ho_.below HL.out GEb1.out); replace BKb1 := hid hB_; clear ho_ hB_))
 (try simp only [Act.put, sI, sZ, sS])
 refine bodyPost_ret (v := .agg (pv zL 0 0 (-1))) (res_c posT rfl _ gb1 (pv zL 0 0 (-1)) BKb1.out ((xv_size).trans (by rw [show zL.length = 64 from zL_len]; rfl)) rfl) rfl ?_
 exact ⟨by first | rfl | (simp; done) | (simp [*]; done), zL_len, HL.out⟩
def i_pos_First.f (k : Nat)  : Option ((List Int) × Int × Int × Int) := (i_pos_none.f).bind fun bt2 => ((i_board_First.f k).bind fun t7 => (some (t7, bt2.2.1, 15, bt2.2.2.2)))
set_option maxHeartbeats 40000000 in
set_option maxRecDepth 100000 in
theorem i_pos_First.calls (k : Nat) (r1 : List Int) (r2 : Int) (r3 : Int) (r4 : Int) (w : World) (h : i_pos_First.f k = some (r1, r2, r3, r4)) :
    Calls Try.prog 45 #[] w fun e w' => e = .returned (.agg (pv r1 r2 r3 r4)) ∧ r1.length = 64 ∧ Below w.heap.size w w' := by
 have HL := hid (Below.refl w.heap.size w)
 have H : ((i_pos_none.f).bind fun bt2 => ((i_board_First.f k).bind fun t7 => (some (t7, bt2.2.1, 15, bt2.2.2.2)))) = some (r1, r2, r3, r4) := h
 clear h
 replace H := Option.bind_eq_some_iff.mp H
 obtain ⟨⟨t2, t3, t4, t5⟩, A8_, H⟩ := H
 dsimp only at H
 have A8 := hid A8_
 clear A8_
 replace H := Option.bind_eq_some_iff.mp H
 obtain ⟨t7, A9_, H⟩ := H
 have A9 := hid A9_
 clear A9_
 simp only [Option.some.injEq, Prod.mk.injEq] at H
 obtain ⟨rfl, rfl, rfl, rfl⟩ := H
 go_enter Try.func45, Try.ntmps45
 have k11 := True.intro
 have k15 := True.intro
 go_wp2_with (first
  | ((with_reducible refine gate_d (N := 0) rfl ?_); obtain ⟨gb1, hgb1⟩ : ∃ g_, w.heap.size = g_ := ⟨_, rfl⟩; refine ag_alloc posT gb1 hgb1 rfl rfl ?_; intro w10 hb_ hB_ hs_; have GEb1 : Hid (w.heap.size ≤ gb1) := hid (by have := HL.out.size; omega); replace HL := hid (HL.out.trans (hb_.mono GEb1.out)); have BKb1 := hid hB_; clear hb_ hB_ hs_ hgb1)
  | (go_at_call 80; clear k11; refine (i_pos_none.calls t2 t3 t4 t5 _ A8.out).mono ?_; rintro e_ w12 ⟨rfl, ln_t2, hb_⟩; have LN_t2 := hid ln_t2; clear ln_t2; replace BKb1 := hid (BKb1.out.below hb_ BKb1.out.lt); replace HL := hid (HL.out.trans (hb_.mono HL.out.size)); clear hb_)
  | ((with_reducible refine gate_d (N := 1) rfl ?_); obtain ⟨gb6, hgb6⟩ : ∃ g_, w12.heap.size = g_ := ⟨_, rfl⟩; refine ag_alloc posT gb6 hgb6 rfl rfl ?_; intro w13 hb_ hB_ hs_; have GEb6 : Hid (w.heap.size ≤ gb6) := hid (by have := HL.out.size; omega); have NBb1_b6 : Hid (gb1 ≠ gb6) := hid (by have := BKb1.out.lt; omega); have NBb6_b1 : Hid (gb6 ≠ gb1) := hid (by have := NBb1_b6.out; omega); replace BKb1 := hid (BKb1.out.below hb_ (by rw [← hgb6]; exact BKb1.out.lt)); replace HL := hid (HL.out.trans (hb_.mono GEb6.out)); have BKb6 := hid hB_; clear hb_ hB_ hs_ hgb6)
  | ((with_reducible refine gate_s (t := 46) (p := 1) rfl ?_); refine ag_store posT gb6 0 (pv zL 0 0 0) (pv t2 t3 t4 t5) (pv t2 t3 t4 t5) BKb6.out (by rw [show (pv t2 t3 t4 t5) = xv (Value.int .i8) t2 [.int .i64 t3, .int .i64 t4, .int .i64 t5] from rfl, xv_size, show t2.length = 64 from LN_t2.out]; rfl) (xv_le zL_len 67 rfl) (xv_one (fun _ => rfl) (by intro v_ hv_; simp at hv_; rcases hv_ with rfl | rfl | rfl <;> rfl)) (xv_put zL_len LN_t2.out rfl) rfl _ _ rfl rfl rfl ?_; intro w14 ho_ hB_; replace BKb1 := hid (BKb1.out.off ho_ NBb1_b6.out); replace HL := hid (ho_.below HL.out GEb6.out); replace BKb6 := hid hB_; clear ho_ hB_)
  | (go_at_call 59; clear k15; refine (i_board_First.calls k t7 _ A9.out).mono ?_; rintro e_ w16 ⟨rfl, ln_t7, hb_⟩; have LN_t7 := hid ln_t7; clear ln_t7; replace BKb1 := hid (BKb1.out.below hb_ BKb1.out.lt); replace BKb6 := hid (BKb6.out.below hb_ BKb6.out.lt); replace HL := hid (HL.out.trans (hb_.mono HL.out.size)); clear hb_)
  | ((with_reducible refine gate_d (N := 4) rfl ?_); refine ag_fix (.pointer (some ⟨gb6, 0, none⟩)) (ex_field 46 0 (.pointer (some ⟨gb6, 0, none⟩)) (.pointer (some ⟨gb6, 0, none⟩)) (fa46_0_0 gb6) _ rfl rfl) rfl ?_)
  | ((with_reducible refine gate_s (t := 44) (p := 4) rfl ?_); refine ag_store boardT gb6 0 (pv t2 t3 t4 t5) (bv t7) (pv t7 t3 t4 t5) BKb6.out (by rw [show (bv t7) = av (Value.int .i8) t7 from rfl, av_size]; exact LN_t7.out) (xv_lea LN_t2.out) (av_one (fun _ => rfl)) (xv_puta LN_t2.out LN_t7.out) rfl _ _ rfl rfl rfl ?_; intro w17 ho_ hB_; replace BKb1 := hid (BKb1.out.off ho_ NBb1_b6.out); replace HL := hid (ho_.below HL.out GEb6.out); replace BKb6 := hid hB_; clear ho_ hB_)
  | ((with_reducible refine gate_d (N := 5) rfl ?_); refine ag_fix (.pointer (some ⟨gb6, 65, none⟩)) (ex_field 46 2 (.pointer (some ⟨gb6, 0, none⟩)) (.pointer (some ⟨gb6, 65, none⟩)) (fa46_2_0 gb6) _ rfl rfl) rfl ?_)
  | ((with_reducible refine gate_s (t := 3) (p := 5) rfl ?_); refine ag_set sT3 gb6 (65) (.int .i64 15) (pv t7 t3 t4 t5) (pv t7 t3 15 t5) BKb6.out (by rw [show (pv t7 t3 t4 t5) = xv (Value.int .i8) t7 [.int .i64 t3, .int .i64 t4, .int .i64 t5] from rfl, xv_size, show t7.length = 64 from LN_t7.out]; simp) rfl rfl ((xv_setc (n := 64) LN_t7.out 1 65 (by omega) _).trans rfl) rfl _ _ rfl rfl rfl ?_; intro w18 ho_ hB_; replace BKb1 := hid (BKb1.out.off ho_ NBb1_b6.out); replace HL := hid (ho_.below HL.out GEb6.out); replace BKb6 := hid hB_; clear ho_ hB_)
  | ((with_reducible refine gate_d (N := 6) rfl ?_); refine ag_fix (.agg (pv t7 t3 15 t5)) (ex_load posT gb6 0 (pv t7 t3 15 t5) (pv t7 t3 15 t5) BKb6.out (xv_le LN_t7.out 67 rfl) (xv_ex LN_t7.out 67 rfl) _ rfl rfl) rfl ?_)
  | ((with_reducible refine gate_s (t := 46) (p := 0) rfl ?_); refine ag_store posT gb1 0 (pv zL 0 0 0) (pv t7 t3 15 t5) (pv t7 t3 15 t5) BKb1.out (by rw [show (pv t7 t3 15 t5) = xv (Value.int .i8) t7 [.int .i64 t3, .int .i64 15, .int .i64 t5] from rfl, xv_size, show t7.length = 64 from LN_t7.out]; rfl) (xv_le zL_len 67 rfl) (xv_one (fun _ => rfl) (by intro v_ hv_; simp at hv_; rcases hv_ with rfl | rfl | rfl <;> rfl)) (xv_put zL_len LN_t7.out rfl) rfl _ _ rfl rfl rfl ?_; intro w19 ho_ hB_; replace BKb6 := hid (BKb6.out.off ho_ NBb6_b1.out); replace HL := hid (ho_.below HL.out GEb1.out); replace BKb1 := hid hB_; clear ho_ hB_))
 (try simp only [Act.put, sI, sZ, sS])
 refine bodyPost_ret (v := .agg (pv t7 t3 15 t5)) (res_c posT rfl _ gb1 (pv t7 t3 15 t5) BKb1.out ((xv_size).trans (by rw [show t7.length = 64 from LN_t7.out]; rfl)) rfl) rfl ?_
 exact ⟨by first | rfl | (simp; done) | (simp [*]; done), LN_t7.out, HL.out⟩
def i_alfilref11_stays.f (k : Nat) (a0_0 : List Int) (a0_1 : Int) (a0_2 : Int) (a0_3 : Int) (a1_0 : Int) (a1_1 : Int) (a1_2 : Int) : Option (Bool) := (i_alfilref09_Right.f k a0_0 a0_1 a0_2 a0_3 a1_0 a1_1 a1_2).bind fun t3 => (if t3 > 0 then ((i_alfilref07_Check.f k a0_0 a0_1).bind fun t4 => (if t4 = true then (some false) else ((i_alfilref07_By.f k a0_0 (wrap64 (Int.tdiv (wrap64 (a1_0 + a1_1)) 2)) (wrap64 (1 - a0_1))).bind fun t5 => (if (t5.length : Int) > 0 then (some false) else ((i_alfilref09_Behind.f k a0_0 a0_1 a0_2 a0_3 a1_0 a1_1 a1_2).bind fun bt6 => ((i_alfilref07_Check.f k bt6.1 a0_1).bind fun t10 => (some (!t10)))))))) else ((i_alfilref09_Behind.f k a0_0 a0_1 a0_2 a0_3 a1_0 a1_1 a1_2).bind fun bt11 => ((i_alfilref07_Check.f k bt11.1 a0_1).bind fun t15 => (some (!t15)))))
set_option maxHeartbeats 40000000 in
set_option maxRecDepth 100000 in
theorem i_alfilref11_stays.calls (k : Nat) (a0_0 : List Int) (a0_1 : Int) (a0_2 : Int) (a0_3 : Int) (a1_0 : Int) (a1_1 : Int) (a1_2 : Int) (hla0_0 : a0_0.length = 64) (r1 : Bool) (w : World) (h : i_alfilref11_stays.f k a0_0 a0_1 a0_2 a0_3 a1_0 a1_1 a1_2 = some r1) :
    Calls Try.prog 82 #[.agg (pv a0_0 a0_1 a0_2 a0_3), .agg #[.int .i64 a1_0, .int .i64 a1_1, .int .i64 a1_2]] w fun e w' => e = .returned (.bool r1) ∧ Below w.heap.size w w' := by
 have LN_a0_0 := hid hla0_0
 clear hla0_0
 have HL := hid (Below.refl w.heap.size w)
 have H : ((i_alfilref09_Right.f k a0_0 a0_1 a0_2 a0_3 a1_0 a1_1 a1_2).bind fun t3 => (if t3 > 0 then ((i_alfilref07_Check.f k a0_0 a0_1).bind fun t4 => (if t4 = true then (some false) else ((i_alfilref07_By.f k a0_0 (wrap64 (Int.tdiv (wrap64 (a1_0 + a1_1)) 2)) (wrap64 (1 - a0_1))).bind fun t5 => (if (t5.length : Int) > 0 then (some false) else ((i_alfilref09_Behind.f k a0_0 a0_1 a0_2 a0_3 a1_0 a1_1 a1_2).bind fun bt6 => ((i_alfilref07_Check.f k bt6.1 a0_1).bind fun t10 => (some (!t10)))))))) else ((i_alfilref09_Behind.f k a0_0 a0_1 a0_2 a0_3 a1_0 a1_1 a1_2).bind fun bt11 => ((i_alfilref07_Check.f k bt11.1 a0_1).bind fun t15 => (some (!t15)))))) = some r1 := h
 clear h
 replace H := Option.bind_eq_some_iff.mp H
 obtain ⟨t3, A16_, H⟩ := H
 have A16 := hid A16_
 clear A16_
 by_cases c17 : t3 > 0
 ·
  rw [if_pos c17] at H
  have c17b0 : decide (0 < t3) = true := decide_eq_true c17
  have hc17 := hid c17
  clear c17
  have H' := hid H
  clear H
  go_enter Try.func82, Try.ntmps82
  have k21 := True.intro
  go_wp2_with (first
   | ((with_reducible refine gate_d (N := 2) rfl ?_); obtain ⟨gb1, hgb1⟩ : ∃ g_, w.heap.size = g_ := ⟨_, rfl⟩; refine ag_box (pv a0_0 a0_1 a0_2 a0_3) gb1 hgb1 rfl _ rfl rfl ?_; intro w19 hb_ hB_ hs_; have GEb1 : Hid (w.heap.size ≤ gb1) := hid (by have := HL.out.size; omega); replace HL := hid (HL.out.trans (hb_.mono GEb1.out)); have BKb1 := hid hB_; clear hb_ hB_ hs_ hgb1)
   | ((with_reducible refine gate_d (N := 3) rfl ?_); obtain ⟨gb2, hgb2⟩ : ∃ g_, w19.heap.size = g_ := ⟨_, rfl⟩; refine ag_box #[.int .i64 a1_0, .int .i64 a1_1, .int .i64 a1_2] gb2 hgb2 rfl _ rfl rfl ?_; intro w20 hb_ hB_ hs_; have GEb2 : Hid (w.heap.size ≤ gb2) := hid (by have := HL.out.size; omega); have NBb1_b2 : Hid (gb1 ≠ gb2) := hid (by have := BKb1.out.lt; omega); have NBb2_b1 : Hid (gb2 ≠ gb1) := hid (by have := NBb1_b2.out; omega); replace BKb1 := hid (BKb1.out.below hb_ (by rw [← hgb2]; exact BKb1.out.lt)); replace HL := hid (HL.out.trans (hb_.mono GEb2.out)); have BKb2 := hid hB_; clear hb_ hB_ hs_ hgb2)
   | ((with_reducible refine gate_d (N := 5) rfl ?_); refine ag_fix (.agg (pv a0_0 a0_1 a0_2 a0_3)) (ex_load posT gb1 0 (pv a0_0 a0_1 a0_2 a0_3) (pv a0_0 a0_1 a0_2 a0_3) BKb1.out (xv_le LN_a0_0.out 67 rfl) (xv_ex LN_a0_0.out 67 rfl) _ rfl rfl) rfl ?_)
   | ((with_reducible refine gate_d (N := 6) rfl ?_); refine ag_fix (.agg #[.int .i64 a1_0, .int .i64 a1_1, .int .i64 a1_2]) (ex_load aT75 gb2 0 #[.int .i64 a1_0, .int .i64 a1_1, .int .i64 a1_2] #[.int .i64 a1_0, .int .i64 a1_1, .int .i64 a1_2] BKb2.out (by simp) rfl _ rfl rfl) rfl ?_)
   | (go_at_call 85; clear k21; refine (i_alfilref09_Right.calls k a0_0 a0_1 a0_2 a0_3 a1_0 a1_1 a1_2 LN_a0_0.out t3 _ A16.out).mono ?_; rintro e_ w22 ⟨rfl, hb_⟩; replace BKb1 := hid (BKb1.out.below hb_ BKb1.out.lt); replace BKb2 := hid (BKb2.out.below hb_ BKb2.out.lt); replace HL := hid (HL.out.trans (hb_.mono HL.out.size)); clear hb_)
   | ((with_reducible refine gate_d (N := 9) rfl ?_); refine ag_fix (.pointer (some ⟨gb1, 0, none⟩)) (ex_field 46 0 (.pointer (some ⟨gb1, 0, none⟩)) (.pointer (some ⟨gb1, 0, none⟩)) (fa46_0_0 gb1) _ rfl rfl) rfl ?_)
   | ((with_reducible refine gate_d (N := 10) rfl ?_); refine ag_fix (.agg (bv a0_0)) (ex_load boardT gb1 0 (pv a0_0 a0_1 a0_2 a0_3) (bv a0_0) BKb1.out (xv_lea LN_a0_0.out) (xv_exa LN_a0_0.out) _ rfl rfl) rfl ?_)
   | ((with_reducible refine gate_d (N := 11) rfl ?_); refine ag_fix (.pointer (some ⟨gb1, 64, none⟩)) (ex_field 46 1 (.pointer (some ⟨gb1, 0, none⟩)) (.pointer (some ⟨gb1, 64, none⟩)) (fa46_1_0 gb1) _ rfl rfl) rfl ?_)
   | ((with_reducible refine gate_d (N := 12) rfl ?_); refine ag_fix (.int .i64 a0_1) (ex_get sT3 gb1 (64) (.int .i64 a0_1) ((pv a0_0 a0_1 a0_2 a0_3)) BKb1.out ((xv_cell (n := 64) LN_a0_0.out 0 64 (by omega)).trans rfl) _ rfl rfl) rfl ?_))
  (try simp only [Act.put, sI, sZ, sS])
  have H := H'.out
  clear H'
  replace H := Option.bind_eq_some_iff.mp H
  obtain ⟨t4, A18_, H⟩ := H
  have A18 := hid A18_
  clear A18_
  cases t4 with
  | true =>
   rw [if_pos rfl] at H
   obtain rfl := Option.some.inj H
   clear H
   have k24 := True.intro
   go_wp2_with (first
    | (go_at_call 109; clear k24; refine (i_alfilref07_Check.calls k a0_0 a0_1 LN_a0_0.out true _ A18.out).mono ?_; rintro e_ w25 ⟨rfl, hb_⟩; replace BKb1 := hid (BKb1.out.below hb_ BKb1.out.lt); replace BKb2 := hid (BKb2.out.below hb_ BKb2.out.lt); replace HL := hid (HL.out.trans (hb_.mono HL.out.size)); clear hb_))
   (try simp only [Act.put, sI, sZ, sS])
   go_ret
   exact ⟨by first | rfl | (simp; done) | (simp [*]; done), HL.out⟩
  | false =>
   rw [if_neg (show ¬ (false = true) by decide)] at H
   have H' := hid H
   clear H
   have k27 := True.intro
   go_wp2_with (first
    | (go_at_call 109; clear k27; refine (i_alfilref07_Check.calls k a0_0 a0_1 LN_a0_0.out false _ A18.out).mono ?_; rintro e_ w28 ⟨rfl, hb_⟩; replace BKb1 := hid (BKb1.out.below hb_ BKb1.out.lt); replace BKb2 := hid (BKb2.out.below hb_ BKb2.out.lt); replace HL := hid (HL.out.trans (hb_.mono HL.out.size)); clear hb_)
    | ((with_reducible refine gate_d (N := 15) rfl ?_); refine ag_fix (.pointer (some ⟨gb1, 0, none⟩)) (ex_field 46 0 (.pointer (some ⟨gb1, 0, none⟩)) (.pointer (some ⟨gb1, 0, none⟩)) (fa46_0_0 gb1) _ rfl rfl) rfl ?_)
    | ((with_reducible refine gate_d (N := 16) rfl ?_); refine ag_fix (.agg (bv a0_0)) (ex_load boardT gb1 0 (pv a0_0 a0_1 a0_2 a0_3) (bv a0_0) BKb1.out (xv_lea LN_a0_0.out) (xv_exa LN_a0_0.out) _ rfl rfl) rfl ?_)
    | ((with_reducible refine gate_d (N := 17) rfl ?_); refine ag_fix (.pointer (some ⟨gb2, 0, none⟩)) (ex_field 75 0 (.pointer (some ⟨gb2, 0, none⟩)) (.pointer (some ⟨gb2, 0, none⟩)) (fa75_0_0 gb2) _ rfl rfl) rfl ?_)
    | ((with_reducible refine gate_d (N := 18) rfl ?_); refine ag_fix (.int .i64 a1_0) (ex_get sT3 gb2 (0) (.int .i64 a1_0) (#[.int .i64 a1_0, .int .i64 a1_1, .int .i64 a1_2]) BKb2.out rfl _ rfl rfl) rfl ?_)
    | ((with_reducible refine gate_d (N := 19) rfl ?_); refine ag_fix (.pointer (some ⟨gb2, 1, none⟩)) (ex_field 75 1 (.pointer (some ⟨gb2, 0, none⟩)) (.pointer (some ⟨gb2, 1, none⟩)) (fa75_1_0 gb2) _ rfl rfl) rfl ?_)
    | ((with_reducible refine gate_d (N := 20) rfl ?_); refine ag_fix (.int .i64 a1_1) (ex_get sT3 gb2 (1) (.int .i64 a1_1) (#[.int .i64 a1_0, .int .i64 a1_1, .int .i64 a1_2]) BKb2.out rfl _ rfl rfl) rfl ?_)
    | ((with_reducible refine gate_d (N := 23) rfl ?_); refine ag_fix (.pointer (some ⟨gb1, 64, none⟩)) (ex_field 46 1 (.pointer (some ⟨gb1, 0, none⟩)) (.pointer (some ⟨gb1, 64, none⟩)) (fa46_1_0 gb1) _ rfl rfl) rfl ?_)
    | ((with_reducible refine gate_d (N := 24) rfl ?_); refine ag_fix (.int .i64 a0_1) (ex_get sT3 gb1 (64) (.int .i64 a0_1) ((pv a0_0 a0_1 a0_2 a0_3)) BKb1.out ((xv_cell (n := 64) LN_a0_0.out 0 64 (by omega)).trans rfl) _ rfl rfl) rfl ?_))
   (try simp only [Act.put, sI, sZ, sS])
   have H := H'.out
   clear H'
   replace H := Option.bind_eq_some_iff.mp H
   obtain ⟨t5, A26_, H⟩ := H
   have A26 := hid A26_
   clear A26_
   by_cases c29 : (t5.length : Int) > 0
   ·
    rw [if_pos c29] at H
    have c29b0 : decide (0 < (t5.length : Int)) = true := decide_eq_true c29
    have c29b1 : decide (0 < t5.length) = true := decide_eq_true (by omega)
    have hc29 := hid c29
    clear c29
    obtain rfl := Option.some.inj H
    clear H
    have k30 := True.intro
    go_wp2_with (first
     | (go_at_call 110; clear k30; refine (i_alfilref07_By.calls k a0_0 (wrap64 (Int.tdiv (wrap64 (a1_0 + a1_1)) 2)) (wrap64 (1 - a0_1)) LN_a0_0.out t5 _ A26.out).mono ?_; rintro e_ w31 ⟨ut5, rfl, so_t5, hb_⟩; replace so_t5 := so_t5.mono HL.out.size; have SWn_t5 := hid so_t5; clear so_t5; replace BKb1 := hid (BKb1.out.below hb_ BKb1.out.lt); replace BKb2 := hid (BKb2.out.below hb_ BKb2.out.lt); replace HL := hid (HL.out.trans (hb_.mono HL.out.size)); clear hb_; have SWt5 := SWn_t5; clear SWn_t5)
     | ((with_reducible refine gate_d (N := 27) rfl ?_); obtain ⟨A32, c33, hv34⟩ := SWt5.out.sl.shape; rw [List.length_map] at hv34; refine ag_fix (.int .i64 (t5.length : Int)) (ex_len us27 _ _ _ _ hv34 _ rfl rfl) rfl ?_; clear hv34))
    (try simp only [Act.put, sI, sZ, sS])
    go_ret
    exact ⟨by first | rfl | (simp; done) | (simp [*]; done), HL.out⟩
   ·
    rw [if_neg c29] at H
    have c29b0 : decide (0 < (t5.length : Int)) = false := decide_eq_false c29
    have c29b1 : decide (0 < t5.length) = false := decide_eq_false (by omega)
    have hc29 := hid c29
    clear c29
    replace H := Option.bind_eq_some_iff.mp H
    obtain ⟨⟨t6, t7, t8, t9⟩, A35_, H⟩ := H
    dsimp only at H
    have A35 := hid A35_
    clear A35_
    replace H := Option.bind_eq_some_iff.mp H
    obtain ⟨t10, A36_, H⟩ := H
    have A36 := hid A36_
    clear A36_
    obtain rfl := Option.some.inj H
    clear H
    have k37 := True.intro
    go_wp2_with (first
     | (go_at_call 110; clear k37; refine (i_alfilref07_By.calls k a0_0 (wrap64 (Int.tdiv (wrap64 (a1_0 + a1_1)) 2)) (wrap64 (1 - a0_1)) LN_a0_0.out t5 _ A26.out).mono ?_; rintro e_ w38 ⟨ut5, rfl, so_t5, hb_⟩; replace so_t5 := so_t5.mono HL.out.size; have SWn_t5 := hid so_t5; clear so_t5; replace BKb1 := hid (BKb1.out.below hb_ BKb1.out.lt); replace BKb2 := hid (BKb2.out.below hb_ BKb2.out.lt); replace HL := hid (HL.out.trans (hb_.mono HL.out.size)); clear hb_; have SWt5 := SWn_t5; clear SWn_t5)
     | ((with_reducible refine gate_d (N := 27) rfl ?_); obtain ⟨A39, c40, hv41⟩ := SWt5.out.sl.shape; rw [List.length_map] at hv41; refine ag_fix (.int .i64 (t5.length : Int)) (ex_len us27 _ _ _ _ hv41 _ rfl rfl) rfl ?_; clear hv41))
    (try simp only [Act.put, sI, sZ, sS])
    have WR64 := i64_w
    have WR32 := i32_w
    have WR8 := u8_w
    have WRU := u32_w
    refine sq_region (fun w'_ => Below w.heap.size w w'_ ∧ Blk w'_ gb1 46 (pv a0_0 a0_1 a0_2 a0_3) ∧ Blk w'_ gb2 75 #[.int .i64 a1_0, .int .i64 a1_1, .int .i64 a1_2] ∧ Own w'_ w.heap.size 3 (ut5) (t5.map (Value.int .i64)) ∧ True) [] [(0, 1), (1, 1), (4, 2), (5, 1), (2, 0), (3, 2), (6, 0), (7, 2), (8, 2)] (by kernel_rfl) (by kernel_rfl) (by kernel_rfl) rfl ?_
    intro w42 hb_
    replace BKb1 := hid (BKb1.out.below hb_ BKb1.out.lt)
    replace BKb2 := hid (BKb2.out.below hb_ BKb2.out.lt)
    replace SWt5 := hid (SWt5.out.below hb_)
    replace HL := hid (HL.out.trans (hb_.mono HL.out.size))
    clear hb_
    refine sq_take (.agg (pv a0_0 a0_1 a0_2 a0_3)) ⟨HL.out, BKb1.out, BKb2.out, SWt5.out, trivial⟩ rfl (fun w'_ hS_ => ex_load posT gb1 0 (pv a0_0 a0_1 a0_2 a0_3) (pv a0_0 a0_1 a0_2 a0_3) hS_.2.1 (xv_le LN_a0_0.out 67 rfl) (xv_ex LN_a0_0.out 67 rfl) _ rfl rfl) rfl rfl ?_
    intro ts_ ht_; simp only [sI, sZ, sS] at ht_; subst ht_
    refine sq_take (.agg #[.int .i64 a1_0, .int .i64 a1_1, .int .i64 a1_2]) ⟨HL.out, BKb1.out, BKb2.out, SWt5.out, trivial⟩ rfl (fun w'_ hS_ => ex_load aT75 gb2 0 #[.int .i64 a1_0, .int .i64 a1_1, .int .i64 a1_2] #[.int .i64 a1_0, .int .i64 a1_1, .int .i64 a1_2] hS_.2.2.1 (by simp) rfl _ rfl rfl) rfl rfl ?_
    intro ts_ ht_; simp only [sI, sZ, sS] at ht_; subst ht_
    refine sq_pure (.pointer (some ⟨gb1, 64, none⟩)) rfl (fun w'_ => ex_field 46 1 (.pointer (some ⟨gb1, 0, none⟩)) (.pointer (some ⟨gb1, 64, none⟩)) (fa46_1_0 gb1) _ rfl rfl) rfl rfl ?_
    intro ts_ ht_; simp only [sI, sZ, sS] at ht_; subst ht_
    refine sq_take (.int .i64 a0_1) ⟨HL.out, BKb1.out, BKb2.out, SWt5.out, trivial⟩ rfl (fun w'_ hS_ => ex_get sT3 gb1 (64) (.int .i64 a0_1) ((pv a0_0 a0_1 a0_2 a0_3)) hS_.2.1 ((xv_cell (n := 64) LN_a0_0.out 0 64 (by omega)).trans rfl) _ rfl rfl) rfl rfl ?_
    intro ts_ ht_; simp only [sI, sZ, sS] at ht_; subst ht_
    refine sq_act rfl (fun Q'_ hQ_ => ?_)
    refine wl_call 48 #[.agg (pv a0_0 a0_1 a0_2 a0_3), .agg #[.int .i64 a1_0, .int .i64 a1_1, .int .i64 a1_2]] (by go_simp) rfl ((i_alfilref09_Behind.calls k a0_0 a0_1 a0_2 a0_3 a1_0 a1_1 a1_2 LN_a0_0.out t6 t7 t8 t9 _ A35.out).mono ?_)
    rintro e_ w44 ⟨rfl, ln_t6, hb_⟩
    have LN_t6 := hid ln_t6
    clear ln_t6
    replace BKb1 := hid (BKb1.out.below hb_ BKb1.out.lt)
    replace BKb2 := hid (BKb2.out.below hb_ BKb2.out.lt)
    replace SWt5 := hid (SWt5.out.below hb_)
    replace HL := hid (HL.out.trans (hb_.mono HL.out.size))
    clear hb_
    refine ⟨_, rfl, ?_⟩
    refine hQ_ _ _ (fun _ => ⟨HL.out, BKb1.out, BKb2.out, SWt5.out, trivial⟩) ?_
    clear hQ_ Q'_
    simp only [Act.put, sI, sZ, sS]
    refine sq_pure (.agg (bv t6)) rfl (fun w'_ => ex_fld 46 0 (.agg (pv t6 t7 t8 t9)) (.agg (bv t6)) (k_field LN_t6.out) _ rfl rfl) rfl rfl ?_
    intro ts_ ht_; simp only [sI, sZ, sS] at ht_; subst ht_
    refine sq_act rfl (fun Q'_ hQ_ => ?_)
    refine wl_call 109 #[.agg (bv t6), .int .i64 a0_1] (by go_simp) rfl ((i_alfilref07_Check.calls k t6 a0_1 LN_t6.out t10 _ A36.out).mono ?_)
    rintro e_ w46 ⟨rfl, hb_⟩
    replace BKb1 := hid (BKb1.out.below hb_ BKb1.out.lt)
    replace BKb2 := hid (BKb2.out.below hb_ BKb2.out.lt)
    replace SWt5 := hid (SWt5.out.below hb_)
    replace HL := hid (HL.out.trans (hb_.mono HL.out.size))
    clear hb_
    refine ⟨_, rfl, ?_⟩
    refine hQ_ _ _ (fun _ => ⟨HL.out, BKb1.out, BKb2.out, SWt5.out, trivial⟩) ?_
    clear hQ_ Q'_
    simp only [Act.put, sI, sZ, sS]
    refine sq_pure (.bool (!t10)) rfl (fun w'_ => by go_simp <;> (unfold wrap64; omega)) rfl rfl ?_
    intro ts_ ht_; simp only [sI, sZ, sS] at ht_; subst ht_
    refine sq_pure (.bool (!t10)) rfl (fun w'_ => ex_mv (.tmp 37) (.inr rfl) _ rfl) rfl rfl ?_
    intro ts_ ht_; simp only [sI, sZ, sS] at ht_; subst ht_
    refine sq_end ?_
    clear WR64 WR32 WR8 WRU
    go_wp2_with fail
    (try simp only [Act.put, sI, sZ, sS])
    go_ret
    exact ⟨by first | rfl | (simp; done) | (simp [*]; done), HL.out⟩
 ·
  rw [if_neg c17] at H
  have c17b0 : decide (0 < t3) = false := decide_eq_false c17
  have hc17 := hid c17
  clear c17
  replace H := Option.bind_eq_some_iff.mp H
  obtain ⟨⟨t11, t12, t13, t14⟩, A47_, H⟩ := H
  dsimp only at H
  have A47 := hid A47_
  clear A47_
  replace H := Option.bind_eq_some_iff.mp H
  obtain ⟨t15, A48_, H⟩ := H
  have A48 := hid A48_
  clear A48_
  obtain rfl := Option.some.inj H
  clear H
  go_enter Try.func82, Try.ntmps82
  have k51 := True.intro
  go_wp2_with (first
   | ((with_reducible refine gate_d (N := 2) rfl ?_); obtain ⟨gb1, hgb1⟩ : ∃ g_, w.heap.size = g_ := ⟨_, rfl⟩; refine ag_box (pv a0_0 a0_1 a0_2 a0_3) gb1 hgb1 rfl _ rfl rfl ?_; intro w49 hb_ hB_ hs_; have GEb1 : Hid (w.heap.size ≤ gb1) := hid (by have := HL.out.size; omega); replace HL := hid (HL.out.trans (hb_.mono GEb1.out)); have BKb1 := hid hB_; clear hb_ hB_ hs_ hgb1)
   | ((with_reducible refine gate_d (N := 3) rfl ?_); obtain ⟨gb2, hgb2⟩ : ∃ g_, w49.heap.size = g_ := ⟨_, rfl⟩; refine ag_box #[.int .i64 a1_0, .int .i64 a1_1, .int .i64 a1_2] gb2 hgb2 rfl _ rfl rfl ?_; intro w50 hb_ hB_ hs_; have GEb2 : Hid (w.heap.size ≤ gb2) := hid (by have := HL.out.size; omega); have NBb1_b2 : Hid (gb1 ≠ gb2) := hid (by have := BKb1.out.lt; omega); have NBb2_b1 : Hid (gb2 ≠ gb1) := hid (by have := NBb1_b2.out; omega); replace BKb1 := hid (BKb1.out.below hb_ (by rw [← hgb2]; exact BKb1.out.lt)); replace HL := hid (HL.out.trans (hb_.mono GEb2.out)); have BKb2 := hid hB_; clear hb_ hB_ hs_ hgb2)
   | ((with_reducible refine gate_d (N := 5) rfl ?_); refine ag_fix (.agg (pv a0_0 a0_1 a0_2 a0_3)) (ex_load posT gb1 0 (pv a0_0 a0_1 a0_2 a0_3) (pv a0_0 a0_1 a0_2 a0_3) BKb1.out (xv_le LN_a0_0.out 67 rfl) (xv_ex LN_a0_0.out 67 rfl) _ rfl rfl) rfl ?_)
   | ((with_reducible refine gate_d (N := 6) rfl ?_); refine ag_fix (.agg #[.int .i64 a1_0, .int .i64 a1_1, .int .i64 a1_2]) (ex_load aT75 gb2 0 #[.int .i64 a1_0, .int .i64 a1_1, .int .i64 a1_2] #[.int .i64 a1_0, .int .i64 a1_1, .int .i64 a1_2] BKb2.out (by simp) rfl _ rfl rfl) rfl ?_)
   | (go_at_call 85; clear k51; refine (i_alfilref09_Right.calls k a0_0 a0_1 a0_2 a0_3 a1_0 a1_1 a1_2 LN_a0_0.out t3 _ A16.out).mono ?_; rintro e_ w52 ⟨rfl, hb_⟩; replace BKb1 := hid (BKb1.out.below hb_ BKb1.out.lt); replace BKb2 := hid (BKb2.out.below hb_ BKb2.out.lt); replace HL := hid (HL.out.trans (hb_.mono HL.out.size)); clear hb_))
  (try simp only [Act.put, sI, sZ, sS])
  have WR64 := i64_w
  have WR32 := i32_w
  have WR8 := u8_w
  have WRU := u32_w
  refine sq_region (fun w'_ => Below w.heap.size w w'_ ∧ Blk w'_ gb1 46 (pv a0_0 a0_1 a0_2 a0_3) ∧ Blk w'_ gb2 75 #[.int .i64 a1_0, .int .i64 a1_1, .int .i64 a1_2] ∧ True) [] [(0, 1), (1, 1), (4, 2), (5, 1), (2, 0), (3, 2), (6, 0), (7, 2), (8, 2)] (by kernel_rfl) (by kernel_rfl) (by kernel_rfl) rfl ?_
  intro w53 hb_
  replace BKb1 := hid (BKb1.out.below hb_ BKb1.out.lt)
  replace BKb2 := hid (BKb2.out.below hb_ BKb2.out.lt)
  replace HL := hid (HL.out.trans (hb_.mono HL.out.size))
  clear hb_
  refine sq_take (.agg (pv a0_0 a0_1 a0_2 a0_3)) ⟨HL.out, BKb1.out, BKb2.out, trivial⟩ rfl (fun w'_ hS_ => ex_load posT gb1 0 (pv a0_0 a0_1 a0_2 a0_3) (pv a0_0 a0_1 a0_2 a0_3) hS_.2.1 (xv_le LN_a0_0.out 67 rfl) (xv_ex LN_a0_0.out 67 rfl) _ rfl rfl) rfl rfl ?_
  intro ts_ ht_; simp only [sI, sZ, sS] at ht_; subst ht_
  refine sq_take (.agg #[.int .i64 a1_0, .int .i64 a1_1, .int .i64 a1_2]) ⟨HL.out, BKb1.out, BKb2.out, trivial⟩ rfl (fun w'_ hS_ => ex_load aT75 gb2 0 #[.int .i64 a1_0, .int .i64 a1_1, .int .i64 a1_2] #[.int .i64 a1_0, .int .i64 a1_1, .int .i64 a1_2] hS_.2.2.1 (by simp) rfl _ rfl rfl) rfl rfl ?_
  intro ts_ ht_; simp only [sI, sZ, sS] at ht_; subst ht_
  refine sq_pure (.pointer (some ⟨gb1, 64, none⟩)) rfl (fun w'_ => ex_field 46 1 (.pointer (some ⟨gb1, 0, none⟩)) (.pointer (some ⟨gb1, 64, none⟩)) (fa46_1_0 gb1) _ rfl rfl) rfl rfl ?_
  intro ts_ ht_; simp only [sI, sZ, sS] at ht_; subst ht_
  refine sq_take (.int .i64 a0_1) ⟨HL.out, BKb1.out, BKb2.out, trivial⟩ rfl (fun w'_ hS_ => ex_get sT3 gb1 (64) (.int .i64 a0_1) ((pv a0_0 a0_1 a0_2 a0_3)) hS_.2.1 ((xv_cell (n := 64) LN_a0_0.out 0 64 (by omega)).trans rfl) _ rfl rfl) rfl rfl ?_
  intro ts_ ht_; simp only [sI, sZ, sS] at ht_; subst ht_
  refine sq_act rfl (fun Q'_ hQ_ => ?_)
  refine wl_call 48 #[.agg (pv a0_0 a0_1 a0_2 a0_3), .agg #[.int .i64 a1_0, .int .i64 a1_1, .int .i64 a1_2]] (by go_simp) rfl ((i_alfilref09_Behind.calls k a0_0 a0_1 a0_2 a0_3 a1_0 a1_1 a1_2 LN_a0_0.out t11 t12 t13 t14 _ A47.out).mono ?_)
  rintro e_ w55 ⟨rfl, ln_t11, hb_⟩
  have LN_t11 := hid ln_t11
  clear ln_t11
  replace BKb1 := hid (BKb1.out.below hb_ BKb1.out.lt)
  replace BKb2 := hid (BKb2.out.below hb_ BKb2.out.lt)
  replace HL := hid (HL.out.trans (hb_.mono HL.out.size))
  clear hb_
  refine ⟨_, rfl, ?_⟩
  refine hQ_ _ _ (fun _ => ⟨HL.out, BKb1.out, BKb2.out, trivial⟩) ?_
  clear hQ_ Q'_
  simp only [Act.put, sI, sZ, sS]
  refine sq_pure (.agg (bv t11)) rfl (fun w'_ => ex_fld 46 0 (.agg (pv t11 t12 t13 t14)) (.agg (bv t11)) (k_field LN_t11.out) _ rfl rfl) rfl rfl ?_
  intro ts_ ht_; simp only [sI, sZ, sS] at ht_; subst ht_
  refine sq_act rfl (fun Q'_ hQ_ => ?_)
  refine wl_call 109 #[.agg (bv t11), .int .i64 a0_1] (by go_simp) rfl ((i_alfilref07_Check.calls k t11 a0_1 LN_t11.out t15 _ A48.out).mono ?_)
  rintro e_ w57 ⟨rfl, hb_⟩
  replace BKb1 := hid (BKb1.out.below hb_ BKb1.out.lt)
  replace BKb2 := hid (BKb2.out.below hb_ BKb2.out.lt)
  replace HL := hid (HL.out.trans (hb_.mono HL.out.size))
  clear hb_
  refine ⟨_, rfl, ?_⟩
  refine hQ_ _ _ (fun _ => ⟨HL.out, BKb1.out, BKb2.out, trivial⟩) ?_
  clear hQ_ Q'_
  simp only [Act.put, sI, sZ, sS]
  refine sq_pure (.bool (!t15)) rfl (fun w'_ => by go_simp <;> (unfold wrap64; omega)) rfl rfl ?_
  intro ts_ ht_; simp only [sI, sZ, sS] at ht_; subst ht_
  refine sq_pure (.bool (!t15)) rfl (fun w'_ => ex_mv (.tmp 37) (.inr rfl) _ rfl) rfl rfl ?_
  intro ts_ ht_; simp only [sI, sZ, sS] at ht_; subst ht_
  refine sq_end ?_
  clear WR64 WR32 WR8 WRU
  go_wp2_with fail
  (try simp only [Act.put, sI, sZ, sS])
  go_ret
  exact ⟨by first | rfl | (simp; done) | (simp [*]; done), HL.out⟩
def i_alfilref11_Moves.l0 : Nat → List Int → Int → Int → Int → List (Int × Int × Int) → List (Int × Int × Int) → Int → Option ((List (Int × Int × Int)))
  | 0, _, _, _, _, _, _, _ => none
  | k + 1, a0_0, a0_1, a0_2, a0_3, t2, x3_0, x5_0 => if x5_0 < (t2.length : Int) then (if 0 ≤ x5_0 then ((i_alfilref11_stays.f k a0_0 a0_1 a0_2 a0_3 ((nt t2 x5_0.toNat (0, 0, 0)).1) ((nt t2 x5_0.toNat (0, 0, 0)).2.1) ((nt t2 x5_0.toNat (0, 0, 0)).2.2)).bind fun t9 => (if t9 = true then (if x3_0.length < 5864062014805 then (i_alfilref11_Moves.l0 k a0_0 a0_1 a0_2 a0_3 t2 (x3_0 ++ [((nt t2 x5_0.toNat (0, 0, 0)).1, (nt t2 x5_0.toNat (0, 0, 0)).2.1, (nt t2 x5_0.toNat (0, 0, 0)).2.2)]) (wrap64 (x5_0 + 1))) else (none)) else (i_alfilref11_Moves.l0 k a0_0 a0_1 a0_2 a0_3 t2 x3_0 (wrap64 (x5_0 + 1))))) else (none)) else (some x3_0)
def i_alfilref11_Moves.f (k : Nat) (a0_0 : List Int) (a0_1 : Int) (a0_2 : Int) (a0_3 : Int) : Option ((List (Int × Int × Int))) := (i_alfilref10_All.f k a0_0 a0_1 a0_2 a0_3).bind fun t2 => (i_alfilref11_Moves.l0 k a0_0 a0_1 a0_2 a0_3 t2 ([] : List (Int × Int × Int)) 0)
def i_alfilref11_Moves.post (r1 : List (Int × Int × Int)) (w : World) (e : Ending) (w' : World) : Prop := ∃ (u_r1 : Value), e = .returned (u_r1) ∧ OwnN w' w.heap.size 75 3 (u_r1) r1.length (r1.flatMap en75) ∧ Below w.heap.size w w'
set_option maxHeartbeats 40000000 in
set_option maxRecDepth 100000 in
theorem i_alfilref11_Moves.calls (k : Nat) (a0_0 : List Int) (a0_1 : Int) (a0_2 : Int) (a0_3 : Int) (hla0_0 : a0_0.length = 64) (r1 : List (Int × Int × Int)) (w : World) (h : i_alfilref11_Moves.f k a0_0 a0_1 a0_2 a0_3 = some r1) :
    Calls Try.prog 46 #[.agg (pv a0_0 a0_1 a0_2 a0_3)] w (i_alfilref11_Moves.post r1 w) := by
 have LN_a0_0 := hid hla0_0
 clear hla0_0
 have HL := hid (Below.refl w.heap.size w)
 have H : ((i_alfilref10_All.f k a0_0 a0_1 a0_2 a0_3).bind fun t2 => (i_alfilref11_Moves.l0 k a0_0 a0_1 a0_2 a0_3 t2 ([] : List (Int × Int × Int)) 0)) = some r1 := h
 clear h
 replace H := Option.bind_eq_some_iff.mp H
 obtain ⟨t2, A13_, H⟩ := H
 have A13 := hid A13_
 clear A13_
 have H' := hid H
 clear H
 go_enter Try.func46, Try.ntmps46
 have k15 := True.intro
 go_wp2_with (first
  | ((with_reducible refine gate_d (N := 1) rfl ?_); obtain ⟨gb1, hgb1⟩ : ∃ g_, w.heap.size = g_ := ⟨_, rfl⟩; refine ag_box (pv a0_0 a0_1 a0_2 a0_3) gb1 hgb1 rfl _ rfl rfl ?_; intro w14 hb_ hB_ hs_; have GEb1 : Hid (w.heap.size ≤ gb1) := hid (by have := HL.out.size; omega); replace HL := hid (HL.out.trans (hb_.mono GEb1.out)); have BKb1 := hid hB_; clear hb_ hB_ hs_ hgb1)
  | ((with_reducible refine gate_d (N := 6) rfl ?_); refine ag_fix (.agg (pv a0_0 a0_1 a0_2 a0_3)) (ex_load posT gb1 0 (pv a0_0 a0_1 a0_2 a0_3) (pv a0_0 a0_1 a0_2 a0_3) BKb1.out (xv_le LN_a0_0.out 67 rfl) (xv_ex LN_a0_0.out 67 rfl) _ rfl rfl) rfl ?_)
  | (go_at_call 81; clear k15; refine (i_alfilref10_All.calls k a0_0 a0_1 a0_2 a0_3 LN_a0_0.out t2 _ A13.out).mono ?_; rintro e_ w16 ⟨ut2, rfl, so_t2, hb_⟩; replace so_t2 := so_t2.mono HL.out.size; have SWn_t2 := hid so_t2; clear so_t2; replace BKb1 := hid (BKb1.out.below hb_ BKb1.out.lt); replace HL := hid (HL.out.trans (hb_.mono HL.out.size)); clear hb_; have SWt2 := SWn_t2; clear SWn_t2))
 (try simp only [Act.put, sI, sZ, sS])
 obtain ⟨BB, hBB_⟩ : ∃ B, w16.heap.size = B := ⟨_, rfl⟩
 have GBB : Hid (w.heap.size ≤ BB) := hid (by rw [← hBB_]; exact HL.out.size)
 have SZ : Hid (BB ≤ w16.heap.size) := hid (by rw [hBB_]; exact Nat.le_refl _)
 replace SWt2 := hid (show RowK w16 BB 3 ut2 t2.length (t2.flatMap en75) from hBB_ ▸ OwnN.rowK SWt2.out)
 clear hBB_
 go_loopg [3, 5] k (fun kq v3 v5 w' => ∃ (x3_0 : List (Int × Int × Int)) (ux3_0 : Value) (x5_0 : Int), ux3_0 = v3 ∧ v5 = .int .i64 x5_0 ∧ Hid (i_alfilref11_Moves.l0 kq a0_0 a0_1 a0_2 a0_3 t2 x3_0 x5_0 = some r1) ∧ Hid (kq ≤ k) ∧ Hid (Blk w' gb1 46 (pv a0_0 a0_1 a0_2 a0_3)) ∧ Hid (RowK w' BB 3 (ut2) t2.length (t2.flatMap en75)) ∧ Hid (OwnN w' BB 75 3 (ux3_0) x3_0.length (x3_0.flatMap en75)) ∧ Hid (BB ≤ w'.heap.size) ∧ Hid (Below w.heap.size w w'))
 case atStart => exact ⟨([] : List (Int × Int × Int)), (.slice none 0 0), (0 : Int), (by first | rfl | (simp; done) | (simp [*]; done)), (by first | rfl | (simp; done) | (simp [*]; done)), H', (hid (by first | omega | (omega))), (hid (by exact BKb1.out)), SWt2, (hid (OwnN.nil _ _ _ _)), SZ, HL⟩
 case round =>
  clear H'
  clear HL BKb1 SWt2 SZ
  obtain ⟨x3_0, ux3_0, x5_0, rfl, rfl, HA, HK17, BKb1, SWt2, SWx3_0, SZ, HL⟩ := hrel
  cases gk with
  | zero => exact absurd HA.out (by simp [i_alfilref11_Moves.l0])
  | succ k18 =>
   have H := HA.out
   clear HA
   simp only [i_alfilref11_Moves.l0] at H
   by_cases c19 : x5_0 < (t2.length : Int)
   ·
    rw [if_pos c19] at H
    have c19b0 : decide (x5_0 < (t2.length : Int)) = true := decide_eq_true c19
    have hc19 := hid c19
    clear c19
    by_cases c20 : 0 ≤ x5_0
    ·
     rw [if_pos c20] at H
     have c20b0 : decide (0 ≤ x5_0) = true := decide_eq_true c20
     have hc20 := hid c20
     clear c20
     replace H := Option.bind_eq_some_iff.mp H
     obtain ⟨t9, A21_, H⟩ := H
     have A21 := hid A21_
     clear A21_
     cases t9 with
     | true =>
      rw [if_pos rfl] at H
      by_cases c23 : x3_0.length < 5864062014805
      ·
       rw [if_pos c23] at H
       have c23b0 : decide (x3_0.length < 5864062014805) = true := decide_eq_true c23
       have hc23 := hid c23
       clear c23
       have H' := hid H
       clear H
       go_wp2_with (first
        | ((with_reducible refine gate_d (N := 10) rfl ?_); obtain ⟨A24, c25, hv26⟩ := SWt2.out.sl.shape; skip; refine ag_fix (.int .i64 (t2.length : Int)) (ex_len us72 _ _ _ _ hv26 _ rfl rfl) rfl ?_; clear hv26))
       (try simp only [Act.put, sI, sZ, sS])
       obtain ⟨ad8, c_17, hv_17, hc_17⟩ := SlN.get (l := t2) (f := en75) en75_len SWt2.out.sl (0, 0, 0) (i := x5_0) hc20.out hc19.out
       have HV_17 := hid hv_17
       have HCad8 := hid hc_17
       clear hv_17 hc_17
       have WR64 := i64_w
       have WR32 := i32_w
       refine up_regionW (by kernel_rfl) (by kernel_rfl) ?_
       refine q_do (.agg (pv a0_0 a0_1 a0_2 a0_3)) (fun w'_ hc_ => by obtain ⟨n_, hn_⟩ := hc_; exact ex_load posT gb1 0 (pv a0_0 a0_1 a0_2 a0_3) (pv a0_0 a0_1 a0_2 a0_3) (by rw [hn_]; exact BKb1.out.below n_.below BKb1.out.lt) (xv_le LN_a0_0.out 67 rfl) (xv_ex LN_a0_0.out 67 rfl) _ rfl rfl) rfl rfl ?_
       intro ts_ ht_; simp only [sI, sZ, sS] at ht_; subst ht_
       refine q_do (ut2) (fun w'_ hc_ => ex_mv (.tmp 4) (.inl rfl) _ rfl) rfl rfl ?_
       intro ts_ ht_; simp only [sI, sZ, sS] at ht_; subst ht_
       refine q_do (.int .i64 x5_0) (fun w'_ hc_ => ex_mv (.tmp 5) (.inl rfl) _ rfl) rfl rfl ?_
       intro ts_ ht_; simp only [sI, sZ, sS] at ht_; subst ht_
       refine q_do (.pointer (some (ad8.add (x5_0.toNat * 3)))) (fun w'_ hc_ => by obtain ⟨n_, hn_⟩ := hc_; exact ex_satN _ _ x5_0 _ _ HV_17.out hc20.out hc19.out us72 aT75.size _ _ rfl rfl rfl) rfl rfl ?_
       intro ts_ ht_; simp only [sI, sZ, sS] at ht_; subst ht_
       refine q_do (.agg #[.int .i64 ((nt t2 x5_0.toNat (0, 0, 0)).1), .int .i64 ((nt t2 x5_0.toNat (0, 0, 0)).2.1), .int .i64 ((nt t2 x5_0.toNat (0, 0, 0)).2.2)]) (fun w'_ hc_ => by obtain ⟨n_, hn_⟩ := hc_; exact ex_ldN aT75 _ (en75 (nt t2 x5_0.toNat (0, 0, 0))) rfl (by rw [hn_]; exact ncell (en75_len _) HCad8.out n_.below) _ rfl rfl) rfl rfl ?_
       intro ts_ ht_; simp only [sI, sZ, sS] at ht_; subst ht_
       refine q_call (.bool true) 82 #[.agg (pv a0_0 a0_1 a0_2 a0_3), .agg #[.int .i64 ((nt t2 x5_0.toNat (0, 0, 0)).1), .int .i64 ((nt t2 x5_0.toNat (0, 0, 0)).2.1), .int .i64 ((nt t2 x5_0.toNat (0, 0, 0)).2.2)]] (fun w'_ => by go_simp) (fun w'_ hc_ => (i_alfilref11_stays.calls k18 a0_0 a0_1 a0_2 a0_3 ((nt t2 x5_0.toNat (0, 0, 0)).1) ((nt t2 x5_0.toNat (0, 0, 0)).2.1) ((nt t2 x5_0.toNat (0, 0, 0)).2.2) LN_a0_0.out true _ A21.out).mono fun e_ w2_ h_ => ⟨h_.1, up_below hc_ h_.2⟩) rfl rfl ?_
       intro ts_ ht_; simp only [sI, sZ, sS] at ht_; subst ht_
       refine q_end ?_
       rintro w8_ ⟨n_, rfl⟩
       replace BKb1 := hid (BKb1.out.below n_.below BKb1.out.lt)
       replace SWt2 := hid (SWt2.out.go n_.below SZ.out)
       replace SWx3_0 := hid (SWx3_0.out.below n_.below)
       replace SZ := hid (Nat.le_trans SZ.out n_.below.size)
       replace HL := hid (HL.out.trans (n_.below.mono HL.out.size))
       generalize n_.world = w27 at *
       clear n_ WR64 WR32
       have k32 := True.intro
       go_wp2_with (first
        | ((with_reducible refine gate_d (N := 23) rfl ?_); obtain ⟨ad10, c28, hv29, HCad10_⟩ := SlN.get (l := t2) (f := en75) en75_len SWt2.out.sl (0, 0, 0) (i := x5_0) hc20.out hc19.out; have HCad10 := hid HCad10_; clear HCad10_; refine ag_fix (.pointer (some (ad10.add (x5_0.toNat * 3)))) (ex_satN _ _ x5_0 _ _ hv29 hc20.out hc19.out us72 aT75.size _ _ rfl rfl rfl) rfl ?_; clear hv29)
        | ((with_reducible refine gate_d (N := 24) rfl ?_); refine ag_fix (.agg #[.int .i64 ((nt t2 x5_0.toNat (0, 0, 0)).1), .int .i64 ((nt t2 x5_0.toNat (0, 0, 0)).2.1), .int .i64 ((nt t2 x5_0.toNat (0, 0, 0)).2.2)]) (ex_ldN aT75 _ (en75 (nt t2 x5_0.toNat (0, 0, 0))) rfl HCad10.out _ rfl rfl) rfl ?_)
        | ((with_reducible refine gate_d (N := 25) rfl ?_); obtain ⟨gb11, hgb11⟩ : ∃ g_, w27.heap.size = g_ := ⟨_, rfl⟩; refine ag_litA (e := 75) 1 #[.int .i64 ((nt t2 x5_0.toNat (0, 0, 0)).1), .int .i64 ((nt t2 x5_0.toNat (0, 0, 0)).2.1), .int .i64 ((nt t2 x5_0.toNat (0, 0, 0)).2.2)] gb11 hgb11 rfl _ rfl (fun w_ => by (try simp only [List.map_toArray, List.map_cons, List.map_nil]); kernel_rfl) ?_; intro w30 hb_ hB_ hs_; have GEb11 : Hid (w.heap.size ≤ gb11) := hid (by have := HL.out.size; omega); have NBb1_b11 : Hid (gb1 ≠ gb11) := hid (by have := BKb1.out.lt; omega); have NBb11_b1 : Hid (gb11 ≠ gb1) := hid (by have := NBb1_b11.out; omega); replace BKb1 := hid (BKb1.out.below hb_ (by rw [← hgb11]; exact BKb1.out.lt)); replace SWt2 := hid (SWt2.out.go (by rw [hgb11]; exact hb_) SZ.out); replace SWx3_0 := hid (SWx3_0.out.below (by rw [hgb11]; exact hb_)); replace SZ := hid (Nat.le_trans SZ.out hb_.size); replace HL := hid (HL.out.trans (hb_.mono GEb11.out)); have BKb11 := hid hB_; clear hb_ hB_ hs_ hgb11)
        | (at_builtin; clear k32; refine app_n (len := x3_0.length) eN72 BB (ux3_0) (x3_0.flatMap en75) (en75 ((nt t2 x5_0.toNat (0, 0, 0)).1, (nt t2 x5_0.toNat (0, 0, 0)).2.1, (nt t2 x5_0.toNat (0, 0, 0)).2.2)) gb11 1 SWx3_0.out BKb11.out rfl (by intro u_ hu_; simp [en75] at hu_; rcases hu_ with rfl | rfl | rfl <;> rfl) (by have h_ := hc23.out; omega) (by have h_ := hc23.out; unfold maxLen; omega) SZ.out rfl _ _ rfl rfl rfl ?_; intro uo12 w31 ho_ hb_ hk_ hi_; clear SWx3_0; have SWo12 : Hid (OwnN w31 BB 75 3 (uo12) (x3_0 ++ [((nt t2 x5_0.toNat (0, 0, 0)).1, (nt t2 x5_0.toNat (0, 0, 0)).2.1, (nt t2 x5_0.toNat (0, 0, 0)).2.2)]).length ((x3_0 ++ [((nt t2 x5_0.toNat (0, 0, 0)).1, (nt t2 x5_0.toNat (0, 0, 0)).2.1, (nt t2 x5_0.toNat (0, 0, 0)).2.2)]).flatMap en75)) := hid (OwnN.snoc ho_); replace SWt2 := hid (SWt2.out.below hb_); replace SZ := hid (Nat.le_trans SZ.out hb_.size); replace BKb1 := hid (hk_ _ _ _ (by decide) BKb1.out); replace HL := hid (HL.out.trans (hb_.mono GBB.out)); clear ho_ hb_ hk_ hi_ BKb11))
       (try simp only [Act.put, sI, sZ, sS])
       go_roundg k18
       case measure => have := HK17.out; omega
       case rel => exact ⟨x3_0 ++ [((nt t2 x5_0.toNat (0, 0, 0)).1, (nt t2 x5_0.toNat (0, 0, 0)).2.1, (nt t2 x5_0.toNat (0, 0, 0)).2.2)], (uo12), wrap64 (x5_0 + 1), (by first | rfl | (simp; done) | (simp [*]; done)), (by first | rfl | (simp; done) | (simp [*]; done)), H', (hid (by first | omega | (have := HK17.out; omega))), (hid (by exact BKb1.out)), SWt2, SWo12, SZ, HL⟩
      ·
       rw [if_neg c23] at H
       exact absurd H (by simp)
     | false =>
      rw [if_neg (show ¬ (false = true) by decide)] at H
      have H' := hid H
      clear H
      go_wp2_with (first
       | ((with_reducible refine gate_d (N := 10) rfl ?_); obtain ⟨A33, c34, hv35⟩ := SWt2.out.sl.shape; skip; refine ag_fix (.int .i64 (t2.length : Int)) (ex_len us72 _ _ _ _ hv35 _ rfl rfl) rfl ?_; clear hv35))
      (try simp only [Act.put, sI, sZ, sS])
      obtain ⟨ad8, c_17, hv_17, hc_17⟩ := SlN.get (l := t2) (f := en75) en75_len SWt2.out.sl (0, 0, 0) (i := x5_0) hc20.out hc19.out
      have HV_17 := hid hv_17
      have HCad8 := hid hc_17
      clear hv_17 hc_17
      have WR64 := i64_w
      have WR32 := i32_w
      refine up_regionW (by kernel_rfl) (by kernel_rfl) ?_
      refine q_do (.agg (pv a0_0 a0_1 a0_2 a0_3)) (fun w'_ hc_ => by obtain ⟨n_, hn_⟩ := hc_; exact ex_load posT gb1 0 (pv a0_0 a0_1 a0_2 a0_3) (pv a0_0 a0_1 a0_2 a0_3) (by rw [hn_]; exact BKb1.out.below n_.below BKb1.out.lt) (xv_le LN_a0_0.out 67 rfl) (xv_ex LN_a0_0.out 67 rfl) _ rfl rfl) rfl rfl ?_
      intro ts_ ht_; simp only [sI, sZ, sS] at ht_; subst ht_
      refine q_do (ut2) (fun w'_ hc_ => ex_mv (.tmp 4) (.inl rfl) _ rfl) rfl rfl ?_
      intro ts_ ht_; simp only [sI, sZ, sS] at ht_; subst ht_
      refine q_do (.int .i64 x5_0) (fun w'_ hc_ => ex_mv (.tmp 5) (.inl rfl) _ rfl) rfl rfl ?_
      intro ts_ ht_; simp only [sI, sZ, sS] at ht_; subst ht_
      refine q_do (.pointer (some (ad8.add (x5_0.toNat * 3)))) (fun w'_ hc_ => by obtain ⟨n_, hn_⟩ := hc_; exact ex_satN _ _ x5_0 _ _ HV_17.out hc20.out hc19.out us72 aT75.size _ _ rfl rfl rfl) rfl rfl ?_
      intro ts_ ht_; simp only [sI, sZ, sS] at ht_; subst ht_
      refine q_do (.agg #[.int .i64 ((nt t2 x5_0.toNat (0, 0, 0)).1), .int .i64 ((nt t2 x5_0.toNat (0, 0, 0)).2.1), .int .i64 ((nt t2 x5_0.toNat (0, 0, 0)).2.2)]) (fun w'_ hc_ => by obtain ⟨n_, hn_⟩ := hc_; exact ex_ldN aT75 _ (en75 (nt t2 x5_0.toNat (0, 0, 0))) rfl (by rw [hn_]; exact ncell (en75_len _) HCad8.out n_.below) _ rfl rfl) rfl rfl ?_
      intro ts_ ht_; simp only [sI, sZ, sS] at ht_; subst ht_
      refine q_call (.bool false) 82 #[.agg (pv a0_0 a0_1 a0_2 a0_3), .agg #[.int .i64 ((nt t2 x5_0.toNat (0, 0, 0)).1), .int .i64 ((nt t2 x5_0.toNat (0, 0, 0)).2.1), .int .i64 ((nt t2 x5_0.toNat (0, 0, 0)).2.2)]] (fun w'_ => by go_simp) (fun w'_ hc_ => (i_alfilref11_stays.calls k18 a0_0 a0_1 a0_2 a0_3 ((nt t2 x5_0.toNat (0, 0, 0)).1) ((nt t2 x5_0.toNat (0, 0, 0)).2.1) ((nt t2 x5_0.toNat (0, 0, 0)).2.2) LN_a0_0.out false _ A21.out).mono fun e_ w2_ h_ => ⟨h_.1, up_below hc_ h_.2⟩) rfl rfl ?_
      intro ts_ ht_; simp only [sI, sZ, sS] at ht_; subst ht_
      refine q_end ?_
      rintro w8_ ⟨n_, rfl⟩
      replace BKb1 := hid (BKb1.out.below n_.below BKb1.out.lt)
      replace SWt2 := hid (SWt2.out.go n_.below SZ.out)
      replace SWx3_0 := hid (SWx3_0.out.below n_.below)
      replace SZ := hid (Nat.le_trans SZ.out n_.below.size)
      replace HL := hid (HL.out.trans (n_.below.mono HL.out.size))
      generalize n_.world = w36 at *
      clear n_ WR64 WR32
      go_wp2_with fail
      (try simp only [Act.put, sI, sZ, sS])
      go_roundg k18
      case measure => have := HK17.out; omega
      case rel => exact ⟨x3_0, (ux3_0), wrap64 (x5_0 + 1), (by first | rfl | (simp; done) | (simp [*]; done)), (by first | rfl | (simp; done) | (simp [*]; done)), H', (hid (by first | omega | (have := HK17.out; omega))), (hid (by exact BKb1.out)), SWt2, SWx3_0, SZ, HL⟩
    ·
     rw [if_neg c20] at H
     exact absurd H (by simp)
   ·
    rw [if_neg c19] at H
    have c19b0 : decide (x5_0 < (t2.length : Int)) = false := decide_eq_false c19
    have hc19 := hid c19
    clear c19
    obtain rfl := Option.some.inj H
    clear H
    go_wp2_with (first
     | ((with_reducible refine gate_d (N := 10) rfl ?_); obtain ⟨A37, c38, hv39⟩ := SWt2.out.sl.shape; skip; refine ag_fix (.int .i64 (t2.length : Int)) (ex_len us72 _ _ _ _ hv39 _ rfl rfl) rfl ?_; clear hv39))
    (try simp only [Act.put, sI, sZ, sS])
    go_ret
    exact ⟨_, rfl, (by exact SWx3_0.out.mono GBB.out), HL.out⟩
mutual
def i_alfillaw24_CountSound.l0 : Nat → List Int → Int → List Int → Int → Int → Int → Option (Bool)
  | 0, _, _, _, _, _, _ => none
  | k + 1, a0, x18_0, yb6_0_0, yb6_1_0, yb6_2_0, yb6_3_0 => if x18_0 < (a0.length : Int) then (if 0 ≤ x18_0 then ((i_alfilref11_Moves.f k yb6_0_0 yb6_1_0 yb6_2_0 yb6_3_0).bind fun t38 => (if (t38.length : Int) = 0 then (some true) else (if 0 ≤ (Int.tmod (wrap64 (IntKind.u16.wrap (Int.tdiv (nt a0 x18_0.toNat 0) 2))) (t38.length : Int)) then (if (Int.tmod (wrap64 (IntKind.u16.wrap (Int.tdiv (nt a0 x18_0.toNat 0) 2))) (t38.length : Int)) < (t38.length : Int) then (i_alfillaw24_CountSound.l1 k a0 x18_0 yb6_0_0 yb6_1_0 yb6_2_0 yb6_3_0 t38 0) else (none)) else (none)))) else (none)) else (some true)
def i_alfillaw24_CountSound.l1 : Nat → List Int → Int → List Int → Int → Int → Int → List (Int × Int × Int) → Int → Option (Bool)
  | 0, _, _, _, _, _, _, _, _ => none
  | k + 1, a0, x18_0, yb6_0_0, yb6_1_0, yb6_2_0, yb6_3_0, t38, x38_1 => if x38_1 < (t38.length : Int) then (if (t38.length : Int) = 0 then (none) else (if 0 ≤ (Int.tmod (wrap64 ((wrap64 (IntKind.u16.wrap (Int.tdiv (nt a0 x18_0.toNat 0) 2))) + x38_1)) (t38.length : Int)) then (if (Int.tmod (wrap64 ((wrap64 (IntKind.u16.wrap (Int.tdiv (nt a0 x18_0.toNat 0) 2))) + x38_1)) (t38.length : Int)) < (t38.length : Int) then (if (Int.tmod (nt a0 x18_0.toNat 0) 2) = 1 then ((i_alfilref09_Takes.f k yb6_0_0 yb6_1_0 yb6_2_0 yb6_3_0 ((nt t38 ((Int.tmod (wrap64 ((wrap64 (IntKind.u16.wrap (Int.tdiv (nt a0 x18_0.toNat 0) 2))) + x38_1)) (t38.length : Int)).toNat) (0, 0, 0)).1) ((nt t38 ((Int.tmod (wrap64 ((wrap64 (IntKind.u16.wrap (Int.tdiv (nt a0 x18_0.toNat 0) 2))) + x38_1)) (t38.length : Int)).toNat) (0, 0, 0)).2.1) ((nt t38 ((Int.tmod (wrap64 ((wrap64 (IntKind.u16.wrap (Int.tdiv (nt a0 x18_0.toNat 0) 2))) + x38_1)) (t38.length : Int)).toNat) (0, 0, 0)).2.2)).bind fun t56 => (if t56 ≥ 0 then ((i_alfilref09_Behind.f k yb6_0_0 yb6_1_0 yb6_2_0 yb6_3_0 ((nt t38 ((Int.tmod (wrap64 ((wrap64 (IntKind.u16.wrap (Int.tdiv (nt a0 x18_0.toNat 0) 2))) + x38_1)) (t38.length : Int)).toNat) (0, 0, 0)).1) ((nt t38 ((Int.tmod (wrap64 ((wrap64 (IntKind.u16.wrap (Int.tdiv (nt a0 x18_0.toNat 0) 2))) + x38_1)) (t38.length : Int)).toNat) (0, 0, 0)).2.1) ((nt t38 ((Int.tmod (wrap64 ((wrap64 (IntKind.u16.wrap (Int.tdiv (nt a0 x18_0.toNat 0) 2))) + x38_1)) (t38.length : Int)).toNat) (0, 0, 0)).2.2)).bind fun bt57 => ((i_count_Illegal.f k bt57.1).bind fun t61 => (if t61 = true then (some false) else (i_alfillaw24_CountSound.l0 k a0 (wrap64 (x18_0 + 1)) bt57.1 bt57.2.1 bt57.2.2.1 bt57.2.2.2)))) else (i_alfillaw24_CountSound.l1 k a0 x18_0 yb6_0_0 yb6_1_0 yb6_2_0 yb6_3_0 t38 (wrap64 (x38_1 + 1))))) else (i_alfillaw24_CountSound.l1 k a0 x18_0 yb6_0_0 yb6_1_0 yb6_2_0 yb6_3_0 t38 (wrap64 (x38_1 + 1)))) else (none)) else (none))) else ((i_alfilref09_Behind.f k yb6_0_0 yb6_1_0 yb6_2_0 yb6_3_0 ((nt t38 ((Int.tmod (wrap64 (IntKind.u16.wrap (Int.tdiv (nt a0 x18_0.toNat 0) 2))) (t38.length : Int)).toNat) (0, 0, 0)).1) ((nt t38 ((Int.tmod (wrap64 (IntKind.u16.wrap (Int.tdiv (nt a0 x18_0.toNat 0) 2))) (t38.length : Int)).toNat) (0, 0, 0)).2.1) ((nt t38 ((Int.tmod (wrap64 (IntKind.u16.wrap (Int.tdiv (nt a0 x18_0.toNat 0) 2))) (t38.length : Int)).toNat) (0, 0, 0)).2.2)).bind fun bt62 => ((i_count_Illegal.f k bt62.1).bind fun t66 => (if t66 = true then (some false) else (i_alfillaw24_CountSound.l0 k a0 (wrap64 (x18_0 + 1)) bt62.1 bt62.2.1 bt62.2.2.1 bt62.2.2.2))))
end
def i_alfillaw24_CountSound.f (k : Nat) (a0 : List Int) : Option (Bool) := (i_alfillaw24_wakes.f k).bind fun t1 => (if t1 = true then (if (a0.length : Int) > 25 then (some true) else ((i_pos_First.f k).bind fun bt2 => (i_alfillaw24_CountSound.l0 k a0 0 bt2.1 bt2.2.1 bt2.2.2.1 bt2.2.2.2))) else (some false))
set_option maxHeartbeats 40000000 in
set_option maxRecDepth 100000 in
theorem i_alfillaw24_CountSound.calls (k : Nat) (v0_ : Value) (a0 : List Int) (r1 : Bool) (w : World) (hs0 : Sl w v0_ (a0.map (Value.int .u16))) (h : i_alfillaw24_CountSound.f k a0 = some r1) :
    Calls Try.prog 12 #[v0_] w fun e w' => e = .returned (.bool r1) ∧ Below w.heap.size w w' := by
 have HL := hid (Below.refl w.heap.size w)
 have SP0 := hid hs0
 clear hs0
 have H : ((i_alfillaw24_wakes.f k).bind fun t1 => (if t1 = true then (if (a0.length : Int) > 25 then (some true) else ((i_pos_First.f k).bind fun bt2 => (i_alfillaw24_CountSound.l0 k a0 0 bt2.1 bt2.2.1 bt2.2.2.1 bt2.2.2.2))) else (some false))) = some r1 := h
 clear h
 replace H := Option.bind_eq_some_iff.mp H
 obtain ⟨t1, A67_, H⟩ := H
 have A67 := hid A67_
 clear A67_
 cases t1 with
 | true =>
  rw [if_pos rfl] at H
  by_cases c69 : (a0.length : Int) > 25
  ·
   rw [if_pos c69] at H
   have c69b0 : decide (25 < (a0.length : Int)) = true := decide_eq_true c69
   have c69b1 : decide (25 < a0.length) = true := decide_eq_true (by omega)
   have hc69 := hid c69
   clear c69
   obtain rfl := Option.some.inj H
   clear H
   go_enter Try.func12, Try.ntmps12
   have k70 := True.intro
   go_wp2_with (first
    | (go_at_call 34; clear k70; refine (i_alfillaw24_wakes.calls k true _ A67.out).mono ?_; rintro e_ w71 ⟨rfl, hb_⟩; replace HL := hid (HL.out.trans (hb_.mono HL.out.size)); clear hb_)
    | ((with_reducible refine gate_d (N := 13) rfl ?_); obtain ⟨A72, c73, hv74⟩ := (SP0.out.below HL.out).shape; rw [List.length_map] at hv74; refine ag_fix (.int .i64 (a0.length : Int)) (ex_len us69 _ _ _ _ hv74 _ rfl rfl) rfl ?_; clear hv74))
   (try simp only [Act.put, sI, sZ, sS])
   go_ret
   exact ⟨by first | rfl | (simp; done) | (simp [*]; done), HL.out⟩
  ·
   rw [if_neg c69] at H
   have c69b0 : decide (25 < (a0.length : Int)) = false := decide_eq_false c69
   have c69b1 : decide (25 < a0.length) = false := decide_eq_false (by omega)
   have hc69 := hid c69
   clear c69
   replace H := Option.bind_eq_some_iff.mp H
   obtain ⟨⟨t2, t3, t4, t5⟩, A75_, H⟩ := H
   dsimp only at H
   have A75 := hid A75_
   clear A75_
   have H' := hid H
   clear H
   go_enter Try.func12, Try.ntmps12
   have k76 := True.intro
   have k81 := True.intro
   go_wp2_with (first
    | (go_at_call 34; clear k76; refine (i_alfillaw24_wakes.calls k true _ A67.out).mono ?_; rintro e_ w77 ⟨rfl, hb_⟩; replace HL := hid (HL.out.trans (hb_.mono HL.out.size)); clear hb_)
    | ((with_reducible refine gate_d (N := 13) rfl ?_); obtain ⟨A78, c79, hv80⟩ := (SP0.out.below HL.out).shape; rw [List.length_map] at hv80; refine ag_fix (.int .i64 (a0.length : Int)) (ex_len us69 _ _ _ _ hv80 _ rfl rfl) rfl ?_; clear hv80)
    | (go_at_call 45; clear k81; refine (i_pos_First.calls k t2 t3 t4 t5 _ A75.out).mono ?_; rintro e_ w82 ⟨rfl, ln_t2, hb_⟩; have LN_t2 := hid ln_t2; clear ln_t2; replace HL := hid (HL.out.trans (hb_.mono HL.out.size)); clear hb_)
    | ((with_reducible refine gate_d (N := 3) rfl ?_); obtain ⟨gb6, hgb6⟩ : ∃ g_, w82.heap.size = g_ := ⟨_, rfl⟩; refine ag_alloc posT gb6 hgb6 rfl rfl ?_; intro w83 hb_ hB_ hs_; have GEb6 : Hid (w.heap.size ≤ gb6) := hid (by have := HL.out.size; omega); replace HL := hid (HL.out.trans (hb_.mono GEb6.out)); have BKb6 := hid hB_; clear hb_ hB_ hs_ hgb6)
    | ((with_reducible refine gate_s (t := 46) (p := 3) rfl ?_); refine ag_store posT gb6 0 (pv zL 0 0 0) (pv t2 t3 t4 t5) (pv t2 t3 t4 t5) BKb6.out (by rw [show (pv t2 t3 t4 t5) = xv (Value.int .i8) t2 [.int .i64 t3, .int .i64 t4, .int .i64 t5] from rfl, xv_size, show t2.length = 64 from LN_t2.out]; rfl) (xv_le zL_len 67 rfl) (xv_one (fun _ => rfl) (by intro v_ hv_; simp at hv_; rcases hv_ with rfl | rfl | rfl <;> rfl)) (xv_put zL_len LN_t2.out rfl) rfl _ _ rfl rfl rfl ?_; intro w84 ho_ hB_; replace HL := hid (ho_.below HL.out GEb6.out); replace BKb6 := hid hB_; clear ho_ hB_)
    | ((with_reducible refine gate_d (N := 17) rfl ?_); obtain ⟨A85, c86, hv87⟩ := (SP0.out.below HL.out).shape; rw [List.length_map] at hv87; refine ag_fix (.int .i64 (a0.length : Int)) (ex_len us69 _ _ _ _ hv87 _ rfl rfl) rfl ?_; clear hv87))
   (try simp only [Act.put, sI, sZ, sS])
   go_loopg [18] k (fun kq v18 w' => ∃ (x18_0 : Int) (yb6_0_0 : List Int) (yb6_1_0 : Int) (yb6_2_0 : Int) (yb6_3_0 : Int), v18 = .int .i64 x18_0 ∧ Hid (i_alfillaw24_CountSound.l0 kq a0 x18_0 yb6_0_0 yb6_1_0 yb6_2_0 yb6_3_0 = some r1) ∧ Hid (kq ≤ k) ∧ Hid (yb6_0_0.length = 64) ∧ Hid (Blk w' gb6 46 (pv yb6_0_0 yb6_1_0 yb6_2_0 yb6_3_0)) ∧ Hid (Below w.heap.size w w'))
   case atStart => exact ⟨(0 : Int), t2, t3, t4, t5, (by first | rfl | (simp; done) | (simp [*]; done)), H', (hid (by first | omega | (omega))), (hid (by first | rfl | (simp only [List.length_set, List.length_replicate, zL_len, List.length_cons, List.length_nil, LN_t2.out]; done) | (simp [zL_len, LN_t2.out]; done))), (hid (by exact BKb6.out)), HL⟩
   case round =>
    clear H'
    clear HL BKb6
    obtain ⟨x18_0, yb6_0_0, yb6_1_0, yb6_2_0, yb6_3_0, rfl, HA, HK88, LN_yb6_0_0, BKb6, HL⟩ := hrel
    cases gk with
    | zero => exact absurd HA.out (by simp [i_alfillaw24_CountSound.l0])
    | succ k89 =>
     have H := HA.out
     clear HA
     simp only [i_alfillaw24_CountSound.l0] at H
     by_cases c90 : x18_0 < (a0.length : Int)
     ·
      rw [if_pos c90] at H
      have c90b0 : decide (x18_0 < (a0.length : Int)) = true := decide_eq_true c90
      have hc90 := hid c90
      clear c90
      by_cases c91 : 0 ≤ x18_0
      ·
       rw [if_pos c91] at H
       have c91b0 : decide (0 ≤ x18_0) = true := decide_eq_true c91
       have hc91 := hid c91
       clear c91
       replace H := Option.bind_eq_some_iff.mp H
       obtain ⟨t38, A92_, H⟩ := H
       have A92 := hid A92_
       clear A92_
       by_cases c93 : (t38.length : Int) = 0
       ·
        rw [if_pos c93] at H
        have c93b0 : ((t38.length : Int) == 0) = true := beq_iff_eq.mpr c93
        have c93b1 : ((t38.length : Int) != 0) = false := bne_eq_false_iff_eq.mpr c93
        have hc93 := hid c93
        clear c93
        obtain rfl := Option.some.inj H
        clear H
        have k96 := True.intro
        go_wp2_with (first
         | ((with_reducible refine gate_d (N := 20) rfl ?_); obtain ⟨ad37, c94, hv95, HCad37_⟩ := Sl.get (l := a0) (f := (Value.int .u16)) (SP0.out.below HL.out) 0 (i := x18_0) hc91.out hc90.out; have HCad37 := hid HCad37_; clear HCad37_; refine ag_fix (.pointer (some (ad37.add x18_0.toNat))) (ex_sat _ _ x18_0 _ _ hv95 hc91.out hc90.out us69 sT71 _ _ rfl rfl rfl) rfl ?_; have HVAad37 := hid hv95; clear hv95)
         | ((with_reducible refine gate_d (N := 21) rfl ?_); refine ag_fix (.int .u16 (nt a0 x18_0.toNat 0)) (ex_scell sT71 _ _ HCad37.out _ rfl rfl) rfl ?_)
         | ((with_reducible refine gate_d (N := 22) rfl ?_); refine ag_fix (.agg (pv yb6_0_0 yb6_1_0 yb6_2_0 yb6_3_0)) (ex_load posT gb6 0 (pv yb6_0_0 yb6_1_0 yb6_2_0 yb6_3_0) (pv yb6_0_0 yb6_1_0 yb6_2_0 yb6_3_0) BKb6.out (xv_le LN_yb6_0_0.out 67 rfl) (xv_ex LN_yb6_0_0.out 67 rfl) _ rfl rfl) rfl ?_)
         | (go_at_call 46; clear k96; refine (i_alfilref11_Moves.calls k89 yb6_0_0 yb6_1_0 yb6_2_0 yb6_3_0 LN_yb6_0_0.out t38 _ A92.out).mono ?_; rintro e_ w97 ⟨ut38, rfl, so_t38, hb_⟩; replace so_t38 := so_t38.mono HL.out.size; have SWn_t38 := hid so_t38; clear so_t38; replace BKb6 := hid (BKb6.out.below hb_ BKb6.out.lt); replace HL := hid (HL.out.trans (hb_.mono HL.out.size)); clear hb_; have SWt38 := SWn_t38; clear SWn_t38)
         | ((with_reducible refine gate_d (N := 25) rfl ?_); obtain ⟨A98, c99, hv100⟩ := SWt38.out.sl.shape; skip; refine ag_fix (.int .i64 (t38.length : Int)) (ex_len us72 _ _ _ _ hv100 _ rfl rfl) rfl ?_; clear hv100))
        (try simp only [Act.put, sI, sZ, sS])
        go_ret
        exact ⟨by first | rfl | (simp; done) | (simp [*]; done), HL.out⟩
       ·
        rw [if_neg c93] at H
        have c93b0 : ((t38.length : Int) == 0) = false := beq_eq_false_iff_ne.mpr c93
        have c93b1 : ((t38.length : Int) != 0) = true := bne_iff_ne.mpr c93
        have c93b2 : ¬ (t38 = []) := fun h_ => c93 (by rw [h_]; rfl)
        have c93b3 : ¬ ((t38.length : Int) = 0) := c93
        have hc93 := hid c93
        clear c93
        by_cases c101 : 0 ≤ (Int.tmod (wrap64 (IntKind.u16.wrap (Int.tdiv (nt a0 x18_0.toNat 0) 2))) (t38.length : Int))
        ·
         rw [if_pos c101] at H
         have c101b0 : decide (0 ≤ (Int.tmod (wrap64 (IntKind.u16.wrap (Int.tdiv (nt a0 x18_0.toNat 0) 2))) (t38.length : Int))) = true := decide_eq_true c101
         have hc101 := hid c101
         clear c101
         by_cases c102 : (Int.tmod (wrap64 (IntKind.u16.wrap (Int.tdiv (nt a0 x18_0.toNat 0) 2))) (t38.length : Int)) < (t38.length : Int)
         ·
          rw [if_pos c102] at H
          have c102b0 : decide ((Int.tmod (wrap64 (IntKind.u16.wrap (Int.tdiv (nt a0 x18_0.toNat 0) 2))) (t38.length : Int)) < (t38.length : Int)) = true := decide_eq_true c102
          have hc102 := hid c102
          clear c102
          have H' := hid H
          clear H
          have k105 := True.intro
          go_wp2_with (first
           | ((with_reducible refine gate_d (N := 20) rfl ?_); obtain ⟨ad37, c103, hv104, HCad37_⟩ := Sl.get (l := a0) (f := (Value.int .u16)) (SP0.out.below HL.out) 0 (i := x18_0) hc91.out hc90.out; have HCad37 := hid HCad37_; clear HCad37_; refine ag_fix (.pointer (some (ad37.add x18_0.toNat))) (ex_sat _ _ x18_0 _ _ hv104 hc91.out hc90.out us69 sT71 _ _ rfl rfl rfl) rfl ?_; have HVAad37 := hid hv104; clear hv104)
           | ((with_reducible refine gate_d (N := 21) rfl ?_); refine ag_fix (.int .u16 (nt a0 x18_0.toNat 0)) (ex_scell sT71 _ _ HCad37.out _ rfl rfl) rfl ?_)
           | ((with_reducible refine gate_d (N := 22) rfl ?_); refine ag_fix (.agg (pv yb6_0_0 yb6_1_0 yb6_2_0 yb6_3_0)) (ex_load posT gb6 0 (pv yb6_0_0 yb6_1_0 yb6_2_0 yb6_3_0) (pv yb6_0_0 yb6_1_0 yb6_2_0 yb6_3_0) BKb6.out (xv_le LN_yb6_0_0.out 67 rfl) (xv_ex LN_yb6_0_0.out 67 rfl) _ rfl rfl) rfl ?_)
           | (go_at_call 46; clear k105; refine (i_alfilref11_Moves.calls k89 yb6_0_0 yb6_1_0 yb6_2_0 yb6_3_0 LN_yb6_0_0.out t38 _ A92.out).mono ?_; rintro e_ w106 ⟨ut38, rfl, so_t38, hb_⟩; replace so_t38 := so_t38.mono HL.out.size; have SWn_t38 := hid so_t38; clear so_t38; replace BKb6 := hid (BKb6.out.below hb_ BKb6.out.lt); replace HL := hid (HL.out.trans (hb_.mono HL.out.size)); clear hb_; have SWt38 := SWn_t38; clear SWn_t38)
           | ((with_reducible refine gate_d (N := 25) rfl ?_); obtain ⟨A107, c108, hv109⟩ := SWt38.out.sl.shape; skip; refine ag_fix (.int .i64 (t38.length : Int)) (ex_len us72 _ _ _ _ hv109 _ rfl rfl) rfl ?_; clear hv109)
           | ((with_reducible refine gate_d (N := 32) rfl ?_); obtain ⟨A110, c111, hv112⟩ := SWt38.out.sl.shape; skip; refine ag_fix (.int .i64 (t38.length : Int)) (ex_len us72 _ _ _ _ hv112 _ rfl rfl) rfl ?_; clear hv112)
           | ((with_reducible refine gate_d (N := 34) rfl ?_); obtain ⟨ad39, c113, hv114, HCad39_⟩ := SlN.get (l := t38) (f := en75) en75_len SWt38.out.sl (0, 0, 0) (i := (Int.tmod (wrap64 (IntKind.u16.wrap (Int.tdiv (nt a0 x18_0.toNat 0) 2))) (t38.length : Int))) hc101.out hc102.out; have HCad39 := hid HCad39_; clear HCad39_; refine ag_fix (.pointer (some (ad39.add ((Int.tmod (wrap64 (IntKind.u16.wrap (Int.tdiv (nt a0 x18_0.toNat 0) 2))) (t38.length : Int)).toNat * 3)))) (ex_satN _ _ (Int.tmod (wrap64 (IntKind.u16.wrap (Int.tdiv (nt a0 x18_0.toNat 0) 2))) (t38.length : Int)) _ _ hv114 hc101.out hc102.out us72 aT75.size _ _ rfl rfl rfl) rfl ?_; clear hv114)
           | ((with_reducible refine gate_d (N := 35) rfl ?_); refine ag_fix (.agg #[.int .i64 ((nt t38 ((Int.tmod (wrap64 (IntKind.u16.wrap (Int.tdiv (nt a0 x18_0.toNat 0) 2))) (t38.length : Int)).toNat) (0, 0, 0)).1), .int .i64 ((nt t38 ((Int.tmod (wrap64 (IntKind.u16.wrap (Int.tdiv (nt a0 x18_0.toNat 0) 2))) (t38.length : Int)).toNat) (0, 0, 0)).2.1), .int .i64 ((nt t38 ((Int.tmod (wrap64 (IntKind.u16.wrap (Int.tdiv (nt a0 x18_0.toNat 0) 2))) (t38.length : Int)).toNat) (0, 0, 0)).2.2)]) (ex_ldN aT75 _ (en75 (nt t38 ((Int.tmod (wrap64 (IntKind.u16.wrap (Int.tdiv (nt a0 x18_0.toNat 0) 2))) (t38.length : Int)).toNat) (0, 0, 0))) rfl HCad39.out _ rfl rfl) rfl ?_)
           | ((with_reducible refine gate_d (N := 7) rfl ?_); obtain ⟨gb40, hgb40⟩ : ∃ g_, w106.heap.size = g_ := ⟨_, rfl⟩; refine ag_alst aT75 #[.int .i64 ((nt t38 ((Int.tmod (wrap64 (IntKind.u16.wrap (Int.tdiv (nt a0 x18_0.toNat 0) 2))) (t38.length : Int)).toNat) (0, 0, 0)).1), .int .i64 ((nt t38 ((Int.tmod (wrap64 (IntKind.u16.wrap (Int.tdiv (nt a0 x18_0.toNat 0) 2))) (t38.length : Int)).toNat) (0, 0, 0)).2.1), .int .i64 ((nt t38 ((Int.tmod (wrap64 (IntKind.u16.wrap (Int.tdiv (nt a0 x18_0.toNat 0) 2))) (t38.length : Int)).toNat) (0, 0, 0)).2.2)] gb40 hgb40 rfl (by intro v_ hv_; simp at hv_; rcases hv_ with rfl | rfl | rfl <;> first | rfl) rfl rfl 7 rfl _ _ rfl (fun _ => rfl) (fun _ => rfl) rfl ?_; intro w115 hb_ hB_ hs_; have GEb40 : Hid (w.heap.size ≤ gb40) := hid (by have := HL.out.size; omega); have NBb6_b40 : Hid (gb6 ≠ gb40) := hid (by have := BKb6.out.lt; omega); have NBb40_b6 : Hid (gb40 ≠ gb6) := hid (by have := NBb6_b40.out; omega); replace BKb6 := hid (BKb6.out.below hb_ (by rw [← hgb40]; exact BKb6.out.lt)); replace SWt38 := hid (SWt38.out.below (by rw [hgb40]; exact hb_)); replace HL := hid (HL.out.trans (hb_.mono GEb40.out)); have BKb40 := hid hB_; clear hb_ hB_ hs_ hgb40)
           | ((with_reducible refine gate_d (N := 37) rfl ?_); obtain ⟨A116, c117, hv118⟩ := SWt38.out.sl.shape; skip; refine ag_fix (.int .i64 (t38.length : Int)) (ex_len us72 _ _ _ _ hv118 _ rfl rfl) rfl ?_; clear hv118))
          (try simp only [Act.put, sI, sZ, sS])
          go_loopg [38] k89 (fun kq v38 w' => ∃ (x38_1 : Int), v38 = .int .i64 x38_1 ∧ Hid (i_alfillaw24_CountSound.l1 kq a0 x18_0 yb6_0_0 yb6_1_0 yb6_2_0 yb6_3_0 t38 x38_1 = some r1) ∧ Hid (kq ≤ k89) ∧ Hid (Blk w' gb6 46 (pv yb6_0_0 yb6_1_0 yb6_2_0 yb6_3_0)) ∧ Hid (Blk w' gb40 75 #[.int .i64 ((nt t38 ((Int.tmod (wrap64 (IntKind.u16.wrap (Int.tdiv (nt a0 x18_0.toNat 0) 2))) (t38.length : Int)).toNat) (0, 0, 0)).1), .int .i64 ((nt t38 ((Int.tmod (wrap64 (IntKind.u16.wrap (Int.tdiv (nt a0 x18_0.toNat 0) 2))) (t38.length : Int)).toNat) (0, 0, 0)).2.1), .int .i64 ((nt t38 ((Int.tmod (wrap64 (IntKind.u16.wrap (Int.tdiv (nt a0 x18_0.toNat 0) 2))) (t38.length : Int)).toNat) (0, 0, 0)).2.2)]) ∧ Hid (OwnN w' w.heap.size 75 3 (ut38) t38.length (t38.flatMap en75)) ∧ Hid (Below w.heap.size w w'))
          case atStart => exact ⟨(0 : Int), (by first | rfl | (simp; done) | (simp [*]; done)), H', (hid (by first | omega | (have := HK88.out; omega))), (hid (by exact BKb6.out)), (hid (by exact BKb40.out)), SWt38, HL⟩
          case round =>
           clear H'
           clear HL BKb6 BKb40 SWt38
           obtain ⟨x38_1, rfl, HA, HK119, BKb6, BKb40, SWt38, HL⟩ := hrel
           cases gk with
           | zero => exact absurd HA.out (by simp [i_alfillaw24_CountSound.l1])
           | succ k120 =>
            have H := HA.out
            clear HA
            simp only [i_alfillaw24_CountSound.l1] at H
            by_cases c121 : x38_1 < (t38.length : Int)
            ·
             rw [if_pos c121] at H
             have c121b0 : decide (x38_1 < (t38.length : Int)) = true := decide_eq_true c121
             have hc121 := hid c121
             clear c121
             by_cases c122 : (t38.length : Int) = 0
             ·
              rw [if_pos c122] at H
              exact absurd H (by simp)
             ·
              rw [if_neg c122] at H
              have c122b0 : ((t38.length : Int) == 0) = false := beq_eq_false_iff_ne.mpr c122
              have c122b1 : ((t38.length : Int) != 0) = true := bne_iff_ne.mpr c122
              have c122b2 : ¬ (t38 = []) := fun h_ => c122 (by rw [h_]; rfl)
              have c122b3 : ¬ ((t38.length : Int) = 0) := c122
              have hc122 := hid c122
              clear c122
              by_cases c123 : 0 ≤ (Int.tmod (wrap64 ((wrap64 (IntKind.u16.wrap (Int.tdiv (nt a0 x18_0.toNat 0) 2))) + x38_1)) (t38.length : Int))
              ·
               rw [if_pos c123] at H
               have c123b0 : decide (0 ≤ (Int.tmod (wrap64 ((wrap64 (IntKind.u16.wrap (Int.tdiv (nt a0 x18_0.toNat 0) 2))) + x38_1)) (t38.length : Int))) = true := decide_eq_true c123
               have hc123 := hid c123
               clear c123
               by_cases c124 : (Int.tmod (wrap64 ((wrap64 (IntKind.u16.wrap (Int.tdiv (nt a0 x18_0.toNat 0) 2))) + x38_1)) (t38.length : Int)) < (t38.length : Int)
               ·
                rw [if_pos c124] at H
                have c124b0 : decide ((Int.tmod (wrap64 ((wrap64 (IntKind.u16.wrap (Int.tdiv (nt a0 x18_0.toNat 0) 2))) + x38_1)) (t38.length : Int)) < (t38.length : Int)) = true := decide_eq_true c124
                have hc124 := hid c124
                clear c124
                by_cases c125 : (Int.tmod (nt a0 x18_0.toNat 0) 2) = 1
                ·
                 rw [if_pos c125] at H
                 have c125b0 : ((Int.tmod (nt a0 x18_0.toNat 0) 2) == 1) = true := beq_iff_eq.mpr c125
                 have c125b1 : ((Int.tmod (nt a0 x18_0.toNat 0) 2) != 1) = false := bne_eq_false_iff_eq.mpr c125
                 have hc125 := hid c125
                 clear c125
                 replace H := Option.bind_eq_some_iff.mp H
                 obtain ⟨t56, A126_, H⟩ := H
                 have A126 := hid A126_
                 clear A126_
                 by_cases c127 : t56 ≥ 0
                 ·
                  rw [if_pos c127] at H
                  have c127b0 : decide (0 ≤ t56) = true := decide_eq_true c127
                  have hc127 := hid c127
                  clear c127
                  have H' := hid H
                  clear H
                  have k135 := True.intro
                  go_wp2_with (first
                   | ((with_reducible refine gate_d (N := 48) rfl ?_); obtain ⟨A129, c130, hv131⟩ := SWt38.out.sl.shape; skip; refine ag_fix (.int .i64 (t38.length : Int)) (ex_len us72 _ _ _ _ hv131 _ rfl rfl) rfl ?_; clear hv131)
                   | ((with_reducible refine gate_d (N := 50) rfl ?_); obtain ⟨ad54, c132, hv133, HCad54_⟩ := SlN.get (l := t38) (f := en75) en75_len SWt38.out.sl (0, 0, 0) (i := (Int.tmod (wrap64 ((wrap64 (IntKind.u16.wrap (Int.tdiv (nt a0 x18_0.toNat 0) 2))) + x38_1)) (t38.length : Int))) hc123.out hc124.out; have HCad54 := hid HCad54_; clear HCad54_; refine ag_fix (.pointer (some (ad54.add ((Int.tmod (wrap64 ((wrap64 (IntKind.u16.wrap (Int.tdiv (nt a0 x18_0.toNat 0) 2))) + x38_1)) (t38.length : Int)).toNat * 3)))) (ex_satN _ _ (Int.tmod (wrap64 ((wrap64 (IntKind.u16.wrap (Int.tdiv (nt a0 x18_0.toNat 0) 2))) + x38_1)) (t38.length : Int)) _ _ hv133 hc123.out hc124.out us72 aT75.size _ _ rfl rfl rfl) rfl ?_; clear hv133)
                   | ((with_reducible refine gate_d (N := 51) rfl ?_); refine ag_fix (.agg #[.int .i64 ((nt t38 ((Int.tmod (wrap64 ((wrap64 (IntKind.u16.wrap (Int.tdiv (nt a0 x18_0.toNat 0) 2))) + x38_1)) (t38.length : Int)).toNat) (0, 0, 0)).1), .int .i64 ((nt t38 ((Int.tmod (wrap64 ((wrap64 (IntKind.u16.wrap (Int.tdiv (nt a0 x18_0.toNat 0) 2))) + x38_1)) (t38.length : Int)).toNat) (0, 0, 0)).2.1), .int .i64 ((nt t38 ((Int.tmod (wrap64 ((wrap64 (IntKind.u16.wrap (Int.tdiv (nt a0 x18_0.toNat 0) 2))) + x38_1)) (t38.length : Int)).toNat) (0, 0, 0)).2.2)]) (ex_ldN aT75 _ (en75 (nt t38 ((Int.tmod (wrap64 ((wrap64 (IntKind.u16.wrap (Int.tdiv (nt a0 x18_0.toNat 0) 2))) + x38_1)) (t38.length : Int)).toNat) (0, 0, 0))) rfl HCad54.out _ rfl rfl) rfl ?_)
                   | ((with_reducible refine gate_d (N := 9) rfl ?_); obtain ⟨gb55, hgb55⟩ : ∃ g_, wr.heap.size = g_ := ⟨_, rfl⟩; refine ag_alst aT75 #[.int .i64 ((nt t38 ((Int.tmod (wrap64 ((wrap64 (IntKind.u16.wrap (Int.tdiv (nt a0 x18_0.toNat 0) 2))) + x38_1)) (t38.length : Int)).toNat) (0, 0, 0)).1), .int .i64 ((nt t38 ((Int.tmod (wrap64 ((wrap64 (IntKind.u16.wrap (Int.tdiv (nt a0 x18_0.toNat 0) 2))) + x38_1)) (t38.length : Int)).toNat) (0, 0, 0)).2.1), .int .i64 ((nt t38 ((Int.tmod (wrap64 ((wrap64 (IntKind.u16.wrap (Int.tdiv (nt a0 x18_0.toNat 0) 2))) + x38_1)) (t38.length : Int)).toNat) (0, 0, 0)).2.2)] gb55 hgb55 rfl (by intro v_ hv_; simp at hv_; rcases hv_ with rfl | rfl | rfl <;> first | rfl) rfl rfl 9 rfl _ _ rfl (fun _ => rfl) (fun _ => rfl) rfl ?_; intro w134 hb_ hB_ hs_; have GEb55 : Hid (w.heap.size ≤ gb55) := hid (by have := HL.out.size; omega); have NBb6_b55 : Hid (gb6 ≠ gb55) := hid (by have := BKb6.out.lt; omega); have NBb55_b6 : Hid (gb55 ≠ gb6) := hid (by have := NBb6_b55.out; omega); replace BKb6 := hid (BKb6.out.below hb_ (by rw [← hgb55]; exact BKb6.out.lt)); have NBb40_b55 : Hid (gb40 ≠ gb55) := hid (by have := BKb40.out.lt; omega); have NBb55_b40 : Hid (gb55 ≠ gb40) := hid (by have := NBb40_b55.out; omega); replace BKb40 := hid (BKb40.out.below hb_ (by rw [← hgb55]; exact BKb40.out.lt)); replace SWt38 := hid (SWt38.out.below (by rw [hgb55]; exact hb_)); replace HL := hid (HL.out.trans (hb_.mono GEb55.out)); have BKb55 := hid hB_; clear hb_ hB_ hs_ hgb55)
                   | ((with_reducible refine gate_d (N := 56) rfl ?_); refine ag_fix (.agg (pv yb6_0_0 yb6_1_0 yb6_2_0 yb6_3_0)) (ex_load posT gb6 0 (pv yb6_0_0 yb6_1_0 yb6_2_0 yb6_3_0) (pv yb6_0_0 yb6_1_0 yb6_2_0 yb6_3_0) BKb6.out (xv_le LN_yb6_0_0.out 67 rfl) (xv_ex LN_yb6_0_0.out 67 rfl) _ rfl rfl) rfl ?_)
                   | ((with_reducible refine gate_d (N := 57) rfl ?_); refine ag_fix (.agg #[.int .i64 ((nt t38 ((Int.tmod (wrap64 ((wrap64 (IntKind.u16.wrap (Int.tdiv (nt a0 x18_0.toNat 0) 2))) + x38_1)) (t38.length : Int)).toNat) (0, 0, 0)).1), .int .i64 ((nt t38 ((Int.tmod (wrap64 ((wrap64 (IntKind.u16.wrap (Int.tdiv (nt a0 x18_0.toNat 0) 2))) + x38_1)) (t38.length : Int)).toNat) (0, 0, 0)).2.1), .int .i64 ((nt t38 ((Int.tmod (wrap64 ((wrap64 (IntKind.u16.wrap (Int.tdiv (nt a0 x18_0.toNat 0) 2))) + x38_1)) (t38.length : Int)).toNat) (0, 0, 0)).2.2)]) (ex_load aT75 gb55 0 #[.int .i64 ((nt t38 ((Int.tmod (wrap64 ((wrap64 (IntKind.u16.wrap (Int.tdiv (nt a0 x18_0.toNat 0) 2))) + x38_1)) (t38.length : Int)).toNat) (0, 0, 0)).1), .int .i64 ((nt t38 ((Int.tmod (wrap64 ((wrap64 (IntKind.u16.wrap (Int.tdiv (nt a0 x18_0.toNat 0) 2))) + x38_1)) (t38.length : Int)).toNat) (0, 0, 0)).2.1), .int .i64 ((nt t38 ((Int.tmod (wrap64 ((wrap64 (IntKind.u16.wrap (Int.tdiv (nt a0 x18_0.toNat 0) 2))) + x38_1)) (t38.length : Int)).toNat) (0, 0, 0)).2.2)] #[.int .i64 ((nt t38 ((Int.tmod (wrap64 ((wrap64 (IntKind.u16.wrap (Int.tdiv (nt a0 x18_0.toNat 0) 2))) + x38_1)) (t38.length : Int)).toNat) (0, 0, 0)).1), .int .i64 ((nt t38 ((Int.tmod (wrap64 ((wrap64 (IntKind.u16.wrap (Int.tdiv (nt a0 x18_0.toNat 0) 2))) + x38_1)) (t38.length : Int)).toNat) (0, 0, 0)).2.1), .int .i64 ((nt t38 ((Int.tmod (wrap64 ((wrap64 (IntKind.u16.wrap (Int.tdiv (nt a0 x18_0.toNat 0) 2))) + x38_1)) (t38.length : Int)).toNat) (0, 0, 0)).2.2)] BKb55.out (by simp) rfl _ rfl rfl) rfl ?_)
                   | (go_at_call 47; clear k135; refine (i_alfilref09_Takes.calls k120 yb6_0_0 yb6_1_0 yb6_2_0 yb6_3_0 ((nt t38 ((Int.tmod (wrap64 ((wrap64 (IntKind.u16.wrap (Int.tdiv (nt a0 x18_0.toNat 0) 2))) + x38_1)) (t38.length : Int)).toNat) (0, 0, 0)).1) ((nt t38 ((Int.tmod (wrap64 ((wrap64 (IntKind.u16.wrap (Int.tdiv (nt a0 x18_0.toNat 0) 2))) + x38_1)) (t38.length : Int)).toNat) (0, 0, 0)).2.1) ((nt t38 ((Int.tmod (wrap64 ((wrap64 (IntKind.u16.wrap (Int.tdiv (nt a0 x18_0.toNat 0) 2))) + x38_1)) (t38.length : Int)).toNat) (0, 0, 0)).2.2) LN_yb6_0_0.out t56 _ A126.out).mono ?_; rintro e_ w136 ⟨rfl, hb_⟩; replace BKb6 := hid (BKb6.out.below hb_ BKb6.out.lt); replace BKb40 := hid (BKb40.out.below hb_ BKb40.out.lt); replace BKb55 := hid (BKb55.out.below hb_ BKb55.out.lt); replace SWt38 := hid (SWt38.out.below hb_); replace HL := hid (HL.out.trans (hb_.mono HL.out.size)); clear hb_)
                   | ((with_reducible refine gate_d (N := 61) rfl ?_); refine ag_fix (.agg #[.int .i64 ((nt t38 ((Int.tmod (wrap64 ((wrap64 (IntKind.u16.wrap (Int.tdiv (nt a0 x18_0.toNat 0) 2))) + x38_1)) (t38.length : Int)).toNat) (0, 0, 0)).1), .int .i64 ((nt t38 ((Int.tmod (wrap64 ((wrap64 (IntKind.u16.wrap (Int.tdiv (nt a0 x18_0.toNat 0) 2))) + x38_1)) (t38.length : Int)).toNat) (0, 0, 0)).2.1), .int .i64 ((nt t38 ((Int.tmod (wrap64 ((wrap64 (IntKind.u16.wrap (Int.tdiv (nt a0 x18_0.toNat 0) 2))) + x38_1)) (t38.length : Int)).toNat) (0, 0, 0)).2.2)]) (ex_load aT75 gb55 0 #[.int .i64 ((nt t38 ((Int.tmod (wrap64 ((wrap64 (IntKind.u16.wrap (Int.tdiv (nt a0 x18_0.toNat 0) 2))) + x38_1)) (t38.length : Int)).toNat) (0, 0, 0)).1), .int .i64 ((nt t38 ((Int.tmod (wrap64 ((wrap64 (IntKind.u16.wrap (Int.tdiv (nt a0 x18_0.toNat 0) 2))) + x38_1)) (t38.length : Int)).toNat) (0, 0, 0)).2.1), .int .i64 ((nt t38 ((Int.tmod (wrap64 ((wrap64 (IntKind.u16.wrap (Int.tdiv (nt a0 x18_0.toNat 0) 2))) + x38_1)) (t38.length : Int)).toNat) (0, 0, 0)).2.2)] #[.int .i64 ((nt t38 ((Int.tmod (wrap64 ((wrap64 (IntKind.u16.wrap (Int.tdiv (nt a0 x18_0.toNat 0) 2))) + x38_1)) (t38.length : Int)).toNat) (0, 0, 0)).1), .int .i64 ((nt t38 ((Int.tmod (wrap64 ((wrap64 (IntKind.u16.wrap (Int.tdiv (nt a0 x18_0.toNat 0) 2))) + x38_1)) (t38.length : Int)).toNat) (0, 0, 0)).2.1), .int .i64 ((nt t38 ((Int.tmod (wrap64 ((wrap64 (IntKind.u16.wrap (Int.tdiv (nt a0 x18_0.toNat 0) 2))) + x38_1)) (t38.length : Int)).toNat) (0, 0, 0)).2.2)] BKb55.out (by simp) rfl _ rfl rfl) rfl ?_)
                   | ((with_reducible refine gate_s (t := 75) (p := 7) rfl ?_); refine ag_store aT75 gb40 0 #[.int .i64 ((nt t38 ((Int.tmod (wrap64 (IntKind.u16.wrap (Int.tdiv (nt a0 x18_0.toNat 0) 2))) (t38.length : Int)).toNat) (0, 0, 0)).1), .int .i64 ((nt t38 ((Int.tmod (wrap64 (IntKind.u16.wrap (Int.tdiv (nt a0 x18_0.toNat 0) 2))) (t38.length : Int)).toNat) (0, 0, 0)).2.1), .int .i64 ((nt t38 ((Int.tmod (wrap64 (IntKind.u16.wrap (Int.tdiv (nt a0 x18_0.toNat 0) 2))) (t38.length : Int)).toNat) (0, 0, 0)).2.2)] #[.int .i64 ((nt t38 ((Int.tmod (wrap64 ((wrap64 (IntKind.u16.wrap (Int.tdiv (nt a0 x18_0.toNat 0) 2))) + x38_1)) (t38.length : Int)).toNat) (0, 0, 0)).1), .int .i64 ((nt t38 ((Int.tmod (wrap64 ((wrap64 (IntKind.u16.wrap (Int.tdiv (nt a0 x18_0.toNat 0) 2))) + x38_1)) (t38.length : Int)).toNat) (0, 0, 0)).2.1), .int .i64 ((nt t38 ((Int.tmod (wrap64 ((wrap64 (IntKind.u16.wrap (Int.tdiv (nt a0 x18_0.toNat 0) 2))) + x38_1)) (t38.length : Int)).toNat) (0, 0, 0)).2.2)] #[.int .i64 ((nt t38 ((Int.tmod (wrap64 ((wrap64 (IntKind.u16.wrap (Int.tdiv (nt a0 x18_0.toNat 0) 2))) + x38_1)) (t38.length : Int)).toNat) (0, 0, 0)).1), .int .i64 ((nt t38 ((Int.tmod (wrap64 ((wrap64 (IntKind.u16.wrap (Int.tdiv (nt a0 x18_0.toNat 0) 2))) + x38_1)) (t38.length : Int)).toNat) (0, 0, 0)).2.1), .int .i64 ((nt t38 ((Int.tmod (wrap64 ((wrap64 (IntKind.u16.wrap (Int.tdiv (nt a0 x18_0.toNat 0) 2))) + x38_1)) (t38.length : Int)).toNat) (0, 0, 0)).2.2)] BKb40.out rfl (by simp) (by intro v_ hv_; simp at hv_; rcases hv_ with rfl | rfl | rfl <;> first | rfl) rfl rfl _ _ rfl rfl rfl ?_; intro w137 ho_ hB_; replace BKb6 := hid (BKb6.out.off ho_ NBb6_b40.out); replace BKb55 := hid (BKb55.out.off ho_ NBb55_b40.out); clear SWt38; replace HL := hid (ho_.below HL.out GEb40.out); replace BKb40 := hid hB_; clear ho_ hB_)
                   | ((with_reducible refine gate_d (N := 63) rfl ?_); refine ag_fix (.agg (pv yb6_0_0 yb6_1_0 yb6_2_0 yb6_3_0)) (ex_load posT gb6 0 (pv yb6_0_0 yb6_1_0 yb6_2_0 yb6_3_0) (pv yb6_0_0 yb6_1_0 yb6_2_0 yb6_3_0) BKb6.out (xv_le LN_yb6_0_0.out 67 rfl) (xv_ex LN_yb6_0_0.out 67 rfl) _ rfl rfl) rfl ?_)
                   | ((with_reducible refine gate_d (N := 64) rfl ?_); refine ag_fix (.agg #[.int .i64 ((nt t38 ((Int.tmod (wrap64 ((wrap64 (IntKind.u16.wrap (Int.tdiv (nt a0 x18_0.toNat 0) 2))) + x38_1)) (t38.length : Int)).toNat) (0, 0, 0)).1), .int .i64 ((nt t38 ((Int.tmod (wrap64 ((wrap64 (IntKind.u16.wrap (Int.tdiv (nt a0 x18_0.toNat 0) 2))) + x38_1)) (t38.length : Int)).toNat) (0, 0, 0)).2.1), .int .i64 ((nt t38 ((Int.tmod (wrap64 ((wrap64 (IntKind.u16.wrap (Int.tdiv (nt a0 x18_0.toNat 0) 2))) + x38_1)) (t38.length : Int)).toNat) (0, 0, 0)).2.2)]) (ex_load aT75 gb40 0 #[.int .i64 ((nt t38 ((Int.tmod (wrap64 ((wrap64 (IntKind.u16.wrap (Int.tdiv (nt a0 x18_0.toNat 0) 2))) + x38_1)) (t38.length : Int)).toNat) (0, 0, 0)).1), .int .i64 ((nt t38 ((Int.tmod (wrap64 ((wrap64 (IntKind.u16.wrap (Int.tdiv (nt a0 x18_0.toNat 0) 2))) + x38_1)) (t38.length : Int)).toNat) (0, 0, 0)).2.1), .int .i64 ((nt t38 ((Int.tmod (wrap64 ((wrap64 (IntKind.u16.wrap (Int.tdiv (nt a0 x18_0.toNat 0) 2))) + x38_1)) (t38.length : Int)).toNat) (0, 0, 0)).2.2)] #[.int .i64 ((nt t38 ((Int.tmod (wrap64 ((wrap64 (IntKind.u16.wrap (Int.tdiv (nt a0 x18_0.toNat 0) 2))) + x38_1)) (t38.length : Int)).toNat) (0, 0, 0)).1), .int .i64 ((nt t38 ((Int.tmod (wrap64 ((wrap64 (IntKind.u16.wrap (Int.tdiv (nt a0 x18_0.toNat 0) 2))) + x38_1)) (t38.length : Int)).toNat) (0, 0, 0)).2.1), .int .i64 ((nt t38 ((Int.tmod (wrap64 ((wrap64 (IntKind.u16.wrap (Int.tdiv (nt a0 x18_0.toNat 0) 2))) + x38_1)) (t38.length : Int)).toNat) (0, 0, 0)).2.2)] BKb40.out (by simp) rfl _ rfl rfl) rfl ?_))
                  (try simp only [Act.put, sI, sZ, sS])
                  have H := H'.out
                  clear H'
                  replace H := Option.bind_eq_some_iff.mp H
                  obtain ⟨⟨t57, t58, t59, t60⟩, A128_, H⟩ := H
                  dsimp only at H
                  have A128 := hid A128_
                  clear A128_
                  have H' := hid H
                  clear H
                  have k139 := True.intro
                  go_wp2_with (first
                   | (go_at_call 48; clear k139; refine (i_alfilref09_Behind.calls k120 yb6_0_0 yb6_1_0 yb6_2_0 yb6_3_0 ((nt t38 ((Int.tmod (wrap64 ((wrap64 (IntKind.u16.wrap (Int.tdiv (nt a0 x18_0.toNat 0) 2))) + x38_1)) (t38.length : Int)).toNat) (0, 0, 0)).1) ((nt t38 ((Int.tmod (wrap64 ((wrap64 (IntKind.u16.wrap (Int.tdiv (nt a0 x18_0.toNat 0) 2))) + x38_1)) (t38.length : Int)).toNat) (0, 0, 0)).2.1) ((nt t38 ((Int.tmod (wrap64 ((wrap64 (IntKind.u16.wrap (Int.tdiv (nt a0 x18_0.toNat 0) 2))) + x38_1)) (t38.length : Int)).toNat) (0, 0, 0)).2.2) LN_yb6_0_0.out t57 t58 t59 t60 _ A128.out).mono ?_; rintro e_ w140 ⟨rfl, ln_t57, hb_⟩; have LN_t57 := hid ln_t57; clear ln_t57; replace BKb6 := hid (BKb6.out.below hb_ BKb6.out.lt); replace BKb40 := hid (BKb40.out.below hb_ BKb40.out.lt); replace BKb55 := hid (BKb55.out.below hb_ BKb55.out.lt); replace HL := hid (HL.out.trans (hb_.mono HL.out.size)); clear hb_)
                   | ((with_reducible refine gate_s (t := 46) (p := 3) rfl ?_); refine ag_store posT gb6 0 (pv yb6_0_0 yb6_1_0 yb6_2_0 yb6_3_0) (pv t57 t58 t59 t60) (pv t57 t58 t59 t60) BKb6.out (by rw [show (pv t57 t58 t59 t60) = xv (Value.int .i8) t57 [.int .i64 t58, .int .i64 t59, .int .i64 t60] from rfl, xv_size, show t57.length = 64 from LN_t57.out]; rfl) (xv_le LN_yb6_0_0.out 67 rfl) (xv_one (fun _ => rfl) (by intro v_ hv_; simp at hv_; rcases hv_ with rfl | rfl | rfl <;> rfl)) (xv_put LN_yb6_0_0.out LN_t57.out rfl) rfl _ _ rfl rfl rfl ?_; intro w141 ho_ hB_; replace BKb40 := hid (BKb40.out.off ho_ NBb40_b6.out); replace BKb55 := hid (BKb55.out.off ho_ NBb55_b6.out); replace HL := hid (ho_.below HL.out GEb6.out); replace BKb6 := hid hB_; clear ho_ hB_)
                   | ((with_reducible refine gate_d (N := 66) rfl ?_); refine ag_fix (.pointer (some ⟨gb6, 0, none⟩)) (ex_field 46 0 (.pointer (some ⟨gb6, 0, none⟩)) (.pointer (some ⟨gb6, 0, none⟩)) (fa46_0_0 gb6) _ rfl rfl) rfl ?_)
                   | ((with_reducible refine gate_d (N := 67) rfl ?_); refine ag_fix (.agg (bv t57)) (ex_load boardT gb6 0 (pv t57 t58 t59 t60) (bv t57) BKb6.out (xv_lea LN_t57.out) (xv_exa LN_t57.out) _ rfl rfl) rfl ?_))
                  (try simp only [Act.put, sI, sZ, sS])
                  have H := H'.out
                  clear H'
                  replace H := Option.bind_eq_some_iff.mp H
                  obtain ⟨t61, A138_, H⟩ := H
                  have A138 := hid A138_
                  clear A138_
                  cases t61 with
                  | true =>
                   rw [if_pos rfl] at H
                   obtain rfl := Option.some.inj H
                   clear H
                   have k143 := True.intro
                   go_wp2_with (first
                    | (go_at_call 39; clear k143; refine (i_count_Illegal.calls k120 t57 LN_t57.out true _ A138.out).mono ?_; rintro e_ w144 ⟨rfl, hb_⟩; replace BKb6 := hid (BKb6.out.below hb_ BKb6.out.lt); replace BKb40 := hid (BKb40.out.below hb_ BKb40.out.lt); replace BKb55 := hid (BKb55.out.below hb_ BKb55.out.lt); replace HL := hid (HL.out.trans (hb_.mono HL.out.size)); clear hb_))
                   (try simp only [Act.put, sI, sZ, sS])
                   go_ret
                   exact ⟨by first | rfl | (simp; done) | (simp [*]; done), HL.out⟩
                  | false =>
                   rw [if_neg (show ¬ (false = true) by decide)] at H
                   have H' := hid H
                   clear H
                   have k145 := True.intro
                   go_wp2_with (first
                    | (go_at_call 39; clear k145; refine (i_count_Illegal.calls k120 t57 LN_t57.out false _ A138.out).mono ?_; rintro e_ w146 ⟨rfl, hb_⟩; replace BKb6 := hid (BKb6.out.below hb_ BKb6.out.lt); replace BKb40 := hid (BKb40.out.below hb_ BKb40.out.lt); replace BKb55 := hid (BKb55.out.below hb_ BKb55.out.lt); replace HL := hid (HL.out.trans (hb_.mono HL.out.size)); clear hb_))
                   (try simp only [Act.put, sI, sZ, sS])
                   go_roundg k120
                   case measure => have := HK88.out; have := HK119.out; omega
                   case rel => exact ⟨wrap64 (x18_0 + 1), t57, t58, t59, t60, (by first | rfl | (simp; done) | (simp [*]; done)), H', (hid (by first | omega | (have := HK88.out; have := HK119.out; omega))), (hid (by first | rfl | (simp only [List.length_set, List.length_replicate, zL_len, List.length_cons, List.length_nil, LN_t2.out, LN_yb6_0_0.out, LN_t57.out]; done) | (simp [zL_len, LN_t2.out, LN_yb6_0_0.out, LN_t57.out]; done))), (hid (by exact BKb6.out)), HL⟩
                 ·
                  rw [if_neg c127] at H
                  have c127b0 : decide (0 ≤ t56) = false := decide_eq_false c127
                  have hc127 := hid c127
                  clear c127
                  have H' := hid H
                  clear H
                  have k153 := True.intro
                  go_wp2_with (first
                   | ((with_reducible refine gate_d (N := 48) rfl ?_); obtain ⟨A147, c148, hv149⟩ := SWt38.out.sl.shape; skip; refine ag_fix (.int .i64 (t38.length : Int)) (ex_len us72 _ _ _ _ hv149 _ rfl rfl) rfl ?_; clear hv149)
                   | ((with_reducible refine gate_d (N := 50) rfl ?_); obtain ⟨ad54, c150, hv151, HCad54_⟩ := SlN.get (l := t38) (f := en75) en75_len SWt38.out.sl (0, 0, 0) (i := (Int.tmod (wrap64 ((wrap64 (IntKind.u16.wrap (Int.tdiv (nt a0 x18_0.toNat 0) 2))) + x38_1)) (t38.length : Int))) hc123.out hc124.out; have HCad54 := hid HCad54_; clear HCad54_; refine ag_fix (.pointer (some (ad54.add ((Int.tmod (wrap64 ((wrap64 (IntKind.u16.wrap (Int.tdiv (nt a0 x18_0.toNat 0) 2))) + x38_1)) (t38.length : Int)).toNat * 3)))) (ex_satN _ _ (Int.tmod (wrap64 ((wrap64 (IntKind.u16.wrap (Int.tdiv (nt a0 x18_0.toNat 0) 2))) + x38_1)) (t38.length : Int)) _ _ hv151 hc123.out hc124.out us72 aT75.size _ _ rfl rfl rfl) rfl ?_; clear hv151)
                   | ((with_reducible refine gate_d (N := 51) rfl ?_); refine ag_fix (.agg #[.int .i64 ((nt t38 ((Int.tmod (wrap64 ((wrap64 (IntKind.u16.wrap (Int.tdiv (nt a0 x18_0.toNat 0) 2))) + x38_1)) (t38.length : Int)).toNat) (0, 0, 0)).1), .int .i64 ((nt t38 ((Int.tmod (wrap64 ((wrap64 (IntKind.u16.wrap (Int.tdiv (nt a0 x18_0.toNat 0) 2))) + x38_1)) (t38.length : Int)).toNat) (0, 0, 0)).2.1), .int .i64 ((nt t38 ((Int.tmod (wrap64 ((wrap64 (IntKind.u16.wrap (Int.tdiv (nt a0 x18_0.toNat 0) 2))) + x38_1)) (t38.length : Int)).toNat) (0, 0, 0)).2.2)]) (ex_ldN aT75 _ (en75 (nt t38 ((Int.tmod (wrap64 ((wrap64 (IntKind.u16.wrap (Int.tdiv (nt a0 x18_0.toNat 0) 2))) + x38_1)) (t38.length : Int)).toNat) (0, 0, 0))) rfl HCad54.out _ rfl rfl) rfl ?_)
                   | ((with_reducible refine gate_d (N := 9) rfl ?_); obtain ⟨gb55, hgb55⟩ : ∃ g_, wr.heap.size = g_ := ⟨_, rfl⟩; refine ag_alst aT75 #[.int .i64 ((nt t38 ((Int.tmod (wrap64 ((wrap64 (IntKind.u16.wrap (Int.tdiv (nt a0 x18_0.toNat 0) 2))) + x38_1)) (t38.length : Int)).toNat) (0, 0, 0)).1), .int .i64 ((nt t38 ((Int.tmod (wrap64 ((wrap64 (IntKind.u16.wrap (Int.tdiv (nt a0 x18_0.toNat 0) 2))) + x38_1)) (t38.length : Int)).toNat) (0, 0, 0)).2.1), .int .i64 ((nt t38 ((Int.tmod (wrap64 ((wrap64 (IntKind.u16.wrap (Int.tdiv (nt a0 x18_0.toNat 0) 2))) + x38_1)) (t38.length : Int)).toNat) (0, 0, 0)).2.2)] gb55 hgb55 rfl (by intro v_ hv_; simp at hv_; rcases hv_ with rfl | rfl | rfl <;> first | rfl) rfl rfl 9 rfl _ _ rfl (fun _ => rfl) (fun _ => rfl) rfl ?_; intro w152 hb_ hB_ hs_; have GEb55 : Hid (w.heap.size ≤ gb55) := hid (by have := HL.out.size; omega); have NBb6_b55 : Hid (gb6 ≠ gb55) := hid (by have := BKb6.out.lt; omega); have NBb55_b6 : Hid (gb55 ≠ gb6) := hid (by have := NBb6_b55.out; omega); replace BKb6 := hid (BKb6.out.below hb_ (by rw [← hgb55]; exact BKb6.out.lt)); have NBb40_b55 : Hid (gb40 ≠ gb55) := hid (by have := BKb40.out.lt; omega); have NBb55_b40 : Hid (gb55 ≠ gb40) := hid (by have := NBb40_b55.out; omega); replace BKb40 := hid (BKb40.out.below hb_ (by rw [← hgb55]; exact BKb40.out.lt)); replace SWt38 := hid (SWt38.out.below (by rw [hgb55]; exact hb_)); replace HL := hid (HL.out.trans (hb_.mono GEb55.out)); have BKb55 := hid hB_; clear hb_ hB_ hs_ hgb55)
                   | ((with_reducible refine gate_d (N := 56) rfl ?_); refine ag_fix (.agg (pv yb6_0_0 yb6_1_0 yb6_2_0 yb6_3_0)) (ex_load posT gb6 0 (pv yb6_0_0 yb6_1_0 yb6_2_0 yb6_3_0) (pv yb6_0_0 yb6_1_0 yb6_2_0 yb6_3_0) BKb6.out (xv_le LN_yb6_0_0.out 67 rfl) (xv_ex LN_yb6_0_0.out 67 rfl) _ rfl rfl) rfl ?_)
                   | ((with_reducible refine gate_d (N := 57) rfl ?_); refine ag_fix (.agg #[.int .i64 ((nt t38 ((Int.tmod (wrap64 ((wrap64 (IntKind.u16.wrap (Int.tdiv (nt a0 x18_0.toNat 0) 2))) + x38_1)) (t38.length : Int)).toNat) (0, 0, 0)).1), .int .i64 ((nt t38 ((Int.tmod (wrap64 ((wrap64 (IntKind.u16.wrap (Int.tdiv (nt a0 x18_0.toNat 0) 2))) + x38_1)) (t38.length : Int)).toNat) (0, 0, 0)).2.1), .int .i64 ((nt t38 ((Int.tmod (wrap64 ((wrap64 (IntKind.u16.wrap (Int.tdiv (nt a0 x18_0.toNat 0) 2))) + x38_1)) (t38.length : Int)).toNat) (0, 0, 0)).2.2)]) (ex_load aT75 gb55 0 #[.int .i64 ((nt t38 ((Int.tmod (wrap64 ((wrap64 (IntKind.u16.wrap (Int.tdiv (nt a0 x18_0.toNat 0) 2))) + x38_1)) (t38.length : Int)).toNat) (0, 0, 0)).1), .int .i64 ((nt t38 ((Int.tmod (wrap64 ((wrap64 (IntKind.u16.wrap (Int.tdiv (nt a0 x18_0.toNat 0) 2))) + x38_1)) (t38.length : Int)).toNat) (0, 0, 0)).2.1), .int .i64 ((nt t38 ((Int.tmod (wrap64 ((wrap64 (IntKind.u16.wrap (Int.tdiv (nt a0 x18_0.toNat 0) 2))) + x38_1)) (t38.length : Int)).toNat) (0, 0, 0)).2.2)] #[.int .i64 ((nt t38 ((Int.tmod (wrap64 ((wrap64 (IntKind.u16.wrap (Int.tdiv (nt a0 x18_0.toNat 0) 2))) + x38_1)) (t38.length : Int)).toNat) (0, 0, 0)).1), .int .i64 ((nt t38 ((Int.tmod (wrap64 ((wrap64 (IntKind.u16.wrap (Int.tdiv (nt a0 x18_0.toNat 0) 2))) + x38_1)) (t38.length : Int)).toNat) (0, 0, 0)).2.1), .int .i64 ((nt t38 ((Int.tmod (wrap64 ((wrap64 (IntKind.u16.wrap (Int.tdiv (nt a0 x18_0.toNat 0) 2))) + x38_1)) (t38.length : Int)).toNat) (0, 0, 0)).2.2)] BKb55.out (by simp) rfl _ rfl rfl) rfl ?_)
                   | (go_at_call 47; clear k153; refine (i_alfilref09_Takes.calls k120 yb6_0_0 yb6_1_0 yb6_2_0 yb6_3_0 ((nt t38 ((Int.tmod (wrap64 ((wrap64 (IntKind.u16.wrap (Int.tdiv (nt a0 x18_0.toNat 0) 2))) + x38_1)) (t38.length : Int)).toNat) (0, 0, 0)).1) ((nt t38 ((Int.tmod (wrap64 ((wrap64 (IntKind.u16.wrap (Int.tdiv (nt a0 x18_0.toNat 0) 2))) + x38_1)) (t38.length : Int)).toNat) (0, 0, 0)).2.1) ((nt t38 ((Int.tmod (wrap64 ((wrap64 (IntKind.u16.wrap (Int.tdiv (nt a0 x18_0.toNat 0) 2))) + x38_1)) (t38.length : Int)).toNat) (0, 0, 0)).2.2) LN_yb6_0_0.out t56 _ A126.out).mono ?_; rintro e_ w154 ⟨rfl, hb_⟩; replace BKb6 := hid (BKb6.out.below hb_ BKb6.out.lt); replace BKb40 := hid (BKb40.out.below hb_ BKb40.out.lt); replace BKb55 := hid (BKb55.out.below hb_ BKb55.out.lt); replace SWt38 := hid (SWt38.out.below hb_); replace HL := hid (HL.out.trans (hb_.mono HL.out.size)); clear hb_))
                  (try simp only [Act.put, sI, sZ, sS])
                  go_roundg k120
                  case measure => have := HK88.out; have := HK119.out; omega
                  case rel => exact ⟨wrap64 (x38_1 + 1), (by first | rfl | (simp; done) | (simp [*]; done)), H', (hid (by first | omega | (have := HK88.out; have := HK119.out; omega))), (hid (by exact BKb6.out)), (hid (by exact BKb40.out)), SWt38, HL⟩
                ·
                 rw [if_neg c125] at H
                 have c125b0 : ((Int.tmod (nt a0 x18_0.toNat 0) 2) == 1) = false := beq_eq_false_iff_ne.mpr c125
                 have c125b1 : ((Int.tmod (nt a0 x18_0.toNat 0) 2) != 1) = true := bne_iff_ne.mpr c125
                 have hc125 := hid c125
                 clear c125
                 have H' := hid H
                 clear H
                 go_wp2_with (first
                  | ((with_reducible refine gate_d (N := 48) rfl ?_); obtain ⟨A155, c156, hv157⟩ := SWt38.out.sl.shape; skip; refine ag_fix (.int .i64 (t38.length : Int)) (ex_len us72 _ _ _ _ hv157 _ rfl rfl) rfl ?_; clear hv157)
                  | ((with_reducible refine gate_d (N := 50) rfl ?_); obtain ⟨ad54, c158, hv159, HCad54_⟩ := SlN.get (l := t38) (f := en75) en75_len SWt38.out.sl (0, 0, 0) (i := (Int.tmod (wrap64 ((wrap64 (IntKind.u16.wrap (Int.tdiv (nt a0 x18_0.toNat 0) 2))) + x38_1)) (t38.length : Int))) hc123.out hc124.out; have HCad54 := hid HCad54_; clear HCad54_; refine ag_fix (.pointer (some (ad54.add ((Int.tmod (wrap64 ((wrap64 (IntKind.u16.wrap (Int.tdiv (nt a0 x18_0.toNat 0) 2))) + x38_1)) (t38.length : Int)).toNat * 3)))) (ex_satN _ _ (Int.tmod (wrap64 ((wrap64 (IntKind.u16.wrap (Int.tdiv (nt a0 x18_0.toNat 0) 2))) + x38_1)) (t38.length : Int)) _ _ hv159 hc123.out hc124.out us72 aT75.size _ _ rfl rfl rfl) rfl ?_; clear hv159)
                  | ((with_reducible refine gate_d (N := 51) rfl ?_); refine ag_fix (.agg #[.int .i64 ((nt t38 ((Int.tmod (wrap64 ((wrap64 (IntKind.u16.wrap (Int.tdiv (nt a0 x18_0.toNat 0) 2))) + x38_1)) (t38.length : Int)).toNat) (0, 0, 0)).1), .int .i64 ((nt t38 ((Int.tmod (wrap64 ((wrap64 (IntKind.u16.wrap (Int.tdiv (nt a0 x18_0.toNat 0) 2))) + x38_1)) (t38.length : Int)).toNat) (0, 0, 0)).2.1), .int .i64 ((nt t38 ((Int.tmod (wrap64 ((wrap64 (IntKind.u16.wrap (Int.tdiv (nt a0 x18_0.toNat 0) 2))) + x38_1)) (t38.length : Int)).toNat) (0, 0, 0)).2.2)]) (ex_ldN aT75 _ (en75 (nt t38 ((Int.tmod (wrap64 ((wrap64 (IntKind.u16.wrap (Int.tdiv (nt a0 x18_0.toNat 0) 2))) + x38_1)) (t38.length : Int)).toNat) (0, 0, 0))) rfl HCad54.out _ rfl rfl) rfl ?_)
                  | ((with_reducible refine gate_d (N := 9) rfl ?_); obtain ⟨gb55, hgb55⟩ : ∃ g_, wr.heap.size = g_ := ⟨_, rfl⟩; refine ag_alst aT75 #[.int .i64 ((nt t38 ((Int.tmod (wrap64 ((wrap64 (IntKind.u16.wrap (Int.tdiv (nt a0 x18_0.toNat 0) 2))) + x38_1)) (t38.length : Int)).toNat) (0, 0, 0)).1), .int .i64 ((nt t38 ((Int.tmod (wrap64 ((wrap64 (IntKind.u16.wrap (Int.tdiv (nt a0 x18_0.toNat 0) 2))) + x38_1)) (t38.length : Int)).toNat) (0, 0, 0)).2.1), .int .i64 ((nt t38 ((Int.tmod (wrap64 ((wrap64 (IntKind.u16.wrap (Int.tdiv (nt a0 x18_0.toNat 0) 2))) + x38_1)) (t38.length : Int)).toNat) (0, 0, 0)).2.2)] gb55 hgb55 rfl (by intro v_ hv_; simp at hv_; rcases hv_ with rfl | rfl | rfl <;> first | rfl) rfl rfl 9 rfl _ _ rfl (fun _ => rfl) (fun _ => rfl) rfl ?_; intro w160 hb_ hB_ hs_; have GEb55 : Hid (w.heap.size ≤ gb55) := hid (by have := HL.out.size; omega); have NBb6_b55 : Hid (gb6 ≠ gb55) := hid (by have := BKb6.out.lt; omega); have NBb55_b6 : Hid (gb55 ≠ gb6) := hid (by have := NBb6_b55.out; omega); replace BKb6 := hid (BKb6.out.below hb_ (by rw [← hgb55]; exact BKb6.out.lt)); have NBb40_b55 : Hid (gb40 ≠ gb55) := hid (by have := BKb40.out.lt; omega); have NBb55_b40 : Hid (gb55 ≠ gb40) := hid (by have := NBb40_b55.out; omega); replace BKb40 := hid (BKb40.out.below hb_ (by rw [← hgb55]; exact BKb40.out.lt)); replace SWt38 := hid (SWt38.out.below (by rw [hgb55]; exact hb_)); replace HL := hid (HL.out.trans (hb_.mono GEb55.out)); have BKb55 := hid hB_; clear hb_ hB_ hs_ hgb55))
                 (try simp only [Act.put, sI, sZ, sS])
                 go_roundg k120
                 case measure => have := HK88.out; have := HK119.out; omega
                 case rel => exact ⟨wrap64 (x38_1 + 1), (by first | rfl | (simp; done) | (simp [*]; done)), H', (hid (by first | omega | (have := HK88.out; have := HK119.out; omega))), (hid (by exact BKb6.out)), (hid (by exact BKb40.out)), SWt38, HL⟩
               ·
                rw [if_neg c124] at H
                exact absurd H (by simp)
              ·
               rw [if_neg c123] at H
               exact absurd H (by simp)
            ·
             rw [if_neg c121] at H
             have c121b0 : decide (x38_1 < (t38.length : Int)) = false := decide_eq_false c121
             have hc121 := hid c121
             clear c121
             replace H := Option.bind_eq_some_iff.mp H
             obtain ⟨⟨t62, t63, t64, t65⟩, A161_, H⟩ := H
             dsimp only at H
             have A161 := hid A161_
             clear A161_
             have H' := hid H
             clear H
             have k163 := True.intro
             go_wp2_with (first
              | ((with_reducible refine gate_d (N := 63) rfl ?_); refine ag_fix (.agg (pv yb6_0_0 yb6_1_0 yb6_2_0 yb6_3_0)) (ex_load posT gb6 0 (pv yb6_0_0 yb6_1_0 yb6_2_0 yb6_3_0) (pv yb6_0_0 yb6_1_0 yb6_2_0 yb6_3_0) BKb6.out (xv_le LN_yb6_0_0.out 67 rfl) (xv_ex LN_yb6_0_0.out 67 rfl) _ rfl rfl) rfl ?_)
              | ((with_reducible refine gate_d (N := 64) rfl ?_); refine ag_fix (.agg #[.int .i64 ((nt t38 ((Int.tmod (wrap64 (IntKind.u16.wrap (Int.tdiv (nt a0 x18_0.toNat 0) 2))) (t38.length : Int)).toNat) (0, 0, 0)).1), .int .i64 ((nt t38 ((Int.tmod (wrap64 (IntKind.u16.wrap (Int.tdiv (nt a0 x18_0.toNat 0) 2))) (t38.length : Int)).toNat) (0, 0, 0)).2.1), .int .i64 ((nt t38 ((Int.tmod (wrap64 (IntKind.u16.wrap (Int.tdiv (nt a0 x18_0.toNat 0) 2))) (t38.length : Int)).toNat) (0, 0, 0)).2.2)]) (ex_load aT75 gb40 0 #[.int .i64 ((nt t38 ((Int.tmod (wrap64 (IntKind.u16.wrap (Int.tdiv (nt a0 x18_0.toNat 0) 2))) (t38.length : Int)).toNat) (0, 0, 0)).1), .int .i64 ((nt t38 ((Int.tmod (wrap64 (IntKind.u16.wrap (Int.tdiv (nt a0 x18_0.toNat 0) 2))) (t38.length : Int)).toNat) (0, 0, 0)).2.1), .int .i64 ((nt t38 ((Int.tmod (wrap64 (IntKind.u16.wrap (Int.tdiv (nt a0 x18_0.toNat 0) 2))) (t38.length : Int)).toNat) (0, 0, 0)).2.2)] #[.int .i64 ((nt t38 ((Int.tmod (wrap64 (IntKind.u16.wrap (Int.tdiv (nt a0 x18_0.toNat 0) 2))) (t38.length : Int)).toNat) (0, 0, 0)).1), .int .i64 ((nt t38 ((Int.tmod (wrap64 (IntKind.u16.wrap (Int.tdiv (nt a0 x18_0.toNat 0) 2))) (t38.length : Int)).toNat) (0, 0, 0)).2.1), .int .i64 ((nt t38 ((Int.tmod (wrap64 (IntKind.u16.wrap (Int.tdiv (nt a0 x18_0.toNat 0) 2))) (t38.length : Int)).toNat) (0, 0, 0)).2.2)] BKb40.out (by simp) rfl _ rfl rfl) rfl ?_)
              | (go_at_call 48; clear k163; refine (i_alfilref09_Behind.calls k120 yb6_0_0 yb6_1_0 yb6_2_0 yb6_3_0 ((nt t38 ((Int.tmod (wrap64 (IntKind.u16.wrap (Int.tdiv (nt a0 x18_0.toNat 0) 2))) (t38.length : Int)).toNat) (0, 0, 0)).1) ((nt t38 ((Int.tmod (wrap64 (IntKind.u16.wrap (Int.tdiv (nt a0 x18_0.toNat 0) 2))) (t38.length : Int)).toNat) (0, 0, 0)).2.1) ((nt t38 ((Int.tmod (wrap64 (IntKind.u16.wrap (Int.tdiv (nt a0 x18_0.toNat 0) 2))) (t38.length : Int)).toNat) (0, 0, 0)).2.2) LN_yb6_0_0.out t62 t63 t64 t65 _ A161.out).mono ?_; rintro e_ w164 ⟨rfl, ln_t62, hb_⟩; have LN_t62 := hid ln_t62; clear ln_t62; replace BKb6 := hid (BKb6.out.below hb_ BKb6.out.lt); replace BKb40 := hid (BKb40.out.below hb_ BKb40.out.lt); replace SWt38 := hid (SWt38.out.below hb_); replace HL := hid (HL.out.trans (hb_.mono HL.out.size)); clear hb_)
              | ((with_reducible refine gate_s (t := 46) (p := 3) rfl ?_); refine ag_store posT gb6 0 (pv yb6_0_0 yb6_1_0 yb6_2_0 yb6_3_0) (pv t62 t63 t64 t65) (pv t62 t63 t64 t65) BKb6.out (by rw [show (pv t62 t63 t64 t65) = xv (Value.int .i8) t62 [.int .i64 t63, .int .i64 t64, .int .i64 t65] from rfl, xv_size, show t62.length = 64 from LN_t62.out]; rfl) (xv_le LN_yb6_0_0.out 67 rfl) (xv_one (fun _ => rfl) (by intro v_ hv_; simp at hv_; rcases hv_ with rfl | rfl | rfl <;> rfl)) (xv_put LN_yb6_0_0.out LN_t62.out rfl) rfl _ _ rfl rfl rfl ?_; intro w165 ho_ hB_; replace BKb40 := hid (BKb40.out.off ho_ NBb40_b6.out); replace SWt38 := hid (SWt38.out.off ho_ BKb6.out (by decide)); replace HL := hid (ho_.below HL.out GEb6.out); replace BKb6 := hid hB_; clear ho_ hB_)
              | ((with_reducible refine gate_d (N := 66) rfl ?_); refine ag_fix (.pointer (some ⟨gb6, 0, none⟩)) (ex_field 46 0 (.pointer (some ⟨gb6, 0, none⟩)) (.pointer (some ⟨gb6, 0, none⟩)) (fa46_0_0 gb6) _ rfl rfl) rfl ?_)
              | ((with_reducible refine gate_d (N := 67) rfl ?_); refine ag_fix (.agg (bv t62)) (ex_load boardT gb6 0 (pv t62 t63 t64 t65) (bv t62) BKb6.out (xv_lea LN_t62.out) (xv_exa LN_t62.out) _ rfl rfl) rfl ?_))
             (try simp only [Act.put, sI, sZ, sS])
             have H := H'.out
             clear H'
             replace H := Option.bind_eq_some_iff.mp H
             obtain ⟨t66, A162_, H⟩ := H
             have A162 := hid A162_
             clear A162_
             cases t66 with
             | true =>
              rw [if_pos rfl] at H
              obtain rfl := Option.some.inj H
              clear H
              have k167 := True.intro
              go_wp2_with (first
               | (go_at_call 39; clear k167; refine (i_count_Illegal.calls k120 t62 LN_t62.out true _ A162.out).mono ?_; rintro e_ w168 ⟨rfl, hb_⟩; replace BKb6 := hid (BKb6.out.below hb_ BKb6.out.lt); replace BKb40 := hid (BKb40.out.below hb_ BKb40.out.lt); replace SWt38 := hid (SWt38.out.below hb_); replace HL := hid (HL.out.trans (hb_.mono HL.out.size)); clear hb_))
              (try simp only [Act.put, sI, sZ, sS])
              go_ret
              exact ⟨by first | rfl | (simp; done) | (simp [*]; done), HL.out⟩
             | false =>
              rw [if_neg (show ¬ (false = true) by decide)] at H
              have H' := hid H
              clear H
              have k169 := True.intro
              go_wp2_with (first
               | (go_at_call 39; clear k169; refine (i_count_Illegal.calls k120 t62 LN_t62.out false _ A162.out).mono ?_; rintro e_ w170 ⟨rfl, hb_⟩; replace BKb6 := hid (BKb6.out.below hb_ BKb6.out.lt); replace BKb40 := hid (BKb40.out.below hb_ BKb40.out.lt); replace SWt38 := hid (SWt38.out.below hb_); replace HL := hid (HL.out.trans (hb_.mono HL.out.size)); clear hb_))
              (try simp only [Act.put, sI, sZ, sS])
              go_roundg k120
              case measure => have := HK88.out; have := HK119.out; omega
              case rel => exact ⟨wrap64 (x18_0 + 1), t62, t63, t64, t65, (by first | rfl | (simp; done) | (simp [*]; done)), H', (hid (by first | omega | (have := HK88.out; have := HK119.out; omega))), (hid (by first | rfl | (simp only [List.length_set, List.length_replicate, zL_len, List.length_cons, List.length_nil, LN_t2.out, LN_yb6_0_0.out, LN_t62.out]; done) | (simp [zL_len, LN_t2.out, LN_yb6_0_0.out, LN_t62.out]; done))), (hid (by exact BKb6.out)), HL⟩
         ·
          rw [if_neg c102] at H
          exact absurd H (by simp)
        ·
         rw [if_neg c101] at H
         exact absurd H (by simp)
      ·
       rw [if_neg c91] at H
       exact absurd H (by simp)
     ·
      rw [if_neg c90] at H
      have c90b0 : decide (x18_0 < (a0.length : Int)) = false := decide_eq_false c90
      have hc90 := hid c90
      clear c90
      obtain rfl := Option.some.inj H
      clear H
      go_wp2_with fail
      (try simp only [Act.put, sI, sZ, sS])
      go_ret
      exact ⟨by first | rfl | (simp; done) | (simp [*]; done), HL.out⟩
 | false =>
  rw [if_neg (show ¬ (false = true) by decide)] at H
  obtain rfl := Option.some.inj H
  clear H
  go_enter Try.func12, Try.ntmps12
  have k171 := True.intro
  go_wp2_with (first
   | (go_at_call 34; clear k171; refine (i_alfillaw24_wakes.calls k false _ A67.out).mono ?_; rintro e_ w172 ⟨rfl, hb_⟩; replace HL := hid (HL.out.trans (hb_.mono HL.out.size)); clear hb_))
  (try simp only [Act.put, sI, sZ, sS])
  go_ret
  exact ⟨by first | rfl | (simp; done) | (simp [*]; done), HL.out⟩
end Go.Proofs.Ytpjocgebnodnoaa
