/- The walk of the law CountAll. -/
import Derived.Test.YtpjocgebnodnoaaProg
import Derived.Test.YtpjocgebnodnoaaC4w
namespace Go.Proofs.Ytpjocgebnodnoaa
open Go.RowKit
set_option linter.unusedVariables false
set_option linter.unusedSimpArgs false
set_option maxRecDepth 100000

/-! i_alfillaw24_CountAll: function 10 -/
mutual
def i_alfillaw24_CountAll.l0 : Nat → List Int → Int → Option (Bool)
  | 0, _, _ => none
  | k + 1, a0, x49_0 => if x49_0 < 2 then ((i_count_Least.f k a0 x49_0).bind fun bt21 => ((i_alfilref03_Right.f k a0).bind fun t23 => (if t23 = true then ((i_alfilref24_Least.f k a0 x49_0).bind fun t24 => (if (bt21.2 != (decide (t24 ≥ 0))) = true then (some false) else (if t24 < 0 then (if bt21.1 = 0 then ((i_count_Promoted.f k a0 x49_0).bind fun t25 => ((i_alfilref24_Promoted.f k a0 x49_0).bind fun t26 => (if t25 = t26 then (i_alfillaw24_CountAll.l0 k a0 (wrap64 (x49_0 + 1))) else (some false)))) else (some false)) else (if bt21.1 = t24 then ((i_count_Promoted.f k a0 x49_0).bind fun t27 => ((i_alfilref24_Promoted.f k a0 x49_0).bind fun t28 => (if t27 = t28 then (i_alfillaw24_CountAll.l0 k a0 (wrap64 (x49_0 + 1))) else (some false)))) else (some false))))) else (if bt21.1 = 0 then (if bt21.2 = true then (some false) else ((i_count_Promoted.f k a0 x49_0).bind fun t29 => (if t29 = 0 then (i_alfillaw24_CountAll.l0 k a0 (wrap64 (x49_0 + 1))) else (some false)))) else (some false))))) else ((i_count_Least.f k a0 2).bind fun bt30 => (if bt30.1 = 0 then (if bt30.2 = true then (some false) else ((i_count_Promoted.f k a0 (-1)).bind fun t32 => (some (t32 == 0)))) else (some false)))
def i_alfillaw24_CountAll.l1 : Nat → List Int → Int → Option (Bool)
  | 0, _, _ => none
  | k + 1, a0, x49_1 => if x49_1 < 2 then ((i_count_Least.f k a0 x49_1).bind fun bt46 => ((i_alfilref03_Right.f k a0).bind fun t48 => (if t48 = true then ((i_alfilref24_Least.f k a0 x49_1).bind fun t49 => (if (bt46.2 != (decide (t49 ≥ 0))) = true then (some false) else (if t49 < 0 then (if bt46.1 = 0 then ((i_count_Promoted.f k a0 x49_1).bind fun t50 => ((i_alfilref24_Promoted.f k a0 x49_1).bind fun t51 => (if t50 = t51 then (i_alfillaw24_CountAll.l1 k a0 (wrap64 (x49_1 + 1))) else (some false)))) else (some false)) else (if bt46.1 = t49 then ((i_count_Promoted.f k a0 x49_1).bind fun t52 => ((i_alfilref24_Promoted.f k a0 x49_1).bind fun t53 => (if t52 = t53 then (i_alfillaw24_CountAll.l1 k a0 (wrap64 (x49_1 + 1))) else (some false)))) else (some false))))) else (if bt46.1 = 0 then (if bt46.2 = true then (some false) else ((i_count_Promoted.f k a0 x49_1).bind fun t54 => (if t54 = 0 then (i_alfillaw24_CountAll.l1 k a0 (wrap64 (x49_1 + 1))) else (some false)))) else (some false))))) else ((i_count_Least.f k a0 2).bind fun bt55 => (if bt55.1 = 0 then (if bt55.2 = true then (some false) else ((i_count_Promoted.f k a0 (-1)).bind fun t57 => (some (t57 == 0)))) else (some false)))
def i_alfillaw24_CountAll.l2 : Nat → List Int → Int → Option (Bool)
  | 0, _, _ => none
  | k + 1, a0, x49_2 => if x49_2 < 2 then ((i_count_Least.f k a0 x49_2).bind fun bt72 => ((i_alfilref03_Right.f k a0).bind fun t74 => (if t74 = true then ((i_alfilref24_Least.f k a0 x49_2).bind fun t75 => (if (bt72.2 != (decide (t75 ≥ 0))) = true then (some false) else (if t75 < 0 then (if bt72.1 = 0 then ((i_count_Promoted.f k a0 x49_2).bind fun t76 => ((i_alfilref24_Promoted.f k a0 x49_2).bind fun t77 => (if t76 = t77 then (i_alfillaw24_CountAll.l2 k a0 (wrap64 (x49_2 + 1))) else (some false)))) else (some false)) else (if bt72.1 = t75 then ((i_count_Promoted.f k a0 x49_2).bind fun t78 => ((i_alfilref24_Promoted.f k a0 x49_2).bind fun t79 => (if t78 = t79 then (i_alfillaw24_CountAll.l2 k a0 (wrap64 (x49_2 + 1))) else (some false)))) else (some false))))) else (if bt72.1 = 0 then (if bt72.2 = true then (some false) else ((i_count_Promoted.f k a0 x49_2).bind fun t80 => (if t80 = 0 then (i_alfillaw24_CountAll.l2 k a0 (wrap64 (x49_2 + 1))) else (some false)))) else (some false))))) else ((i_count_Least.f k a0 2).bind fun bt81 => (if bt81.1 = 0 then (if bt81.2 = true then (some false) else ((i_count_Promoted.f k a0 (-1)).bind fun t83 => (some (t83 == 0)))) else (some false)))
def i_alfillaw24_CountAll.l3 : Nat → List Int → Int → Option (Bool)
  | 0, _, _ => none
  | k + 1, a0, x49_3 => if x49_3 < 2 then ((i_count_Least.f k a0 x49_3).bind fun bt97 => ((i_alfilref03_Right.f k a0).bind fun t99 => (if t99 = true then ((i_alfilref24_Least.f k a0 x49_3).bind fun t100 => (if (bt97.2 != (decide (t100 ≥ 0))) = true then (some false) else (if t100 < 0 then (if bt97.1 = 0 then ((i_count_Promoted.f k a0 x49_3).bind fun t101 => ((i_alfilref24_Promoted.f k a0 x49_3).bind fun t102 => (if t101 = t102 then (i_alfillaw24_CountAll.l3 k a0 (wrap64 (x49_3 + 1))) else (some false)))) else (some false)) else (if bt97.1 = t100 then ((i_count_Promoted.f k a0 x49_3).bind fun t103 => ((i_alfilref24_Promoted.f k a0 x49_3).bind fun t104 => (if t103 = t104 then (i_alfillaw24_CountAll.l3 k a0 (wrap64 (x49_3 + 1))) else (some false)))) else (some false))))) else (if bt97.1 = 0 then (if bt97.2 = true then (some false) else ((i_count_Promoted.f k a0 x49_3).bind fun t105 => (if t105 = 0 then (i_alfillaw24_CountAll.l3 k a0 (wrap64 (x49_3 + 1))) else (some false)))) else (some false))))) else ((i_count_Least.f k a0 2).bind fun bt106 => (if bt106.1 = 0 then (if bt106.2 = true then (some false) else ((i_count_Promoted.f k a0 (-1)).bind fun t108 => (some (t108 == 0)))) else (some false)))
def i_alfillaw24_CountAll.l4 : Nat → List Int → Int → Option (Bool)
  | 0, _, _ => none
  | k + 1, a0, x49_4 => if x49_4 < 2 then ((i_count_Least.f k a0 x49_4).bind fun bt123 => ((i_alfilref03_Right.f k a0).bind fun t125 => (if t125 = true then ((i_alfilref24_Least.f k a0 x49_4).bind fun t126 => (if (bt123.2 != (decide (t126 ≥ 0))) = true then (some false) else (if t126 < 0 then (if bt123.1 = 0 then ((i_count_Promoted.f k a0 x49_4).bind fun t127 => ((i_alfilref24_Promoted.f k a0 x49_4).bind fun t128 => (if t127 = t128 then (i_alfillaw24_CountAll.l4 k a0 (wrap64 (x49_4 + 1))) else (some false)))) else (some false)) else (if bt123.1 = t126 then ((i_count_Promoted.f k a0 x49_4).bind fun t129 => ((i_alfilref24_Promoted.f k a0 x49_4).bind fun t130 => (if t129 = t130 then (i_alfillaw24_CountAll.l4 k a0 (wrap64 (x49_4 + 1))) else (some false)))) else (some false))))) else (if bt123.1 = 0 then (if bt123.2 = true then (some false) else ((i_count_Promoted.f k a0 x49_4).bind fun t131 => (if t131 = 0 then (i_alfillaw24_CountAll.l4 k a0 (wrap64 (x49_4 + 1))) else (some false)))) else (some false))))) else ((i_count_Least.f k a0 2).bind fun bt132 => (if bt132.1 = 0 then (if bt132.2 = true then (some false) else ((i_count_Promoted.f k a0 (-1)).bind fun t134 => (some (t134 == 0)))) else (some false)))
end
def i_alfillaw24_CountAll.f (k : Nat) (a0 : List Int) : Option (Bool) := (i_alfillaw24_wakes.f k).bind fun t2 => (if t2 = true then ((i_count_Why.f k a0).bind fun bt3 => ((i_alfillaw24_pawns.f k a0 0).bind fun t5 => (if t5 ≤ 8 then ((i_alfillaw24_pawns.f k a0 1).bind fun t6 => (if t6 ≤ 8 then ((i_alfilref24_Why.f k a0).bind fun t7 => (if bt3.1 = t7 then (if (bt3.2 != (decide (t7 > 0))) = true then (some false) else ((i_count_Illegal.f k a0).bind fun t8 => (if (t8 != bt3.2) = true then (some false) else (i_alfillaw24_CountAll.l0 k a0 0)))) else (some false))) else ((i_alfilref03_Right.f k a0).bind fun t33 => (if t33 = true then (i_alfillaw24_CountAll.l1 k a0 0) else ((i_alfilref24_Why.f k a0).bind fun t58 => (if bt3.1 = t58 then (if (bt3.2 != (decide (t58 > 0))) = true then (some false) else ((i_count_Illegal.f k a0).bind fun t59 => (if (t59 != bt3.2) = true then (some false) else (i_alfillaw24_CountAll.l2 k a0 0)))) else (some false))))))) else ((i_alfilref03_Right.f k a0).bind fun t84 => (if t84 = true then (i_alfillaw24_CountAll.l3 k a0 0) else ((i_alfilref24_Why.f k a0).bind fun t109 => (if bt3.1 = t109 then (if (bt3.2 != (decide (t109 > 0))) = true then (some false) else ((i_count_Illegal.f k a0).bind fun t110 => (if (t110 != bt3.2) = true then (some false) else (i_alfillaw24_CountAll.l4 k a0 0)))) else (some false)))))))) else (some false))
set_option maxHeartbeats 40000000 in
set_option maxRecDepth 100000 in
theorem i_alfillaw24_CountAll.calls (k : Nat) (a0 : List Int) (hla0 : a0.length = 64) (r1 : Bool) (w : World) (h : i_alfillaw24_CountAll.f k a0 = some r1) :
    Calls Try.prog 10 #[.agg (bv a0)] w fun e w' => e = .returned (.bool r1) ∧ Below w.heap.size w w' := by
 have LN_a0 := hid hla0
 clear hla0
 have HL := hid (Below.refl w.heap.size w)
 have H : ((i_alfillaw24_wakes.f k).bind fun t2 => (if t2 = true then ((i_count_Why.f k a0).bind fun bt3 => ((i_alfillaw24_pawns.f k a0 0).bind fun t5 => (if t5 ≤ 8 then ((i_alfillaw24_pawns.f k a0 1).bind fun t6 => (if t6 ≤ 8 then ((i_alfilref24_Why.f k a0).bind fun t7 => (if bt3.1 = t7 then (if (bt3.2 != (decide (t7 > 0))) = true then (some false) else ((i_count_Illegal.f k a0).bind fun t8 => (if (t8 != bt3.2) = true then (some false) else (i_alfillaw24_CountAll.l0 k a0 0)))) else (some false))) else ((i_alfilref03_Right.f k a0).bind fun t33 => (if t33 = true then (i_alfillaw24_CountAll.l1 k a0 0) else ((i_alfilref24_Why.f k a0).bind fun t58 => (if bt3.1 = t58 then (if (bt3.2 != (decide (t58 > 0))) = true then (some false) else ((i_count_Illegal.f k a0).bind fun t59 => (if (t59 != bt3.2) = true then (some false) else (i_alfillaw24_CountAll.l2 k a0 0)))) else (some false))))))) else ((i_alfilref03_Right.f k a0).bind fun t84 => (if t84 = true then (i_alfillaw24_CountAll.l3 k a0 0) else ((i_alfilref24_Why.f k a0).bind fun t109 => (if bt3.1 = t109 then (if (bt3.2 != (decide (t109 > 0))) = true then (some false) else ((i_count_Illegal.f k a0).bind fun t110 => (if (t110 != bt3.2) = true then (some false) else (i_alfillaw24_CountAll.l4 k a0 0)))) else (some false)))))))) else (some false))) = some r1 := h
 clear h
 replace H := Option.bind_eq_some_iff.mp H
 obtain ⟨t2, A135_, H⟩ := H
 have A135 := hid A135_
 clear A135_
 cases t2 with
 | true =>
  rw [if_pos rfl] at H
  have H' := hid H
  clear H
  go_enter Try.func10, Try.ntmps10
  have k139 := True.intro
  go_wp2_with (first
   | ((with_reducible refine gate_d (N := 1) rfl ?_); obtain ⟨gb1, hgb1⟩ : ∃ g_, w.heap.size = g_ := ⟨_, rfl⟩; refine ag_box (bv a0) gb1 hgb1 rfl _ rfl rfl ?_; intro w138 hb_ hB_ hs_; have GEb1 : Hid (w.heap.size ≤ gb1) := hid (by have := HL.out.size; omega); replace HL := hid (HL.out.trans (hb_.mono GEb1.out)); have BKb1 := hid hB_; clear hb_ hB_ hs_ hgb1)
   | (go_at_call 34; clear k139; refine (i_alfillaw24_wakes.calls k true _ A135.out).mono ?_; rintro e_ w140 ⟨rfl, hb_⟩; replace BKb1 := hid (BKb1.out.below hb_ BKb1.out.lt); replace HL := hid (HL.out.trans (hb_.mono HL.out.size)); clear hb_)
   | ((with_reducible refine gate_d (N := 15) rfl ?_); refine ag_fix (.agg (bv a0)) (ex_load boardT gb1 0 (bv a0) (bv a0) BKb1.out (av_le LN_a0.out) (av_ex LN_a0.out) _ rfl rfl) rfl ?_))
  (try simp only [Act.put, sI, sZ, sS])
  have H := H'.out
  clear H'
  replace H := Option.bind_eq_some_iff.mp H
  obtain ⟨⟨t3, t4⟩, A137_, H⟩ := H
  dsimp only at H
  have A137 := hid A137_
  clear A137_
  have H' := hid H
  clear H
  have k142 := True.intro
  go_wp2_with (first
   | (go_at_call 35; clear k142; refine (i_count_Why.calls k a0 LN_a0.out t3 t4 _ A137.out).mono ?_; rintro e_ w143 ⟨rfl, hb_⟩; replace BKb1 := hid (BKb1.out.below hb_ BKb1.out.lt); replace HL := hid (HL.out.trans (hb_.mono HL.out.size)); clear hb_)
   | ((with_reducible refine gate_d (N := 19) rfl ?_); refine ag_fix (.agg (bv a0)) (ex_load boardT gb1 0 (bv a0) (bv a0) BKb1.out (av_le LN_a0.out) (av_ex LN_a0.out) _ rfl rfl) rfl ?_))
  (try simp only [Act.put, sI, sZ, sS])
  have H := H'.out
  clear H'
  replace H := Option.bind_eq_some_iff.mp H
  obtain ⟨t5, A141_, H⟩ := H
  have A141 := hid A141_
  clear A141_
  by_cases c144 : t5 ≤ 8
  ·
   rw [if_pos c144] at H
   have c144b0 : decide (t5 ≤ 8) = true := decide_eq_true c144
   have hc144 := hid c144
   clear c144
   have H' := hid H
   clear H
   have k146 := True.intro
   go_wp2_with (first
    | (go_at_call 36; clear k146; refine (i_alfillaw24_pawns.calls k a0 0 LN_a0.out t5 _ A141.out).mono ?_; rintro e_ w147 ⟨rfl, hb_⟩; replace BKb1 := hid (BKb1.out.below hb_ BKb1.out.lt); replace HL := hid (HL.out.trans (hb_.mono HL.out.size)); clear hb_)
    | ((with_reducible refine gate_d (N := 23) rfl ?_); refine ag_fix (.agg (bv a0)) (ex_load boardT gb1 0 (bv a0) (bv a0) BKb1.out (av_le LN_a0.out) (av_ex LN_a0.out) _ rfl rfl) rfl ?_))
   (try simp only [Act.put, sI, sZ, sS])
   have H := H'.out
   clear H'
   replace H := Option.bind_eq_some_iff.mp H
   obtain ⟨t6, A145_, H⟩ := H
   have A145 := hid A145_
   clear A145_
   by_cases c148 : t6 ≤ 8
   ·
    rw [if_pos c148] at H
    have c148b0 : decide (t6 ≤ 8) = true := decide_eq_true c148
    have hc148 := hid c148
    clear c148
    have H' := hid H
    clear H
    have k150 := True.intro
    go_wp2_with (first
     | (go_at_call 36; clear k150; refine (i_alfillaw24_pawns.calls k a0 1 LN_a0.out t6 _ A145.out).mono ?_; rintro e_ w151 ⟨rfl, hb_⟩; replace BKb1 := hid (BKb1.out.below hb_ BKb1.out.lt); replace HL := hid (HL.out.trans (hb_.mono HL.out.size)); clear hb_)
     | ((with_reducible refine gate_d (N := 32) rfl ?_); refine ag_fix (.agg (bv a0)) (ex_load boardT gb1 0 (bv a0) (bv a0) BKb1.out (av_le LN_a0.out) (av_ex LN_a0.out) _ rfl rfl) rfl ?_))
    (try simp only [Act.put, sI, sZ, sS])
    have H := H'.out
    clear H'
    replace H := Option.bind_eq_some_iff.mp H
    obtain ⟨t7, A149_, H⟩ := H
    have A149 := hid A149_
    clear A149_
    by_cases c152 : t3 = t7
    ·
     rw [if_pos c152] at H
     have c152b0 : (t3 == t7) = true := beq_iff_eq.mpr c152
     have c152b1 : (t3 != t7) = false := bne_eq_false_iff_eq.mpr c152
     have hc152 := hid c152
     clear c152
     by_cases c153 : (t4 != (decide (t7 > 0))) = true
     ·
      rw [if_pos c153] at H
      have c153b0 : (t4 != (decide (t7 > 0))) = true := c153
      (try have c153b1 : decide (t4 = (decide (t7 > 0))) = false := by simpa using c153)
      (try have c153b2 : (t4 == (decide (t7 > 0))) = false := by simpa using c153)
      (try have c153b3 : ¬ (t4 = (decide (t7 > 0))) := by simpa using c153)
      have hc153 := hid c153
      clear c153
      obtain rfl := Option.some.inj H
      clear H
      have k154 := True.intro
      go_wp2_with (first
       | (go_at_call 38; clear k154; refine (i_alfilref24_Why.calls k a0 LN_a0.out t7 _ A149.out).mono ?_; rintro e_ w155 ⟨rfl, hb_⟩; replace BKb1 := hid (BKb1.out.below hb_ BKb1.out.lt); replace HL := hid (HL.out.trans (hb_.mono HL.out.size)); clear hb_))
      (try simp only [Act.put, sI, sZ, sS])
      go_ret
      exact ⟨by first | rfl | (simp; done) | (simp [*]; done), HL.out⟩
     ·
      rw [if_neg c153] at H
      have c153b0 : (t4 != (decide (t7 > 0))) = false := by simpa using c153
      (try have c153b1 : decide (t4 = (decide (t7 > 0))) = true := by simpa using c153)
      (try have c153b2 : (t4 == (decide (t7 > 0))) = true := by simpa using c153)
      have hc153 := hid c153
      clear c153
      have H' := hid H
      clear H
      have k157 := True.intro
      go_wp2_with (first
       | (go_at_call 38; clear k157; refine (i_alfilref24_Why.calls k a0 LN_a0.out t7 _ A149.out).mono ?_; rintro e_ w158 ⟨rfl, hb_⟩; replace BKb1 := hid (BKb1.out.below hb_ BKb1.out.lt); replace HL := hid (HL.out.trans (hb_.mono HL.out.size)); clear hb_)
       | ((with_reducible refine gate_d (N := 44) rfl ?_); refine ag_fix (.agg (bv a0)) (ex_load boardT gb1 0 (bv a0) (bv a0) BKb1.out (av_le LN_a0.out) (av_ex LN_a0.out) _ rfl rfl) rfl ?_))
      (try simp only [Act.put, sI, sZ, sS])
      have H := H'.out
      clear H'
      replace H := Option.bind_eq_some_iff.mp H
      obtain ⟨t8, A156_, H⟩ := H
      have A156 := hid A156_
      clear A156_
      by_cases c159 : (t8 != t4) = true
      ·
       rw [if_pos c159] at H
       have c159b0 : (t8 != t4) = true := c159
       (try have c159b1 : decide (t8 = t4) = false := by simpa using c159)
       (try have c159b2 : (t8 == t4) = false := by simpa using c159)
       (try have c159b3 : ¬ (t8 = t4) := by simpa using c159)
       have hc159 := hid c159
       clear c159
       obtain rfl := Option.some.inj H
       clear H
       have k160 := True.intro
       go_wp2_with (first
        | (go_at_call 39; clear k160; refine (i_count_Illegal.calls k a0 LN_a0.out t8 _ A156.out).mono ?_; rintro e_ w161 ⟨rfl, hb_⟩; replace BKb1 := hid (BKb1.out.below hb_ BKb1.out.lt); replace HL := hid (HL.out.trans (hb_.mono HL.out.size)); clear hb_))
       (try simp only [Act.put, sI, sZ, sS])
       go_ret
       exact ⟨by first | rfl | (simp; done) | (simp [*]; done), HL.out⟩
      ·
       rw [if_neg c159] at H
       have c159b0 : (t8 != t4) = false := by simpa using c159
       (try have c159b1 : decide (t8 = t4) = true := by simpa using c159)
       (try have c159b2 : (t8 == t4) = true := by simpa using c159)
       have hc159 := hid c159
       clear c159
       have H' := hid H
       clear H
       have k162 := True.intro
       go_wp2_with (first
        | (go_at_call 39; clear k162; refine (i_count_Illegal.calls k a0 LN_a0.out t8 _ A156.out).mono ?_; rintro e_ w163 ⟨rfl, hb_⟩; replace BKb1 := hid (BKb1.out.below hb_ BKb1.out.lt); replace HL := hid (HL.out.trans (hb_.mono HL.out.size)); clear hb_))
       (try simp only [Act.put, sI, sZ, sS])
       go_loopg [49] k (fun kq v49 w' => ∃ (x49_0 : Int), v49 = .int .i64 x49_0 ∧ Hid (i_alfillaw24_CountAll.l0 kq a0 x49_0 = some r1) ∧ Hid (kq ≤ k) ∧ Hid (Blk w' gb1 44 (bv a0)) ∧ Hid (Below w.heap.size w w'))
       case atStart => exact ⟨(0 : Int), (by first | rfl | (simp; done) | (simp [*]; done)), H', (hid (by first | omega | (omega))), (hid (by exact BKb1.out)), HL⟩
       case round =>
        clear H'
        clear HL BKb1
        obtain ⟨x49_0, rfl, HA, HK164, BKb1, HL⟩ := hrel
        cases gk with
        | zero => exact absurd HA.out (by simp [i_alfillaw24_CountAll.l0])
        | succ k165 =>
         have H := HA.out
         clear HA
         simp only [i_alfillaw24_CountAll.l0] at H
         by_cases c166 : x49_0 < 2
         ·
          rw [if_pos c166] at H
          have c166b0 : decide (x49_0 < 2) = true := decide_eq_true c166
          have hc166 := hid c166
          clear c166
          replace H := Option.bind_eq_some_iff.mp H
          obtain ⟨⟨t21, t22⟩, A167_, H⟩ := H
          dsimp only at H
          have A167 := hid A167_
          clear A167_
          have H' := hid H
          clear H
          have k169 := True.intro
          go_wp2_with (first
           | ((with_reducible refine gate_d (N := 53) rfl ?_); refine ag_fix (.agg (bv a0)) (ex_load boardT gb1 0 (bv a0) (bv a0) BKb1.out (av_le LN_a0.out) (av_ex LN_a0.out) _ rfl rfl) rfl ?_)
           | (go_at_call 40; clear k169; refine (i_count_Least.calls k165 a0 x49_0 LN_a0.out t21 t22 _ A167.out).mono ?_; rintro e_ w170 ⟨rfl, hb_⟩; replace BKb1 := hid (BKb1.out.below hb_ BKb1.out.lt); replace HL := hid (HL.out.trans (hb_.mono HL.out.size)); clear hb_)
           | ((with_reducible refine gate_d (N := 58) rfl ?_); refine ag_fix (.agg (bv a0)) (ex_load boardT gb1 0 (bv a0) (bv a0) BKb1.out (av_le LN_a0.out) (av_ex LN_a0.out) _ rfl rfl) rfl ?_))
          (try simp only [Act.put, sI, sZ, sS])
          have H := H'.out
          clear H'
          replace H := Option.bind_eq_some_iff.mp H
          obtain ⟨t23, A168_, H⟩ := H
          have A168 := hid A168_
          clear A168_
          cases t23 with
          | true =>
           rw [if_pos rfl] at H
           have H' := hid H
           clear H
           have k173 := True.intro
           go_wp2_with (first
            | (go_at_call 37; clear k173; refine (i_alfilref03_Right.calls k165 a0 LN_a0.out true _ A168.out).mono ?_; rintro e_ w174 ⟨rfl, hb_⟩; replace BKb1 := hid (BKb1.out.below hb_ BKb1.out.lt); replace HL := hid (HL.out.trans (hb_.mono HL.out.size)); clear hb_)
            | ((with_reducible refine gate_d (N := 72) rfl ?_); refine ag_fix (.agg (bv a0)) (ex_load boardT gb1 0 (bv a0) (bv a0) BKb1.out (av_le LN_a0.out) (av_ex LN_a0.out) _ rfl rfl) rfl ?_))
           (try simp only [Act.put, sI, sZ, sS])
           have H := H'.out
           clear H'
           replace H := Option.bind_eq_some_iff.mp H
           obtain ⟨t24, A172_, H⟩ := H
           have A172 := hid A172_
           clear A172_
           by_cases c175 : (t22 != (decide (t24 ≥ 0))) = true
           ·
            rw [if_pos c175] at H
            have c175b0 : (t22 != (decide (t24 ≥ 0))) = true := c175
            (try have c175b1 : decide (t22 = (decide (t24 ≥ 0))) = false := by simpa using c175)
            (try have c175b2 : (t22 == (decide (t24 ≥ 0))) = false := by simpa using c175)
            (try have c175b3 : ¬ (t22 = (decide (t24 ≥ 0))) := by simpa using c175)
            have hc175 := hid c175
            clear c175
            obtain rfl := Option.some.inj H
            clear H
            have k176 := True.intro
            go_wp2_with (first
             | (go_at_call 42; clear k176; refine (i_alfilref24_Least.calls k165 a0 x49_0 LN_a0.out t24 _ A172.out).mono ?_; rintro e_ w177 ⟨rfl, hb_⟩; replace BKb1 := hid (BKb1.out.below hb_ BKb1.out.lt); replace HL := hid (HL.out.trans (hb_.mono HL.out.size)); clear hb_))
            (try simp only [Act.put, sI, sZ, sS])
            have WR64 := i64_w
            have WR32 := i32_w
            refine up_regionW (by kernel_rfl) (by kernel_rfl) ?_
            refine q_do (.bool t22) (fun w'_ hc_ => ex_mv (.tmp 8) (.inl rfl) _ rfl) rfl rfl ?_
            intro ts_ ht_; simp only [sI, sZ, sS] at ht_; subst ht_
            refine q_do (.int .i64 t24) (fun w'_ hc_ => ex_mv (.tmp 9) (.inl rfl) _ rfl) rfl rfl ?_
            intro ts_ ht_; simp only [sI, sZ, sS] at ht_; subst ht_
            refine q_do (.bool (decide (t24 ≥ 0))) (fun w'_ hc_ => by go_simp <;> (unfold wrap64; omega)) rfl rfl ?_
            intro ts_ ht_; simp only [sI, sZ, sS] at ht_; subst ht_
            refine q_do (.bool true) (fun w'_ hc_ => by go_simp <;> (unfold wrap64; omega)) rfl rfl ?_
            intro ts_ ht_; simp only [sI, sZ, sS] at ht_; subst ht_
            refine q_do (.bool true) (fun w'_ hc_ => ex_mv (.tmp 78) (.inl rfl) _ rfl) rfl rfl ?_
            intro ts_ ht_; simp only [sI, sZ, sS] at ht_; subst ht_
            refine q_not 4 true rfl rfl rfl ?_
            intro ts_ ht_; simp only [sI, sZ, sS] at ht_; subst ht_
            refine q_not 4 true rfl rfl rfl ?_
            intro ts_ ht_; simp only [sI, sZ, sS] at ht_; subst ht_
            refine q_not 4 true rfl rfl rfl ?_
            intro ts_ ht_; simp only [sI, sZ, sS] at ht_; subst ht_
            refine q_not 4 true rfl rfl rfl ?_
            intro ts_ ht_; simp only [sI, sZ, sS] at ht_; subst ht_
            refine q_do (.bool true) (fun w'_ hc_ => by go_simp <;> (unfold wrap64; omega)) rfl rfl ?_
            intro ts_ ht_; simp only [sI, sZ, sS] at ht_; subst ht_
            refine q_do (.bool true) (fun w'_ hc_ => ex_mv (.tmp 84) (.inl rfl) _ rfl) rfl rfl ?_
            intro ts_ ht_; simp only [sI, sZ, sS] at ht_; subst ht_
            refine q_not 10 true rfl rfl rfl ?_
            intro ts_ ht_; simp only [sI, sZ, sS] at ht_; subst ht_
            refine q_not 10 true rfl rfl rfl ?_
            intro ts_ ht_; simp only [sI, sZ, sS] at ht_; subst ht_
            refine q_not 10 true rfl rfl rfl ?_
            intro ts_ ht_; simp only [sI, sZ, sS] at ht_; subst ht_
            refine q_not 10 true rfl rfl rfl ?_
            intro ts_ ht_; simp only [sI, sZ, sS] at ht_; subst ht_
            refine q_not 10 true rfl rfl rfl ?_
            intro ts_ ht_; simp only [sI, sZ, sS] at ht_; subst ht_
            refine q_not 10 true rfl rfl rfl ?_
            intro ts_ ht_; simp only [sI, sZ, sS] at ht_; subst ht_
            refine q_not 10 true rfl rfl rfl ?_
            intro ts_ ht_; simp only [sI, sZ, sS] at ht_; subst ht_
            refine q_do (.bool true) (fun w'_ hc_ => by go_simp <;> (unfold wrap64; omega)) rfl rfl ?_
            intro ts_ ht_; simp only [sI, sZ, sS] at ht_; subst ht_
            refine q_end ?_
            rintro w8_ ⟨n_, rfl⟩
            replace BKb1 := hid (BKb1.out.below n_.below BKb1.out.lt)
            replace HL := hid (HL.out.trans (n_.below.mono HL.out.size))
            generalize n_.world = w178 at *
            clear n_ WR64 WR32
            go_wp2_with fail
            (try simp only [Act.put, sI, sZ, sS])
            go_ret
            exact ⟨by first | rfl | (simp; done) | (simp [*]; done), HL.out⟩
           ·
            rw [if_neg c175] at H
            have c175b0 : (t22 != (decide (t24 ≥ 0))) = false := by simpa using c175
            (try have c175b1 : decide (t22 = (decide (t24 ≥ 0))) = true := by simpa using c175)
            (try have c175b2 : (t22 == (decide (t24 ≥ 0))) = true := by simpa using c175)
            have hc175 := hid c175
            clear c175
            by_cases c179 : t24 < 0
            ·
             rw [if_pos c179] at H
             have c179b0 : decide (t24 < 0) = true := decide_eq_true c179
             have c179b1 : (if t24 < 0 then 0 else t24) = 0 := if_pos c179
             have c179b2 : max t24 0 = 0 := by omega
             have hc179 := hid c179
             clear c179
             by_cases c180 : t21 = 0
             ·
              rw [if_pos c180] at H
              have c180b0 : (t21 == 0) = true := beq_iff_eq.mpr c180
              have c180b1 : (t21 != 0) = false := bne_eq_false_iff_eq.mpr c180
              have hc180 := hid c180
              clear c180
              replace H := Option.bind_eq_some_iff.mp H
              obtain ⟨t25, A181_, H⟩ := H
              have A181 := hid A181_
              clear A181_
              replace H := Option.bind_eq_some_iff.mp H
              obtain ⟨t26, A182_, H⟩ := H
              have A182 := hid A182_
              clear A182_
              by_cases c183 : t25 = t26
              ·
               rw [if_pos c183] at H
               have c183b0 : (t25 == t26) = true := beq_iff_eq.mpr c183
               have c183b1 : (t25 != t26) = false := bne_eq_false_iff_eq.mpr c183
               have hc183 := hid c183
               clear c183
               have H' := hid H
               clear H
               have k184 := True.intro
               go_wp2_with (first
                | (go_at_call 42; clear k184; refine (i_alfilref24_Least.calls k165 a0 x49_0 LN_a0.out t24 _ A172.out).mono ?_; rintro e_ w185 ⟨rfl, hb_⟩; replace BKb1 := hid (BKb1.out.below hb_ BKb1.out.lt); replace HL := hid (HL.out.trans (hb_.mono HL.out.size)); clear hb_))
               (try simp only [Act.put, sI, sZ, sS])
               have WR64 := i64_w
               have WR32 := i32_w
               refine up_regionW (by kernel_rfl) (by kernel_rfl) ?_
               refine q_do (.bool t22) (fun w'_ hc_ => ex_mv (.tmp 8) (.inl rfl) _ rfl) rfl rfl ?_
               intro ts_ ht_; simp only [sI, sZ, sS] at ht_; subst ht_
               refine q_do (.int .i64 t24) (fun w'_ hc_ => ex_mv (.tmp 9) (.inl rfl) _ rfl) rfl rfl ?_
               intro ts_ ht_; simp only [sI, sZ, sS] at ht_; subst ht_
               refine q_do (.bool (decide (t24 ≥ 0))) (fun w'_ hc_ => by go_simp <;> (unfold wrap64; omega)) rfl rfl ?_
               intro ts_ ht_; simp only [sI, sZ, sS] at ht_; subst ht_
               refine q_do (.bool false) (fun w'_ hc_ => by go_simp <;> (unfold wrap64; omega)) rfl rfl ?_
               intro ts_ ht_; simp only [sI, sZ, sS] at ht_; subst ht_
               refine q_do (.bool false) (fun w'_ hc_ => ex_mv (.tmp 78) (.inl rfl) _ rfl) rfl rfl ?_
               intro ts_ ht_; simp only [sI, sZ, sS] at ht_; subst ht_
               refine q_do (.int .i64 t21) (fun w'_ hc_ => ex_mv (.tmp 7) (.inl rfl) _ rfl) rfl rfl ?_
               intro ts_ ht_; simp only [sI, sZ, sS] at ht_; subst ht_
               refine q_do (.int .i64 t24) (fun w'_ hc_ => ex_mv (.tmp 9) (.inl rfl) _ rfl) rfl rfl ?_
               intro ts_ ht_; simp only [sI, sZ, sS] at ht_; subst ht_
               refine q_do (.int .i64 0) (fun w'_ hc_ => by go_simp <;> (unfold wrap64; omega)) rfl rfl ?_
               intro ts_ ht_; simp only [sI, sZ, sS] at ht_; subst ht_
               refine q_do (.bool false) (fun w'_ hc_ => by go_simp <;> (unfold wrap64; omega)) rfl rfl ?_
               intro ts_ ht_; simp only [sI, sZ, sS] at ht_; subst ht_
               refine q_do (.bool false) (fun w'_ hc_ => by go_simp <;> (unfold wrap64; omega)) rfl rfl ?_
               intro ts_ ht_; simp only [sI, sZ, sS] at ht_; subst ht_
               refine q_do (.bool false) (fun w'_ hc_ => ex_mv (.tmp 84) (.inl rfl) _ rfl) rfl rfl ?_
               intro ts_ ht_; simp only [sI, sZ, sS] at ht_; subst ht_
               refine q_do (.agg (bv a0)) (fun w'_ hc_ => by obtain ⟨n_, hn_⟩ := hc_; exact ex_load boardT gb1 0 (bv a0) (bv a0) (by rw [hn_]; exact BKb1.out.below n_.below BKb1.out.lt) (av_le LN_a0.out) (av_ex LN_a0.out) _ rfl rfl) rfl rfl ?_
               intro ts_ ht_; simp only [sI, sZ, sS] at ht_; subst ht_
               refine q_do (.int .i64 x49_0) (fun w'_ hc_ => ex_mv (.tmp 6) (.inl rfl) _ rfl) rfl rfl ?_
               intro ts_ ht_; simp only [sI, sZ, sS] at ht_; subst ht_
               refine q_call (.int .i64 t25) 41 #[.agg (bv a0), .int .i64 x49_0] (fun w'_ => by go_simp) (fun w'_ hc_ => (i_count_Promoted.calls k165 a0 x49_0 LN_a0.out t25 _ A181.out).mono fun e_ w2_ h_ => ⟨h_.1, up_below hc_ h_.2⟩) rfl rfl ?_
               intro ts_ ht_; simp only [sI, sZ, sS] at ht_; subst ht_
               refine q_do (.agg (bv a0)) (fun w'_ hc_ => by obtain ⟨n_, hn_⟩ := hc_; exact ex_load boardT gb1 0 (bv a0) (bv a0) (by rw [hn_]; exact BKb1.out.below n_.below BKb1.out.lt) (av_le LN_a0.out) (av_ex LN_a0.out) _ rfl rfl) rfl rfl ?_
               intro ts_ ht_; simp only [sI, sZ, sS] at ht_; subst ht_
               refine q_do (.int .i64 x49_0) (fun w'_ hc_ => ex_mv (.tmp 6) (.inl rfl) _ rfl) rfl rfl ?_
               intro ts_ ht_; simp only [sI, sZ, sS] at ht_; subst ht_
               refine q_call (.int .i64 t26) 43 #[.agg (bv a0), .int .i64 x49_0] (fun w'_ => by go_simp) (fun w'_ hc_ => (i_alfilref24_Promoted.calls k165 a0 x49_0 LN_a0.out t26 _ A182.out).mono fun e_ w2_ h_ => ⟨h_.1, up_below hc_ h_.2⟩) rfl rfl ?_
               intro ts_ ht_; simp only [sI, sZ, sS] at ht_; subst ht_
               refine q_do (.bool false) (fun w'_ hc_ => by go_simp <;> (unfold wrap64; omega)) rfl rfl ?_
               intro ts_ ht_; simp only [sI, sZ, sS] at ht_; subst ht_
               refine q_do (.bool false) (fun w'_ hc_ => by go_simp <;> (unfold wrap64; omega)) rfl rfl ?_
               intro ts_ ht_; simp only [sI, sZ, sS] at ht_; subst ht_
               refine q_end ?_
               rintro w8_ ⟨n_, rfl⟩
               replace BKb1 := hid (BKb1.out.below n_.below BKb1.out.lt)
               replace HL := hid (HL.out.trans (n_.below.mono HL.out.size))
               generalize n_.world = w186 at *
               clear n_ WR64 WR32
               go_wp2_with fail
               (try simp only [Act.put, sI, sZ, sS])
               go_roundg k165
               case measure => have := HK164.out; omega
               case rel => exact ⟨wrap64 (x49_0 + 1), (by first | rfl | (simp; done) | (simp [*]; done)), H', (hid (by first | omega | (have := HK164.out; omega))), (hid (by exact BKb1.out)), HL⟩
              ·
               rw [if_neg c183] at H
               have c183b0 : (t25 == t26) = false := beq_eq_false_iff_ne.mpr c183
               have c183b1 : (t25 != t26) = true := bne_iff_ne.mpr c183
               have hc183 := hid c183
               clear c183
               obtain rfl := Option.some.inj H
               clear H
               have k187 := True.intro
               go_wp2_with (first
                | (go_at_call 42; clear k187; refine (i_alfilref24_Least.calls k165 a0 x49_0 LN_a0.out t24 _ A172.out).mono ?_; rintro e_ w188 ⟨rfl, hb_⟩; replace BKb1 := hid (BKb1.out.below hb_ BKb1.out.lt); replace HL := hid (HL.out.trans (hb_.mono HL.out.size)); clear hb_))
               (try simp only [Act.put, sI, sZ, sS])
               have WR64 := i64_w
               have WR32 := i32_w
               refine up_regionW (by kernel_rfl) (by kernel_rfl) ?_
               refine q_do (.bool t22) (fun w'_ hc_ => ex_mv (.tmp 8) (.inl rfl) _ rfl) rfl rfl ?_
               intro ts_ ht_; simp only [sI, sZ, sS] at ht_; subst ht_
               refine q_do (.int .i64 t24) (fun w'_ hc_ => ex_mv (.tmp 9) (.inl rfl) _ rfl) rfl rfl ?_
               intro ts_ ht_; simp only [sI, sZ, sS] at ht_; subst ht_
               refine q_do (.bool (decide (t24 ≥ 0))) (fun w'_ hc_ => by go_simp <;> (unfold wrap64; omega)) rfl rfl ?_
               intro ts_ ht_; simp only [sI, sZ, sS] at ht_; subst ht_
               refine q_do (.bool false) (fun w'_ hc_ => by go_simp <;> (unfold wrap64; omega)) rfl rfl ?_
               intro ts_ ht_; simp only [sI, sZ, sS] at ht_; subst ht_
               refine q_do (.bool false) (fun w'_ hc_ => ex_mv (.tmp 78) (.inl rfl) _ rfl) rfl rfl ?_
               intro ts_ ht_; simp only [sI, sZ, sS] at ht_; subst ht_
               refine q_do (.int .i64 t21) (fun w'_ hc_ => ex_mv (.tmp 7) (.inl rfl) _ rfl) rfl rfl ?_
               intro ts_ ht_; simp only [sI, sZ, sS] at ht_; subst ht_
               refine q_do (.int .i64 t24) (fun w'_ hc_ => ex_mv (.tmp 9) (.inl rfl) _ rfl) rfl rfl ?_
               intro ts_ ht_; simp only [sI, sZ, sS] at ht_; subst ht_
               refine q_do (.int .i64 0) (fun w'_ hc_ => by go_simp <;> (unfold wrap64; omega)) rfl rfl ?_
               intro ts_ ht_; simp only [sI, sZ, sS] at ht_; subst ht_
               refine q_do (.bool false) (fun w'_ hc_ => by go_simp <;> (unfold wrap64; omega)) rfl rfl ?_
               intro ts_ ht_; simp only [sI, sZ, sS] at ht_; subst ht_
               refine q_do (.bool false) (fun w'_ hc_ => by go_simp <;> (unfold wrap64; omega)) rfl rfl ?_
               intro ts_ ht_; simp only [sI, sZ, sS] at ht_; subst ht_
               refine q_do (.bool false) (fun w'_ hc_ => ex_mv (.tmp 84) (.inl rfl) _ rfl) rfl rfl ?_
               intro ts_ ht_; simp only [sI, sZ, sS] at ht_; subst ht_
               refine q_do (.agg (bv a0)) (fun w'_ hc_ => by obtain ⟨n_, hn_⟩ := hc_; exact ex_load boardT gb1 0 (bv a0) (bv a0) (by rw [hn_]; exact BKb1.out.below n_.below BKb1.out.lt) (av_le LN_a0.out) (av_ex LN_a0.out) _ rfl rfl) rfl rfl ?_
               intro ts_ ht_; simp only [sI, sZ, sS] at ht_; subst ht_
               refine q_do (.int .i64 x49_0) (fun w'_ hc_ => ex_mv (.tmp 6) (.inl rfl) _ rfl) rfl rfl ?_
               intro ts_ ht_; simp only [sI, sZ, sS] at ht_; subst ht_
               refine q_call (.int .i64 t25) 41 #[.agg (bv a0), .int .i64 x49_0] (fun w'_ => by go_simp) (fun w'_ hc_ => (i_count_Promoted.calls k165 a0 x49_0 LN_a0.out t25 _ A181.out).mono fun e_ w2_ h_ => ⟨h_.1, up_below hc_ h_.2⟩) rfl rfl ?_
               intro ts_ ht_; simp only [sI, sZ, sS] at ht_; subst ht_
               refine q_do (.agg (bv a0)) (fun w'_ hc_ => by obtain ⟨n_, hn_⟩ := hc_; exact ex_load boardT gb1 0 (bv a0) (bv a0) (by rw [hn_]; exact BKb1.out.below n_.below BKb1.out.lt) (av_le LN_a0.out) (av_ex LN_a0.out) _ rfl rfl) rfl rfl ?_
               intro ts_ ht_; simp only [sI, sZ, sS] at ht_; subst ht_
               refine q_do (.int .i64 x49_0) (fun w'_ hc_ => ex_mv (.tmp 6) (.inl rfl) _ rfl) rfl rfl ?_
               intro ts_ ht_; simp only [sI, sZ, sS] at ht_; subst ht_
               refine q_call (.int .i64 t26) 43 #[.agg (bv a0), .int .i64 x49_0] (fun w'_ => by go_simp) (fun w'_ hc_ => (i_alfilref24_Promoted.calls k165 a0 x49_0 LN_a0.out t26 _ A182.out).mono fun e_ w2_ h_ => ⟨h_.1, up_below hc_ h_.2⟩) rfl rfl ?_
               intro ts_ ht_; simp only [sI, sZ, sS] at ht_; subst ht_
               refine q_do (.bool true) (fun w'_ hc_ => by go_simp <;> (unfold wrap64; omega)) rfl rfl ?_
               intro ts_ ht_; simp only [sI, sZ, sS] at ht_; subst ht_
               refine q_do (.bool true) (fun w'_ hc_ => by go_simp <;> (unfold wrap64; omega)) rfl rfl ?_
               intro ts_ ht_; simp only [sI, sZ, sS] at ht_; subst ht_
               refine q_end ?_
               rintro w8_ ⟨n_, rfl⟩
               replace BKb1 := hid (BKb1.out.below n_.below BKb1.out.lt)
               replace HL := hid (HL.out.trans (n_.below.mono HL.out.size))
               generalize n_.world = w189 at *
               clear n_ WR64 WR32
               go_wp2_with fail
               (try simp only [Act.put, sI, sZ, sS])
               go_ret
               exact ⟨by first | rfl | (simp; done) | (simp [*]; done), HL.out⟩
             ·
              rw [if_neg c180] at H
              have c180b0 : (t21 == 0) = false := beq_eq_false_iff_ne.mpr c180
              have c180b1 : (t21 != 0) = true := bne_iff_ne.mpr c180
              have hc180 := hid c180
              clear c180
              obtain rfl := Option.some.inj H
              clear H
              have k190 := True.intro
              go_wp2_with (first
               | (go_at_call 42; clear k190; refine (i_alfilref24_Least.calls k165 a0 x49_0 LN_a0.out t24 _ A172.out).mono ?_; rintro e_ w191 ⟨rfl, hb_⟩; replace BKb1 := hid (BKb1.out.below hb_ BKb1.out.lt); replace HL := hid (HL.out.trans (hb_.mono HL.out.size)); clear hb_))
              (try simp only [Act.put, sI, sZ, sS])
              have WR64 := i64_w
              have WR32 := i32_w
              refine up_regionW (by kernel_rfl) (by kernel_rfl) ?_
              refine q_do (.bool t22) (fun w'_ hc_ => ex_mv (.tmp 8) (.inl rfl) _ rfl) rfl rfl ?_
              intro ts_ ht_; simp only [sI, sZ, sS] at ht_; subst ht_
              refine q_do (.int .i64 t24) (fun w'_ hc_ => ex_mv (.tmp 9) (.inl rfl) _ rfl) rfl rfl ?_
              intro ts_ ht_; simp only [sI, sZ, sS] at ht_; subst ht_
              refine q_do (.bool (decide (t24 ≥ 0))) (fun w'_ hc_ => by go_simp <;> (unfold wrap64; omega)) rfl rfl ?_
              intro ts_ ht_; simp only [sI, sZ, sS] at ht_; subst ht_
              refine q_do (.bool false) (fun w'_ hc_ => by go_simp <;> (unfold wrap64; omega)) rfl rfl ?_
              intro ts_ ht_; simp only [sI, sZ, sS] at ht_; subst ht_
              refine q_do (.bool false) (fun w'_ hc_ => ex_mv (.tmp 78) (.inl rfl) _ rfl) rfl rfl ?_
              intro ts_ ht_; simp only [sI, sZ, sS] at ht_; subst ht_
              refine q_do (.int .i64 t21) (fun w'_ hc_ => ex_mv (.tmp 7) (.inl rfl) _ rfl) rfl rfl ?_
              intro ts_ ht_; simp only [sI, sZ, sS] at ht_; subst ht_
              refine q_do (.int .i64 t24) (fun w'_ hc_ => ex_mv (.tmp 9) (.inl rfl) _ rfl) rfl rfl ?_
              intro ts_ ht_; simp only [sI, sZ, sS] at ht_; subst ht_
              refine q_do (.int .i64 0) (fun w'_ hc_ => by go_simp <;> (unfold wrap64; omega)) rfl rfl ?_
              intro ts_ ht_; simp only [sI, sZ, sS] at ht_; subst ht_
              refine q_do (.bool true) (fun w'_ hc_ => by go_simp <;> (unfold wrap64; omega)) rfl rfl ?_
              intro ts_ ht_; simp only [sI, sZ, sS] at ht_; subst ht_
              refine q_do (.bool true) (fun w'_ hc_ => by go_simp <;> (unfold wrap64; omega)) rfl rfl ?_
              intro ts_ ht_; simp only [sI, sZ, sS] at ht_; subst ht_
              refine q_do (.bool true) (fun w'_ hc_ => ex_mv (.tmp 84) (.inl rfl) _ rfl) rfl rfl ?_
              intro ts_ ht_; simp only [sI, sZ, sS] at ht_; subst ht_
              refine q_not 10 true rfl rfl rfl ?_
              intro ts_ ht_; simp only [sI, sZ, sS] at ht_; subst ht_
              refine q_not 10 true rfl rfl rfl ?_
              intro ts_ ht_; simp only [sI, sZ, sS] at ht_; subst ht_
              refine q_not 10 true rfl rfl rfl ?_
              intro ts_ ht_; simp only [sI, sZ, sS] at ht_; subst ht_
              refine q_not 10 true rfl rfl rfl ?_
              intro ts_ ht_; simp only [sI, sZ, sS] at ht_; subst ht_
              refine q_not 10 true rfl rfl rfl ?_
              intro ts_ ht_; simp only [sI, sZ, sS] at ht_; subst ht_
              refine q_not 10 true rfl rfl rfl ?_
              intro ts_ ht_; simp only [sI, sZ, sS] at ht_; subst ht_
              refine q_not 10 true rfl rfl rfl ?_
              intro ts_ ht_; simp only [sI, sZ, sS] at ht_; subst ht_
              refine q_do (.bool true) (fun w'_ hc_ => by go_simp <;> (unfold wrap64; omega)) rfl rfl ?_
              intro ts_ ht_; simp only [sI, sZ, sS] at ht_; subst ht_
              refine q_end ?_
              rintro w8_ ⟨n_, rfl⟩
              replace BKb1 := hid (BKb1.out.below n_.below BKb1.out.lt)
              replace HL := hid (HL.out.trans (n_.below.mono HL.out.size))
              generalize n_.world = w192 at *
              clear n_ WR64 WR32
              go_wp2_with fail
              (try simp only [Act.put, sI, sZ, sS])
              go_ret
              exact ⟨by first | rfl | (simp; done) | (simp [*]; done), HL.out⟩
            ·
             rw [if_neg c179] at H
             have c179b0 : decide (t24 < 0) = false := decide_eq_false c179
             have c179b1 : (if t24 < 0 then 0 else t24) = t24 := if_neg c179
             have c179b2 : max t24 0 = t24 := by omega
             have hc179 := hid c179
             clear c179
             by_cases c193 : t21 = t24
             ·
              rw [if_pos c193] at H
              have c193b0 : (t21 == t24) = true := beq_iff_eq.mpr c193
              have c193b1 : (t21 != t24) = false := bne_eq_false_iff_eq.mpr c193
              have hc193 := hid c193
              clear c193
              replace H := Option.bind_eq_some_iff.mp H
              obtain ⟨t27, A194_, H⟩ := H
              have A194 := hid A194_
              clear A194_
              replace H := Option.bind_eq_some_iff.mp H
              obtain ⟨t28, A195_, H⟩ := H
              have A195 := hid A195_
              clear A195_
              by_cases c196 : t27 = t28
              ·
               rw [if_pos c196] at H
               have c196b0 : (t27 == t28) = true := beq_iff_eq.mpr c196
               have c196b1 : (t27 != t28) = false := bne_eq_false_iff_eq.mpr c196
               have hc196 := hid c196
               clear c196
               have H' := hid H
               clear H
               have k197 := True.intro
               go_wp2_with (first
                | (go_at_call 42; clear k197; refine (i_alfilref24_Least.calls k165 a0 x49_0 LN_a0.out t24 _ A172.out).mono ?_; rintro e_ w198 ⟨rfl, hb_⟩; replace BKb1 := hid (BKb1.out.below hb_ BKb1.out.lt); replace HL := hid (HL.out.trans (hb_.mono HL.out.size)); clear hb_))
               (try simp only [Act.put, sI, sZ, sS])
               have WR64 := i64_w
               have WR32 := i32_w
               refine up_regionW (by kernel_rfl) (by kernel_rfl) ?_
               refine q_do (.bool t22) (fun w'_ hc_ => ex_mv (.tmp 8) (.inl rfl) _ rfl) rfl rfl ?_
               intro ts_ ht_; simp only [sI, sZ, sS] at ht_; subst ht_
               refine q_do (.int .i64 t24) (fun w'_ hc_ => ex_mv (.tmp 9) (.inl rfl) _ rfl) rfl rfl ?_
               intro ts_ ht_; simp only [sI, sZ, sS] at ht_; subst ht_
               refine q_do (.bool (decide (t24 ≥ 0))) (fun w'_ hc_ => by go_simp <;> (unfold wrap64; omega)) rfl rfl ?_
               intro ts_ ht_; simp only [sI, sZ, sS] at ht_; subst ht_
               refine q_do (.bool false) (fun w'_ hc_ => by go_simp <;> (unfold wrap64; omega)) rfl rfl ?_
               intro ts_ ht_; simp only [sI, sZ, sS] at ht_; subst ht_
               refine q_do (.bool false) (fun w'_ hc_ => ex_mv (.tmp 78) (.inl rfl) _ rfl) rfl rfl ?_
               intro ts_ ht_; simp only [sI, sZ, sS] at ht_; subst ht_
               refine q_do (.int .i64 t21) (fun w'_ hc_ => ex_mv (.tmp 7) (.inl rfl) _ rfl) rfl rfl ?_
               intro ts_ ht_; simp only [sI, sZ, sS] at ht_; subst ht_
               refine q_do (.int .i64 t24) (fun w'_ hc_ => ex_mv (.tmp 9) (.inl rfl) _ rfl) rfl rfl ?_
               intro ts_ ht_; simp only [sI, sZ, sS] at ht_; subst ht_
               refine q_do (.int .i64 t24) (fun w'_ hc_ => by go_simp <;> (unfold wrap64; omega)) rfl rfl ?_
               intro ts_ ht_; simp only [sI, sZ, sS] at ht_; subst ht_
               refine q_do (.bool false) (fun w'_ hc_ => by go_simp <;> (unfold wrap64; omega)) rfl rfl ?_
               intro ts_ ht_; simp only [sI, sZ, sS] at ht_; subst ht_
               refine q_do (.bool false) (fun w'_ hc_ => by go_simp <;> (unfold wrap64; omega)) rfl rfl ?_
               intro ts_ ht_; simp only [sI, sZ, sS] at ht_; subst ht_
               refine q_do (.bool false) (fun w'_ hc_ => ex_mv (.tmp 84) (.inl rfl) _ rfl) rfl rfl ?_
               intro ts_ ht_; simp only [sI, sZ, sS] at ht_; subst ht_
               refine q_do (.agg (bv a0)) (fun w'_ hc_ => by obtain ⟨n_, hn_⟩ := hc_; exact ex_load boardT gb1 0 (bv a0) (bv a0) (by rw [hn_]; exact BKb1.out.below n_.below BKb1.out.lt) (av_le LN_a0.out) (av_ex LN_a0.out) _ rfl rfl) rfl rfl ?_
               intro ts_ ht_; simp only [sI, sZ, sS] at ht_; subst ht_
               refine q_do (.int .i64 x49_0) (fun w'_ hc_ => ex_mv (.tmp 6) (.inl rfl) _ rfl) rfl rfl ?_
               intro ts_ ht_; simp only [sI, sZ, sS] at ht_; subst ht_
               refine q_call (.int .i64 t27) 41 #[.agg (bv a0), .int .i64 x49_0] (fun w'_ => by go_simp) (fun w'_ hc_ => (i_count_Promoted.calls k165 a0 x49_0 LN_a0.out t27 _ A194.out).mono fun e_ w2_ h_ => ⟨h_.1, up_below hc_ h_.2⟩) rfl rfl ?_
               intro ts_ ht_; simp only [sI, sZ, sS] at ht_; subst ht_
               refine q_do (.agg (bv a0)) (fun w'_ hc_ => by obtain ⟨n_, hn_⟩ := hc_; exact ex_load boardT gb1 0 (bv a0) (bv a0) (by rw [hn_]; exact BKb1.out.below n_.below BKb1.out.lt) (av_le LN_a0.out) (av_ex LN_a0.out) _ rfl rfl) rfl rfl ?_
               intro ts_ ht_; simp only [sI, sZ, sS] at ht_; subst ht_
               refine q_do (.int .i64 x49_0) (fun w'_ hc_ => ex_mv (.tmp 6) (.inl rfl) _ rfl) rfl rfl ?_
               intro ts_ ht_; simp only [sI, sZ, sS] at ht_; subst ht_
               refine q_call (.int .i64 t28) 43 #[.agg (bv a0), .int .i64 x49_0] (fun w'_ => by go_simp) (fun w'_ hc_ => (i_alfilref24_Promoted.calls k165 a0 x49_0 LN_a0.out t28 _ A195.out).mono fun e_ w2_ h_ => ⟨h_.1, up_below hc_ h_.2⟩) rfl rfl ?_
               intro ts_ ht_; simp only [sI, sZ, sS] at ht_; subst ht_
               refine q_do (.bool false) (fun w'_ hc_ => by go_simp <;> (unfold wrap64; omega)) rfl rfl ?_
               intro ts_ ht_; simp only [sI, sZ, sS] at ht_; subst ht_
               refine q_do (.bool false) (fun w'_ hc_ => by go_simp <;> (unfold wrap64; omega)) rfl rfl ?_
               intro ts_ ht_; simp only [sI, sZ, sS] at ht_; subst ht_
               refine q_end ?_
               rintro w8_ ⟨n_, rfl⟩
               replace BKb1 := hid (BKb1.out.below n_.below BKb1.out.lt)
               replace HL := hid (HL.out.trans (n_.below.mono HL.out.size))
               generalize n_.world = w199 at *
               clear n_ WR64 WR32
               go_wp2_with fail
               (try simp only [Act.put, sI, sZ, sS])
               go_roundg k165
               case measure => have := HK164.out; omega
               case rel => exact ⟨wrap64 (x49_0 + 1), (by first | rfl | (simp; done) | (simp [*]; done)), H', (hid (by first | omega | (have := HK164.out; omega))), (hid (by exact BKb1.out)), HL⟩
              ·
               rw [if_neg c196] at H
               have c196b0 : (t27 == t28) = false := beq_eq_false_iff_ne.mpr c196
               have c196b1 : (t27 != t28) = true := bne_iff_ne.mpr c196
               have hc196 := hid c196
               clear c196
               obtain rfl := Option.some.inj H
               clear H
               have k200 := True.intro
               go_wp2_with (first
                | (go_at_call 42; clear k200; refine (i_alfilref24_Least.calls k165 a0 x49_0 LN_a0.out t24 _ A172.out).mono ?_; rintro e_ w201 ⟨rfl, hb_⟩; replace BKb1 := hid (BKb1.out.below hb_ BKb1.out.lt); replace HL := hid (HL.out.trans (hb_.mono HL.out.size)); clear hb_))
               (try simp only [Act.put, sI, sZ, sS])
               have WR64 := i64_w
               have WR32 := i32_w
               refine up_regionW (by kernel_rfl) (by kernel_rfl) ?_
               refine q_do (.bool t22) (fun w'_ hc_ => ex_mv (.tmp 8) (.inl rfl) _ rfl) rfl rfl ?_
               intro ts_ ht_; simp only [sI, sZ, sS] at ht_; subst ht_
               refine q_do (.int .i64 t24) (fun w'_ hc_ => ex_mv (.tmp 9) (.inl rfl) _ rfl) rfl rfl ?_
               intro ts_ ht_; simp only [sI, sZ, sS] at ht_; subst ht_
               refine q_do (.bool (decide (t24 ≥ 0))) (fun w'_ hc_ => by go_simp <;> (unfold wrap64; omega)) rfl rfl ?_
               intro ts_ ht_; simp only [sI, sZ, sS] at ht_; subst ht_
               refine q_do (.bool false) (fun w'_ hc_ => by go_simp <;> (unfold wrap64; omega)) rfl rfl ?_
               intro ts_ ht_; simp only [sI, sZ, sS] at ht_; subst ht_
               refine q_do (.bool false) (fun w'_ hc_ => ex_mv (.tmp 78) (.inl rfl) _ rfl) rfl rfl ?_
               intro ts_ ht_; simp only [sI, sZ, sS] at ht_; subst ht_
               refine q_do (.int .i64 t21) (fun w'_ hc_ => ex_mv (.tmp 7) (.inl rfl) _ rfl) rfl rfl ?_
               intro ts_ ht_; simp only [sI, sZ, sS] at ht_; subst ht_
               refine q_do (.int .i64 t24) (fun w'_ hc_ => ex_mv (.tmp 9) (.inl rfl) _ rfl) rfl rfl ?_
               intro ts_ ht_; simp only [sI, sZ, sS] at ht_; subst ht_
               refine q_do (.int .i64 t24) (fun w'_ hc_ => by go_simp <;> (unfold wrap64; omega)) rfl rfl ?_
               intro ts_ ht_; simp only [sI, sZ, sS] at ht_; subst ht_
               refine q_do (.bool false) (fun w'_ hc_ => by go_simp <;> (unfold wrap64; omega)) rfl rfl ?_
               intro ts_ ht_; simp only [sI, sZ, sS] at ht_; subst ht_
               refine q_do (.bool false) (fun w'_ hc_ => by go_simp <;> (unfold wrap64; omega)) rfl rfl ?_
               intro ts_ ht_; simp only [sI, sZ, sS] at ht_; subst ht_
               refine q_do (.bool false) (fun w'_ hc_ => ex_mv (.tmp 84) (.inl rfl) _ rfl) rfl rfl ?_
               intro ts_ ht_; simp only [sI, sZ, sS] at ht_; subst ht_
               refine q_do (.agg (bv a0)) (fun w'_ hc_ => by obtain ⟨n_, hn_⟩ := hc_; exact ex_load boardT gb1 0 (bv a0) (bv a0) (by rw [hn_]; exact BKb1.out.below n_.below BKb1.out.lt) (av_le LN_a0.out) (av_ex LN_a0.out) _ rfl rfl) rfl rfl ?_
               intro ts_ ht_; simp only [sI, sZ, sS] at ht_; subst ht_
               refine q_do (.int .i64 x49_0) (fun w'_ hc_ => ex_mv (.tmp 6) (.inl rfl) _ rfl) rfl rfl ?_
               intro ts_ ht_; simp only [sI, sZ, sS] at ht_; subst ht_
               refine q_call (.int .i64 t27) 41 #[.agg (bv a0), .int .i64 x49_0] (fun w'_ => by go_simp) (fun w'_ hc_ => (i_count_Promoted.calls k165 a0 x49_0 LN_a0.out t27 _ A194.out).mono fun e_ w2_ h_ => ⟨h_.1, up_below hc_ h_.2⟩) rfl rfl ?_
               intro ts_ ht_; simp only [sI, sZ, sS] at ht_; subst ht_
               refine q_do (.agg (bv a0)) (fun w'_ hc_ => by obtain ⟨n_, hn_⟩ := hc_; exact ex_load boardT gb1 0 (bv a0) (bv a0) (by rw [hn_]; exact BKb1.out.below n_.below BKb1.out.lt) (av_le LN_a0.out) (av_ex LN_a0.out) _ rfl rfl) rfl rfl ?_
               intro ts_ ht_; simp only [sI, sZ, sS] at ht_; subst ht_
               refine q_do (.int .i64 x49_0) (fun w'_ hc_ => ex_mv (.tmp 6) (.inl rfl) _ rfl) rfl rfl ?_
               intro ts_ ht_; simp only [sI, sZ, sS] at ht_; subst ht_
               refine q_call (.int .i64 t28) 43 #[.agg (bv a0), .int .i64 x49_0] (fun w'_ => by go_simp) (fun w'_ hc_ => (i_alfilref24_Promoted.calls k165 a0 x49_0 LN_a0.out t28 _ A195.out).mono fun e_ w2_ h_ => ⟨h_.1, up_below hc_ h_.2⟩) rfl rfl ?_
               intro ts_ ht_; simp only [sI, sZ, sS] at ht_; subst ht_
               refine q_do (.bool true) (fun w'_ hc_ => by go_simp <;> (unfold wrap64; omega)) rfl rfl ?_
               intro ts_ ht_; simp only [sI, sZ, sS] at ht_; subst ht_
               refine q_do (.bool true) (fun w'_ hc_ => by go_simp <;> (unfold wrap64; omega)) rfl rfl ?_
               intro ts_ ht_; simp only [sI, sZ, sS] at ht_; subst ht_
               refine q_end ?_
               rintro w8_ ⟨n_, rfl⟩
               replace BKb1 := hid (BKb1.out.below n_.below BKb1.out.lt)
               replace HL := hid (HL.out.trans (n_.below.mono HL.out.size))
               generalize n_.world = w202 at *
               clear n_ WR64 WR32
               go_wp2_with fail
               (try simp only [Act.put, sI, sZ, sS])
               go_ret
               exact ⟨by first | rfl | (simp; done) | (simp [*]; done), HL.out⟩
             ·
              rw [if_neg c193] at H
              have c193b0 : (t21 == t24) = false := beq_eq_false_iff_ne.mpr c193
              have c193b1 : (t21 != t24) = true := bne_iff_ne.mpr c193
              have hc193 := hid c193
              clear c193
              obtain rfl := Option.some.inj H
              clear H
              have k203 := True.intro
              go_wp2_with (first
               | (go_at_call 42; clear k203; refine (i_alfilref24_Least.calls k165 a0 x49_0 LN_a0.out t24 _ A172.out).mono ?_; rintro e_ w204 ⟨rfl, hb_⟩; replace BKb1 := hid (BKb1.out.below hb_ BKb1.out.lt); replace HL := hid (HL.out.trans (hb_.mono HL.out.size)); clear hb_))
              (try simp only [Act.put, sI, sZ, sS])
              have WR64 := i64_w
              have WR32 := i32_w
              refine up_regionW (by kernel_rfl) (by kernel_rfl) ?_
              refine q_do (.bool t22) (fun w'_ hc_ => ex_mv (.tmp 8) (.inl rfl) _ rfl) rfl rfl ?_
              intro ts_ ht_; simp only [sI, sZ, sS] at ht_; subst ht_
              refine q_do (.int .i64 t24) (fun w'_ hc_ => ex_mv (.tmp 9) (.inl rfl) _ rfl) rfl rfl ?_
              intro ts_ ht_; simp only [sI, sZ, sS] at ht_; subst ht_
              refine q_do (.bool (decide (t24 ≥ 0))) (fun w'_ hc_ => by go_simp <;> (unfold wrap64; omega)) rfl rfl ?_
              intro ts_ ht_; simp only [sI, sZ, sS] at ht_; subst ht_
              refine q_do (.bool false) (fun w'_ hc_ => by go_simp <;> (unfold wrap64; omega)) rfl rfl ?_
              intro ts_ ht_; simp only [sI, sZ, sS] at ht_; subst ht_
              refine q_do (.bool false) (fun w'_ hc_ => ex_mv (.tmp 78) (.inl rfl) _ rfl) rfl rfl ?_
              intro ts_ ht_; simp only [sI, sZ, sS] at ht_; subst ht_
              refine q_do (.int .i64 t21) (fun w'_ hc_ => ex_mv (.tmp 7) (.inl rfl) _ rfl) rfl rfl ?_
              intro ts_ ht_; simp only [sI, sZ, sS] at ht_; subst ht_
              refine q_do (.int .i64 t24) (fun w'_ hc_ => ex_mv (.tmp 9) (.inl rfl) _ rfl) rfl rfl ?_
              intro ts_ ht_; simp only [sI, sZ, sS] at ht_; subst ht_
              refine q_do (.int .i64 t24) (fun w'_ hc_ => by go_simp <;> (unfold wrap64; omega)) rfl rfl ?_
              intro ts_ ht_; simp only [sI, sZ, sS] at ht_; subst ht_
              refine q_do (.bool true) (fun w'_ hc_ => by go_simp <;> (unfold wrap64; omega)) rfl rfl ?_
              intro ts_ ht_; simp only [sI, sZ, sS] at ht_; subst ht_
              refine q_do (.bool true) (fun w'_ hc_ => by go_simp <;> (unfold wrap64; omega)) rfl rfl ?_
              intro ts_ ht_; simp only [sI, sZ, sS] at ht_; subst ht_
              refine q_do (.bool true) (fun w'_ hc_ => ex_mv (.tmp 84) (.inl rfl) _ rfl) rfl rfl ?_
              intro ts_ ht_; simp only [sI, sZ, sS] at ht_; subst ht_
              refine q_not 10 true rfl rfl rfl ?_
              intro ts_ ht_; simp only [sI, sZ, sS] at ht_; subst ht_
              refine q_not 10 true rfl rfl rfl ?_
              intro ts_ ht_; simp only [sI, sZ, sS] at ht_; subst ht_
              refine q_not 10 true rfl rfl rfl ?_
              intro ts_ ht_; simp only [sI, sZ, sS] at ht_; subst ht_
              refine q_not 10 true rfl rfl rfl ?_
              intro ts_ ht_; simp only [sI, sZ, sS] at ht_; subst ht_
              refine q_not 10 true rfl rfl rfl ?_
              intro ts_ ht_; simp only [sI, sZ, sS] at ht_; subst ht_
              refine q_not 10 true rfl rfl rfl ?_
              intro ts_ ht_; simp only [sI, sZ, sS] at ht_; subst ht_
              refine q_not 10 true rfl rfl rfl ?_
              intro ts_ ht_; simp only [sI, sZ, sS] at ht_; subst ht_
              refine q_do (.bool true) (fun w'_ hc_ => by go_simp <;> (unfold wrap64; omega)) rfl rfl ?_
              intro ts_ ht_; simp only [sI, sZ, sS] at ht_; subst ht_
              refine q_end ?_
              rintro w8_ ⟨n_, rfl⟩
              replace BKb1 := hid (BKb1.out.below n_.below BKb1.out.lt)
              replace HL := hid (HL.out.trans (n_.below.mono HL.out.size))
              generalize n_.world = w205 at *
              clear n_ WR64 WR32
              go_wp2_with fail
              (try simp only [Act.put, sI, sZ, sS])
              go_ret
              exact ⟨by first | rfl | (simp; done) | (simp [*]; done), HL.out⟩
          | false =>
           rw [if_neg (show ¬ (false = true) by decide)] at H
           by_cases c206 : t21 = 0
           ·
            rw [if_pos c206] at H
            have c206b0 : (t21 == 0) = true := beq_iff_eq.mpr c206
            have c206b1 : (t21 != 0) = false := bne_eq_false_iff_eq.mpr c206
            have hc206 := hid c206
            clear c206
            cases t22 with
            | true =>
             rw [if_pos rfl] at H
             obtain rfl := Option.some.inj H
             clear H
             have k208 := True.intro
             go_wp2_with (first
              | (go_at_call 37; clear k208; refine (i_alfilref03_Right.calls k165 a0 LN_a0.out false _ A168.out).mono ?_; rintro e_ w209 ⟨rfl, hb_⟩; replace BKb1 := hid (BKb1.out.below hb_ BKb1.out.lt); replace HL := hid (HL.out.trans (hb_.mono HL.out.size)); clear hb_))
             (try simp only [Act.put, sI, sZ, sS])
             go_ret
             exact ⟨by first | rfl | (simp; done) | (simp [*]; done), HL.out⟩
            | false =>
             rw [if_neg (show ¬ (false = true) by decide)] at H
             have H' := hid H
             clear H
             have k211 := True.intro
             go_wp2_with (first
              | (go_at_call 37; clear k211; refine (i_alfilref03_Right.calls k165 a0 LN_a0.out false _ A168.out).mono ?_; rintro e_ w212 ⟨rfl, hb_⟩; replace BKb1 := hid (BKb1.out.below hb_ BKb1.out.lt); replace HL := hid (HL.out.trans (hb_.mono HL.out.size)); clear hb_)
              | ((with_reducible refine gate_d (N := 67) rfl ?_); refine ag_fix (.agg (bv a0)) (ex_load boardT gb1 0 (bv a0) (bv a0) BKb1.out (av_le LN_a0.out) (av_ex LN_a0.out) _ rfl rfl) rfl ?_))
             (try simp only [Act.put, sI, sZ, sS])
             have H := H'.out
             clear H'
             replace H := Option.bind_eq_some_iff.mp H
             obtain ⟨t29, A210_, H⟩ := H
             have A210 := hid A210_
             clear A210_
             by_cases c213 : t29 = 0
             ·
              rw [if_pos c213] at H
              have c213b0 : (t29 == 0) = true := beq_iff_eq.mpr c213
              have c213b1 : (t29 != 0) = false := bne_eq_false_iff_eq.mpr c213
              have hc213 := hid c213
              clear c213
              have H' := hid H
              clear H
              have k214 := True.intro
              go_wp2_with (first
               | (go_at_call 41; clear k214; refine (i_count_Promoted.calls k165 a0 x49_0 LN_a0.out t29 _ A210.out).mono ?_; rintro e_ w215 ⟨rfl, hb_⟩; replace BKb1 := hid (BKb1.out.below hb_ BKb1.out.lt); replace HL := hid (HL.out.trans (hb_.mono HL.out.size)); clear hb_))
              (try simp only [Act.put, sI, sZ, sS])
              go_roundg k165
              case measure => have := HK164.out; omega
              case rel => exact ⟨wrap64 (x49_0 + 1), (by first | rfl | (simp; done) | (simp [*]; done)), H', (hid (by first | omega | (have := HK164.out; omega))), (hid (by exact BKb1.out)), HL⟩
             ·
              rw [if_neg c213] at H
              have c213b0 : (t29 == 0) = false := beq_eq_false_iff_ne.mpr c213
              have c213b1 : (t29 != 0) = true := bne_iff_ne.mpr c213
              have hc213 := hid c213
              clear c213
              obtain rfl := Option.some.inj H
              clear H
              have k216 := True.intro
              go_wp2_with (first
               | (go_at_call 41; clear k216; refine (i_count_Promoted.calls k165 a0 x49_0 LN_a0.out t29 _ A210.out).mono ?_; rintro e_ w217 ⟨rfl, hb_⟩; replace BKb1 := hid (BKb1.out.below hb_ BKb1.out.lt); replace HL := hid (HL.out.trans (hb_.mono HL.out.size)); clear hb_))
              (try simp only [Act.put, sI, sZ, sS])
              go_ret
              exact ⟨by first | rfl | (simp; done) | (simp [*]; done), HL.out⟩
           ·
            rw [if_neg c206] at H
            have c206b0 : (t21 == 0) = false := beq_eq_false_iff_ne.mpr c206
            have c206b1 : (t21 != 0) = true := bne_iff_ne.mpr c206
            have hc206 := hid c206
            clear c206
            obtain rfl := Option.some.inj H
            clear H
            have k218 := True.intro
            go_wp2_with (first
             | (go_at_call 37; clear k218; refine (i_alfilref03_Right.calls k165 a0 LN_a0.out false _ A168.out).mono ?_; rintro e_ w219 ⟨rfl, hb_⟩; replace BKb1 := hid (BKb1.out.below hb_ BKb1.out.lt); replace HL := hid (HL.out.trans (hb_.mono HL.out.size)); clear hb_))
            (try simp only [Act.put, sI, sZ, sS])
            go_ret
            exact ⟨by first | rfl | (simp; done) | (simp [*]; done), HL.out⟩
         ·
          rw [if_neg c166] at H
          have c166b0 : decide (x49_0 < 2) = false := decide_eq_false c166
          have hc166 := hid c166
          clear c166
          replace H := Option.bind_eq_some_iff.mp H
          obtain ⟨⟨t30, t31⟩, A220_, H⟩ := H
          dsimp only at H
          have A220 := hid A220_
          clear A220_
          by_cases c221 : t30 = 0
          ·
           rw [if_pos c221] at H
           have c221b0 : (t30 == 0) = true := beq_iff_eq.mpr c221
           have c221b1 : (t30 != 0) = false := bne_eq_false_iff_eq.mpr c221
           have hc221 := hid c221
           clear c221
           cases t31 with
           | true =>
            rw [if_pos rfl] at H
            obtain rfl := Option.some.inj H
            clear H
            have k223 := True.intro
            go_wp2_with (first
             | ((with_reducible refine gate_d (N := 96) rfl ?_); refine ag_fix (.agg (bv a0)) (ex_load boardT gb1 0 (bv a0) (bv a0) BKb1.out (av_le LN_a0.out) (av_ex LN_a0.out) _ rfl rfl) rfl ?_)
             | (go_at_call 40; clear k223; refine (i_count_Least.calls k165 a0 2 LN_a0.out t30 true _ A220.out).mono ?_; rintro e_ w224 ⟨rfl, hb_⟩; replace BKb1 := hid (BKb1.out.below hb_ BKb1.out.lt); replace HL := hid (HL.out.trans (hb_.mono HL.out.size)); clear hb_))
            (try simp only [Act.put, sI, sZ, sS])
            go_ret
            exact ⟨by first | rfl | (simp; done) | (simp [*]; done), HL.out⟩
           | false =>
            rw [if_neg (show ¬ (false = true) by decide)] at H
            replace H := Option.bind_eq_some_iff.mp H
            obtain ⟨t32, A225_, H⟩ := H
            have A225 := hid A225_
            clear A225_
            obtain rfl := Option.some.inj H
            clear H
            have k226 := True.intro
            have k228 := True.intro
            go_wp2_with (first
             | ((with_reducible refine gate_d (N := 96) rfl ?_); refine ag_fix (.agg (bv a0)) (ex_load boardT gb1 0 (bv a0) (bv a0) BKb1.out (av_le LN_a0.out) (av_ex LN_a0.out) _ rfl rfl) rfl ?_)
             | (go_at_call 40; clear k226; refine (i_count_Least.calls k165 a0 2 LN_a0.out t30 false _ A220.out).mono ?_; rintro e_ w227 ⟨rfl, hb_⟩; replace BKb1 := hid (BKb1.out.below hb_ BKb1.out.lt); replace HL := hid (HL.out.trans (hb_.mono HL.out.size)); clear hb_)
             | ((with_reducible refine gate_d (N := 107) rfl ?_); refine ag_fix (.agg (bv a0)) (ex_load boardT gb1 0 (bv a0) (bv a0) BKb1.out (av_le LN_a0.out) (av_ex LN_a0.out) _ rfl rfl) rfl ?_)
             | (go_at_call 41; clear k228; refine (i_count_Promoted.calls k165 a0 (-1) LN_a0.out t32 _ A225.out).mono ?_; rintro e_ w229 ⟨rfl, hb_⟩; replace BKb1 := hid (BKb1.out.below hb_ BKb1.out.lt); replace HL := hid (HL.out.trans (hb_.mono HL.out.size)); clear hb_))
            (try simp only [Act.put, sI, sZ, sS])
            go_ret
            exact ⟨by first | rfl | (simp; done) | (simp [*]; done), HL.out⟩
          ·
           rw [if_neg c221] at H
           have c221b0 : (t30 == 0) = false := beq_eq_false_iff_ne.mpr c221
           have c221b1 : (t30 != 0) = true := bne_iff_ne.mpr c221
           have hc221 := hid c221
           clear c221
           obtain rfl := Option.some.inj H
           clear H
           have k230 := True.intro
           go_wp2_with (first
            | ((with_reducible refine gate_d (N := 96) rfl ?_); refine ag_fix (.agg (bv a0)) (ex_load boardT gb1 0 (bv a0) (bv a0) BKb1.out (av_le LN_a0.out) (av_ex LN_a0.out) _ rfl rfl) rfl ?_)
            | (go_at_call 40; clear k230; refine (i_count_Least.calls k165 a0 2 LN_a0.out t30 t31 _ A220.out).mono ?_; rintro e_ w231 ⟨rfl, hb_⟩; replace BKb1 := hid (BKb1.out.below hb_ BKb1.out.lt); replace HL := hid (HL.out.trans (hb_.mono HL.out.size)); clear hb_))
           (try simp only [Act.put, sI, sZ, sS])
           go_ret
           exact ⟨by first | rfl | (simp; done) | (simp [*]; done), HL.out⟩
    ·
     rw [if_neg c152] at H
     have c152b0 : (t3 == t7) = false := beq_eq_false_iff_ne.mpr c152
     have c152b1 : (t3 != t7) = true := bne_iff_ne.mpr c152
     have hc152 := hid c152
     clear c152
     obtain rfl := Option.some.inj H
     clear H
     have k232 := True.intro
     go_wp2_with (first
      | (go_at_call 38; clear k232; refine (i_alfilref24_Why.calls k a0 LN_a0.out t7 _ A149.out).mono ?_; rintro e_ w233 ⟨rfl, hb_⟩; replace BKb1 := hid (BKb1.out.below hb_ BKb1.out.lt); replace HL := hid (HL.out.trans (hb_.mono HL.out.size)); clear hb_))
     (try simp only [Act.put, sI, sZ, sS])
     go_ret
     exact ⟨by first | rfl | (simp; done) | (simp [*]; done), HL.out⟩
   ·
    rw [if_neg c148] at H
    have c148b0 : decide (t6 ≤ 8) = false := decide_eq_false c148
    have hc148 := hid c148
    clear c148
    have H' := hid H
    clear H
    have k235 := True.intro
    go_wp2_with (first
     | (go_at_call 36; clear k235; refine (i_alfillaw24_pawns.calls k a0 1 LN_a0.out t6 _ A145.out).mono ?_; rintro e_ w236 ⟨rfl, hb_⟩; replace BKb1 := hid (BKb1.out.below hb_ BKb1.out.lt); replace HL := hid (HL.out.trans (hb_.mono HL.out.size)); clear hb_)
     | ((with_reducible refine gate_d (N := 28) rfl ?_); refine ag_fix (.agg (bv a0)) (ex_load boardT gb1 0 (bv a0) (bv a0) BKb1.out (av_le LN_a0.out) (av_ex LN_a0.out) _ rfl rfl) rfl ?_))
    (try simp only [Act.put, sI, sZ, sS])
    have H := H'.out
    clear H'
    replace H := Option.bind_eq_some_iff.mp H
    obtain ⟨t33, A234_, H⟩ := H
    have A234 := hid A234_
    clear A234_
    cases t33 with
    | true =>
     rw [if_pos rfl] at H
     have H' := hid H
     clear H
     have k238 := True.intro
     go_wp2_with (first
      | (go_at_call 37; clear k238; refine (i_alfilref03_Right.calls k a0 LN_a0.out true _ A234.out).mono ?_; rintro e_ w239 ⟨rfl, hb_⟩; replace BKb1 := hid (BKb1.out.below hb_ BKb1.out.lt); replace HL := hid (HL.out.trans (hb_.mono HL.out.size)); clear hb_))
     (try simp only [Act.put, sI, sZ, sS])
     go_loopg [49] k (fun kq v49 w' => ∃ (x49_1 : Int), v49 = .int .i64 x49_1 ∧ Hid (i_alfillaw24_CountAll.l1 kq a0 x49_1 = some r1) ∧ Hid (kq ≤ k) ∧ Hid (Blk w' gb1 44 (bv a0)) ∧ Hid (Below w.heap.size w w'))
     case atStart => exact ⟨(0 : Int), (by first | rfl | (simp; done) | (simp [*]; done)), H', (hid (by first | omega | (omega))), (hid (by exact BKb1.out)), HL⟩
     case round =>
      clear H'
      clear HL BKb1
      obtain ⟨x49_1, rfl, HA, HK240, BKb1, HL⟩ := hrel
      cases gk with
      | zero => exact absurd HA.out (by simp [i_alfillaw24_CountAll.l1])
      | succ k241 =>
       have H := HA.out
       clear HA
       simp only [i_alfillaw24_CountAll.l1] at H
       by_cases c242 : x49_1 < 2
       ·
        rw [if_pos c242] at H
        have c242b0 : decide (x49_1 < 2) = true := decide_eq_true c242
        have hc242 := hid c242
        clear c242
        replace H := Option.bind_eq_some_iff.mp H
        obtain ⟨⟨t46, t47⟩, A243_, H⟩ := H
        dsimp only at H
        have A243 := hid A243_
        clear A243_
        have H' := hid H
        clear H
        have k245 := True.intro
        go_wp2_with (first
         | ((with_reducible refine gate_d (N := 53) rfl ?_); refine ag_fix (.agg (bv a0)) (ex_load boardT gb1 0 (bv a0) (bv a0) BKb1.out (av_le LN_a0.out) (av_ex LN_a0.out) _ rfl rfl) rfl ?_)
         | (go_at_call 40; clear k245; refine (i_count_Least.calls k241 a0 x49_1 LN_a0.out t46 t47 _ A243.out).mono ?_; rintro e_ w246 ⟨rfl, hb_⟩; replace BKb1 := hid (BKb1.out.below hb_ BKb1.out.lt); replace HL := hid (HL.out.trans (hb_.mono HL.out.size)); clear hb_)
         | ((with_reducible refine gate_d (N := 58) rfl ?_); refine ag_fix (.agg (bv a0)) (ex_load boardT gb1 0 (bv a0) (bv a0) BKb1.out (av_le LN_a0.out) (av_ex LN_a0.out) _ rfl rfl) rfl ?_))
        (try simp only [Act.put, sI, sZ, sS])
        have H := H'.out
        clear H'
        replace H := Option.bind_eq_some_iff.mp H
        obtain ⟨t48, A244_, H⟩ := H
        have A244 := hid A244_
        clear A244_
        cases t48 with
        | true =>
         rw [if_pos rfl] at H
         have H' := hid H
         clear H
         have k249 := True.intro
         go_wp2_with (first
          | (go_at_call 37; clear k249; refine (i_alfilref03_Right.calls k241 a0 LN_a0.out true _ A244.out).mono ?_; rintro e_ w250 ⟨rfl, hb_⟩; replace BKb1 := hid (BKb1.out.below hb_ BKb1.out.lt); replace HL := hid (HL.out.trans (hb_.mono HL.out.size)); clear hb_)
          | ((with_reducible refine gate_d (N := 72) rfl ?_); refine ag_fix (.agg (bv a0)) (ex_load boardT gb1 0 (bv a0) (bv a0) BKb1.out (av_le LN_a0.out) (av_ex LN_a0.out) _ rfl rfl) rfl ?_))
         (try simp only [Act.put, sI, sZ, sS])
         have H := H'.out
         clear H'
         replace H := Option.bind_eq_some_iff.mp H
         obtain ⟨t49, A248_, H⟩ := H
         have A248 := hid A248_
         clear A248_
         by_cases c251 : (t47 != (decide (t49 ≥ 0))) = true
         ·
          rw [if_pos c251] at H
          have c251b0 : (t47 != (decide (t49 ≥ 0))) = true := c251
          (try have c251b1 : decide (t47 = (decide (t49 ≥ 0))) = false := by simpa using c251)
          (try have c251b2 : (t47 == (decide (t49 ≥ 0))) = false := by simpa using c251)
          (try have c251b3 : ¬ (t47 = (decide (t49 ≥ 0))) := by simpa using c251)
          have hc251 := hid c251
          clear c251
          obtain rfl := Option.some.inj H
          clear H
          have k252 := True.intro
          go_wp2_with (first
           | (go_at_call 42; clear k252; refine (i_alfilref24_Least.calls k241 a0 x49_1 LN_a0.out t49 _ A248.out).mono ?_; rintro e_ w253 ⟨rfl, hb_⟩; replace BKb1 := hid (BKb1.out.below hb_ BKb1.out.lt); replace HL := hid (HL.out.trans (hb_.mono HL.out.size)); clear hb_))
          (try simp only [Act.put, sI, sZ, sS])
          have WR64 := i64_w
          have WR32 := i32_w
          refine up_regionW (by kernel_rfl) (by kernel_rfl) ?_
          refine q_do (.bool t47) (fun w'_ hc_ => ex_mv (.tmp 8) (.inl rfl) _ rfl) rfl rfl ?_
          intro ts_ ht_; simp only [sI, sZ, sS] at ht_; subst ht_
          refine q_do (.int .i64 t49) (fun w'_ hc_ => ex_mv (.tmp 9) (.inl rfl) _ rfl) rfl rfl ?_
          intro ts_ ht_; simp only [sI, sZ, sS] at ht_; subst ht_
          refine q_do (.bool (decide (t49 ≥ 0))) (fun w'_ hc_ => by go_simp <;> (unfold wrap64; omega)) rfl rfl ?_
          intro ts_ ht_; simp only [sI, sZ, sS] at ht_; subst ht_
          refine q_do (.bool true) (fun w'_ hc_ => by go_simp <;> (unfold wrap64; omega)) rfl rfl ?_
          intro ts_ ht_; simp only [sI, sZ, sS] at ht_; subst ht_
          refine q_do (.bool true) (fun w'_ hc_ => ex_mv (.tmp 78) (.inl rfl) _ rfl) rfl rfl ?_
          intro ts_ ht_; simp only [sI, sZ, sS] at ht_; subst ht_
          refine q_not 4 true rfl rfl rfl ?_
          intro ts_ ht_; simp only [sI, sZ, sS] at ht_; subst ht_
          refine q_not 4 true rfl rfl rfl ?_
          intro ts_ ht_; simp only [sI, sZ, sS] at ht_; subst ht_
          refine q_not 4 true rfl rfl rfl ?_
          intro ts_ ht_; simp only [sI, sZ, sS] at ht_; subst ht_
          refine q_not 4 true rfl rfl rfl ?_
          intro ts_ ht_; simp only [sI, sZ, sS] at ht_; subst ht_
          refine q_do (.bool true) (fun w'_ hc_ => by go_simp <;> (unfold wrap64; omega)) rfl rfl ?_
          intro ts_ ht_; simp only [sI, sZ, sS] at ht_; subst ht_
          refine q_do (.bool true) (fun w'_ hc_ => ex_mv (.tmp 84) (.inl rfl) _ rfl) rfl rfl ?_
          intro ts_ ht_; simp only [sI, sZ, sS] at ht_; subst ht_
          refine q_not 10 true rfl rfl rfl ?_
          intro ts_ ht_; simp only [sI, sZ, sS] at ht_; subst ht_
          refine q_not 10 true rfl rfl rfl ?_
          intro ts_ ht_; simp only [sI, sZ, sS] at ht_; subst ht_
          refine q_not 10 true rfl rfl rfl ?_
          intro ts_ ht_; simp only [sI, sZ, sS] at ht_; subst ht_
          refine q_not 10 true rfl rfl rfl ?_
          intro ts_ ht_; simp only [sI, sZ, sS] at ht_; subst ht_
          refine q_not 10 true rfl rfl rfl ?_
          intro ts_ ht_; simp only [sI, sZ, sS] at ht_; subst ht_
          refine q_not 10 true rfl rfl rfl ?_
          intro ts_ ht_; simp only [sI, sZ, sS] at ht_; subst ht_
          refine q_not 10 true rfl rfl rfl ?_
          intro ts_ ht_; simp only [sI, sZ, sS] at ht_; subst ht_
          refine q_do (.bool true) (fun w'_ hc_ => by go_simp <;> (unfold wrap64; omega)) rfl rfl ?_
          intro ts_ ht_; simp only [sI, sZ, sS] at ht_; subst ht_
          refine q_end ?_
          rintro w8_ ⟨n_, rfl⟩
          replace BKb1 := hid (BKb1.out.below n_.below BKb1.out.lt)
          replace HL := hid (HL.out.trans (n_.below.mono HL.out.size))
          generalize n_.world = w254 at *
          clear n_ WR64 WR32
          go_wp2_with fail
          (try simp only [Act.put, sI, sZ, sS])
          go_ret
          exact ⟨by first | rfl | (simp; done) | (simp [*]; done), HL.out⟩
         ·
          rw [if_neg c251] at H
          have c251b0 : (t47 != (decide (t49 ≥ 0))) = false := by simpa using c251
          (try have c251b1 : decide (t47 = (decide (t49 ≥ 0))) = true := by simpa using c251)
          (try have c251b2 : (t47 == (decide (t49 ≥ 0))) = true := by simpa using c251)
          have hc251 := hid c251
          clear c251
          by_cases c255 : t49 < 0
          ·
           rw [if_pos c255] at H
           have c255b0 : decide (t49 < 0) = true := decide_eq_true c255
           have c255b1 : (if t49 < 0 then 0 else t49) = 0 := if_pos c255
           have c255b2 : max t49 0 = 0 := by omega
           have hc255 := hid c255
           clear c255
           by_cases c256 : t46 = 0
           ·
            rw [if_pos c256] at H
            have c256b0 : (t46 == 0) = true := beq_iff_eq.mpr c256
            have c256b1 : (t46 != 0) = false := bne_eq_false_iff_eq.mpr c256
            have hc256 := hid c256
            clear c256
            replace H := Option.bind_eq_some_iff.mp H
            obtain ⟨t50, A257_, H⟩ := H
            have A257 := hid A257_
            clear A257_
            replace H := Option.bind_eq_some_iff.mp H
            obtain ⟨t51, A258_, H⟩ := H
            have A258 := hid A258_
            clear A258_
            by_cases c259 : t50 = t51
            ·
             rw [if_pos c259] at H
             have c259b0 : (t50 == t51) = true := beq_iff_eq.mpr c259
             have c259b1 : (t50 != t51) = false := bne_eq_false_iff_eq.mpr c259
             have hc259 := hid c259
             clear c259
             have H' := hid H
             clear H
             have k260 := True.intro
             go_wp2_with (first
              | (go_at_call 42; clear k260; refine (i_alfilref24_Least.calls k241 a0 x49_1 LN_a0.out t49 _ A248.out).mono ?_; rintro e_ w261 ⟨rfl, hb_⟩; replace BKb1 := hid (BKb1.out.below hb_ BKb1.out.lt); replace HL := hid (HL.out.trans (hb_.mono HL.out.size)); clear hb_))
             (try simp only [Act.put, sI, sZ, sS])
             have WR64 := i64_w
             have WR32 := i32_w
             refine up_regionW (by kernel_rfl) (by kernel_rfl) ?_
             refine q_do (.bool t47) (fun w'_ hc_ => ex_mv (.tmp 8) (.inl rfl) _ rfl) rfl rfl ?_
             intro ts_ ht_; simp only [sI, sZ, sS] at ht_; subst ht_
             refine q_do (.int .i64 t49) (fun w'_ hc_ => ex_mv (.tmp 9) (.inl rfl) _ rfl) rfl rfl ?_
             intro ts_ ht_; simp only [sI, sZ, sS] at ht_; subst ht_
             refine q_do (.bool (decide (t49 ≥ 0))) (fun w'_ hc_ => by go_simp <;> (unfold wrap64; omega)) rfl rfl ?_
             intro ts_ ht_; simp only [sI, sZ, sS] at ht_; subst ht_
             refine q_do (.bool false) (fun w'_ hc_ => by go_simp <;> (unfold wrap64; omega)) rfl rfl ?_
             intro ts_ ht_; simp only [sI, sZ, sS] at ht_; subst ht_
             refine q_do (.bool false) (fun w'_ hc_ => ex_mv (.tmp 78) (.inl rfl) _ rfl) rfl rfl ?_
             intro ts_ ht_; simp only [sI, sZ, sS] at ht_; subst ht_
             refine q_do (.int .i64 t46) (fun w'_ hc_ => ex_mv (.tmp 7) (.inl rfl) _ rfl) rfl rfl ?_
             intro ts_ ht_; simp only [sI, sZ, sS] at ht_; subst ht_
             refine q_do (.int .i64 t49) (fun w'_ hc_ => ex_mv (.tmp 9) (.inl rfl) _ rfl) rfl rfl ?_
             intro ts_ ht_; simp only [sI, sZ, sS] at ht_; subst ht_
             refine q_do (.int .i64 0) (fun w'_ hc_ => by go_simp <;> (unfold wrap64; omega)) rfl rfl ?_
             intro ts_ ht_; simp only [sI, sZ, sS] at ht_; subst ht_
             refine q_do (.bool false) (fun w'_ hc_ => by go_simp <;> (unfold wrap64; omega)) rfl rfl ?_
             intro ts_ ht_; simp only [sI, sZ, sS] at ht_; subst ht_
             refine q_do (.bool false) (fun w'_ hc_ => by go_simp <;> (unfold wrap64; omega)) rfl rfl ?_
             intro ts_ ht_; simp only [sI, sZ, sS] at ht_; subst ht_
             refine q_do (.bool false) (fun w'_ hc_ => ex_mv (.tmp 84) (.inl rfl) _ rfl) rfl rfl ?_
             intro ts_ ht_; simp only [sI, sZ, sS] at ht_; subst ht_
             refine q_do (.agg (bv a0)) (fun w'_ hc_ => by obtain ⟨n_, hn_⟩ := hc_; exact ex_load boardT gb1 0 (bv a0) (bv a0) (by rw [hn_]; exact BKb1.out.below n_.below BKb1.out.lt) (av_le LN_a0.out) (av_ex LN_a0.out) _ rfl rfl) rfl rfl ?_
             intro ts_ ht_; simp only [sI, sZ, sS] at ht_; subst ht_
             refine q_do (.int .i64 x49_1) (fun w'_ hc_ => ex_mv (.tmp 6) (.inl rfl) _ rfl) rfl rfl ?_
             intro ts_ ht_; simp only [sI, sZ, sS] at ht_; subst ht_
             refine q_call (.int .i64 t50) 41 #[.agg (bv a0), .int .i64 x49_1] (fun w'_ => by go_simp) (fun w'_ hc_ => (i_count_Promoted.calls k241 a0 x49_1 LN_a0.out t50 _ A257.out).mono fun e_ w2_ h_ => ⟨h_.1, up_below hc_ h_.2⟩) rfl rfl ?_
             intro ts_ ht_; simp only [sI, sZ, sS] at ht_; subst ht_
             refine q_do (.agg (bv a0)) (fun w'_ hc_ => by obtain ⟨n_, hn_⟩ := hc_; exact ex_load boardT gb1 0 (bv a0) (bv a0) (by rw [hn_]; exact BKb1.out.below n_.below BKb1.out.lt) (av_le LN_a0.out) (av_ex LN_a0.out) _ rfl rfl) rfl rfl ?_
             intro ts_ ht_; simp only [sI, sZ, sS] at ht_; subst ht_
             refine q_do (.int .i64 x49_1) (fun w'_ hc_ => ex_mv (.tmp 6) (.inl rfl) _ rfl) rfl rfl ?_
             intro ts_ ht_; simp only [sI, sZ, sS] at ht_; subst ht_
             refine q_call (.int .i64 t51) 43 #[.agg (bv a0), .int .i64 x49_1] (fun w'_ => by go_simp) (fun w'_ hc_ => (i_alfilref24_Promoted.calls k241 a0 x49_1 LN_a0.out t51 _ A258.out).mono fun e_ w2_ h_ => ⟨h_.1, up_below hc_ h_.2⟩) rfl rfl ?_
             intro ts_ ht_; simp only [sI, sZ, sS] at ht_; subst ht_
             refine q_do (.bool false) (fun w'_ hc_ => by go_simp <;> (unfold wrap64; omega)) rfl rfl ?_
             intro ts_ ht_; simp only [sI, sZ, sS] at ht_; subst ht_
             refine q_do (.bool false) (fun w'_ hc_ => by go_simp <;> (unfold wrap64; omega)) rfl rfl ?_
             intro ts_ ht_; simp only [sI, sZ, sS] at ht_; subst ht_
             refine q_end ?_
             rintro w8_ ⟨n_, rfl⟩
             replace BKb1 := hid (BKb1.out.below n_.below BKb1.out.lt)
             replace HL := hid (HL.out.trans (n_.below.mono HL.out.size))
             generalize n_.world = w262 at *
             clear n_ WR64 WR32
             go_wp2_with fail
             (try simp only [Act.put, sI, sZ, sS])
             go_roundg k241
             case measure => have := HK240.out; omega
             case rel => exact ⟨wrap64 (x49_1 + 1), (by first | rfl | (simp; done) | (simp [*]; done)), H', (hid (by first | omega | (have := HK240.out; omega))), (hid (by exact BKb1.out)), HL⟩
            ·
             rw [if_neg c259] at H
             have c259b0 : (t50 == t51) = false := beq_eq_false_iff_ne.mpr c259
             have c259b1 : (t50 != t51) = true := bne_iff_ne.mpr c259
             have hc259 := hid c259
             clear c259
             obtain rfl := Option.some.inj H
             clear H
             have k263 := True.intro
             go_wp2_with (first
              | (go_at_call 42; clear k263; refine (i_alfilref24_Least.calls k241 a0 x49_1 LN_a0.out t49 _ A248.out).mono ?_; rintro e_ w264 ⟨rfl, hb_⟩; replace BKb1 := hid (BKb1.out.below hb_ BKb1.out.lt); replace HL := hid (HL.out.trans (hb_.mono HL.out.size)); clear hb_))
             (try simp only [Act.put, sI, sZ, sS])
             have WR64 := i64_w
             have WR32 := i32_w
             refine up_regionW (by kernel_rfl) (by kernel_rfl) ?_
             refine q_do (.bool t47) (fun w'_ hc_ => ex_mv (.tmp 8) (.inl rfl) _ rfl) rfl rfl ?_
             intro ts_ ht_; simp only [sI, sZ, sS] at ht_; subst ht_
             refine q_do (.int .i64 t49) (fun w'_ hc_ => ex_mv (.tmp 9) (.inl rfl) _ rfl) rfl rfl ?_
             intro ts_ ht_; simp only [sI, sZ, sS] at ht_; subst ht_
             refine q_do (.bool (decide (t49 ≥ 0))) (fun w'_ hc_ => by go_simp <;> (unfold wrap64; omega)) rfl rfl ?_
             intro ts_ ht_; simp only [sI, sZ, sS] at ht_; subst ht_
             refine q_do (.bool false) (fun w'_ hc_ => by go_simp <;> (unfold wrap64; omega)) rfl rfl ?_
             intro ts_ ht_; simp only [sI, sZ, sS] at ht_; subst ht_
             refine q_do (.bool false) (fun w'_ hc_ => ex_mv (.tmp 78) (.inl rfl) _ rfl) rfl rfl ?_
             intro ts_ ht_; simp only [sI, sZ, sS] at ht_; subst ht_
             refine q_do (.int .i64 t46) (fun w'_ hc_ => ex_mv (.tmp 7) (.inl rfl) _ rfl) rfl rfl ?_
             intro ts_ ht_; simp only [sI, sZ, sS] at ht_; subst ht_
             refine q_do (.int .i64 t49) (fun w'_ hc_ => ex_mv (.tmp 9) (.inl rfl) _ rfl) rfl rfl ?_
             intro ts_ ht_; simp only [sI, sZ, sS] at ht_; subst ht_
             refine q_do (.int .i64 0) (fun w'_ hc_ => by go_simp <;> (unfold wrap64; omega)) rfl rfl ?_
             intro ts_ ht_; simp only [sI, sZ, sS] at ht_; subst ht_
             refine q_do (.bool false) (fun w'_ hc_ => by go_simp <;> (unfold wrap64; omega)) rfl rfl ?_
             intro ts_ ht_; simp only [sI, sZ, sS] at ht_; subst ht_
             refine q_do (.bool false) (fun w'_ hc_ => by go_simp <;> (unfold wrap64; omega)) rfl rfl ?_
             intro ts_ ht_; simp only [sI, sZ, sS] at ht_; subst ht_
             refine q_do (.bool false) (fun w'_ hc_ => ex_mv (.tmp 84) (.inl rfl) _ rfl) rfl rfl ?_
             intro ts_ ht_; simp only [sI, sZ, sS] at ht_; subst ht_
             refine q_do (.agg (bv a0)) (fun w'_ hc_ => by obtain ⟨n_, hn_⟩ := hc_; exact ex_load boardT gb1 0 (bv a0) (bv a0) (by rw [hn_]; exact BKb1.out.below n_.below BKb1.out.lt) (av_le LN_a0.out) (av_ex LN_a0.out) _ rfl rfl) rfl rfl ?_
             intro ts_ ht_; simp only [sI, sZ, sS] at ht_; subst ht_
             refine q_do (.int .i64 x49_1) (fun w'_ hc_ => ex_mv (.tmp 6) (.inl rfl) _ rfl) rfl rfl ?_
             intro ts_ ht_; simp only [sI, sZ, sS] at ht_; subst ht_
             refine q_call (.int .i64 t50) 41 #[.agg (bv a0), .int .i64 x49_1] (fun w'_ => by go_simp) (fun w'_ hc_ => (i_count_Promoted.calls k241 a0 x49_1 LN_a0.out t50 _ A257.out).mono fun e_ w2_ h_ => ⟨h_.1, up_below hc_ h_.2⟩) rfl rfl ?_
             intro ts_ ht_; simp only [sI, sZ, sS] at ht_; subst ht_
             refine q_do (.agg (bv a0)) (fun w'_ hc_ => by obtain ⟨n_, hn_⟩ := hc_; exact ex_load boardT gb1 0 (bv a0) (bv a0) (by rw [hn_]; exact BKb1.out.below n_.below BKb1.out.lt) (av_le LN_a0.out) (av_ex LN_a0.out) _ rfl rfl) rfl rfl ?_
             intro ts_ ht_; simp only [sI, sZ, sS] at ht_; subst ht_
             refine q_do (.int .i64 x49_1) (fun w'_ hc_ => ex_mv (.tmp 6) (.inl rfl) _ rfl) rfl rfl ?_
             intro ts_ ht_; simp only [sI, sZ, sS] at ht_; subst ht_
             refine q_call (.int .i64 t51) 43 #[.agg (bv a0), .int .i64 x49_1] (fun w'_ => by go_simp) (fun w'_ hc_ => (i_alfilref24_Promoted.calls k241 a0 x49_1 LN_a0.out t51 _ A258.out).mono fun e_ w2_ h_ => ⟨h_.1, up_below hc_ h_.2⟩) rfl rfl ?_
             intro ts_ ht_; simp only [sI, sZ, sS] at ht_; subst ht_
             refine q_do (.bool true) (fun w'_ hc_ => by go_simp <;> (unfold wrap64; omega)) rfl rfl ?_
             intro ts_ ht_; simp only [sI, sZ, sS] at ht_; subst ht_
             refine q_do (.bool true) (fun w'_ hc_ => by go_simp <;> (unfold wrap64; omega)) rfl rfl ?_
             intro ts_ ht_; simp only [sI, sZ, sS] at ht_; subst ht_
             refine q_end ?_
             rintro w8_ ⟨n_, rfl⟩
             replace BKb1 := hid (BKb1.out.below n_.below BKb1.out.lt)
             replace HL := hid (HL.out.trans (n_.below.mono HL.out.size))
             generalize n_.world = w265 at *
             clear n_ WR64 WR32
             go_wp2_with fail
             (try simp only [Act.put, sI, sZ, sS])
             go_ret
             exact ⟨by first | rfl | (simp; done) | (simp [*]; done), HL.out⟩
           ·
            rw [if_neg c256] at H
            have c256b0 : (t46 == 0) = false := beq_eq_false_iff_ne.mpr c256
            have c256b1 : (t46 != 0) = true := bne_iff_ne.mpr c256
            have hc256 := hid c256
            clear c256
            obtain rfl := Option.some.inj H
            clear H
            have k266 := True.intro
            go_wp2_with (first
             | (go_at_call 42; clear k266; refine (i_alfilref24_Least.calls k241 a0 x49_1 LN_a0.out t49 _ A248.out).mono ?_; rintro e_ w267 ⟨rfl, hb_⟩; replace BKb1 := hid (BKb1.out.below hb_ BKb1.out.lt); replace HL := hid (HL.out.trans (hb_.mono HL.out.size)); clear hb_))
            (try simp only [Act.put, sI, sZ, sS])
            have WR64 := i64_w
            have WR32 := i32_w
            refine up_regionW (by kernel_rfl) (by kernel_rfl) ?_
            refine q_do (.bool t47) (fun w'_ hc_ => ex_mv (.tmp 8) (.inl rfl) _ rfl) rfl rfl ?_
            intro ts_ ht_; simp only [sI, sZ, sS] at ht_; subst ht_
            refine q_do (.int .i64 t49) (fun w'_ hc_ => ex_mv (.tmp 9) (.inl rfl) _ rfl) rfl rfl ?_
            intro ts_ ht_; simp only [sI, sZ, sS] at ht_; subst ht_
            refine q_do (.bool (decide (t49 ≥ 0))) (fun w'_ hc_ => by go_simp <;> (unfold wrap64; omega)) rfl rfl ?_
            intro ts_ ht_; simp only [sI, sZ, sS] at ht_; subst ht_
            refine q_do (.bool false) (fun w'_ hc_ => by go_simp <;> (unfold wrap64; omega)) rfl rfl ?_
            intro ts_ ht_; simp only [sI, sZ, sS] at ht_; subst ht_
            refine q_do (.bool false) (fun w'_ hc_ => ex_mv (.tmp 78) (.inl rfl) _ rfl) rfl rfl ?_
            intro ts_ ht_; simp only [sI, sZ, sS] at ht_; subst ht_
            refine q_do (.int .i64 t46) (fun w'_ hc_ => ex_mv (.tmp 7) (.inl rfl) _ rfl) rfl rfl ?_
            intro ts_ ht_; simp only [sI, sZ, sS] at ht_; subst ht_
            refine q_do (.int .i64 t49) (fun w'_ hc_ => ex_mv (.tmp 9) (.inl rfl) _ rfl) rfl rfl ?_
            intro ts_ ht_; simp only [sI, sZ, sS] at ht_; subst ht_
            refine q_do (.int .i64 0) (fun w'_ hc_ => by go_simp <;> (unfold wrap64; omega)) rfl rfl ?_
            intro ts_ ht_; simp only [sI, sZ, sS] at ht_; subst ht_
            refine q_do (.bool true) (fun w'_ hc_ => by go_simp <;> (unfold wrap64; omega)) rfl rfl ?_
            intro ts_ ht_; simp only [sI, sZ, sS] at ht_; subst ht_
            refine q_do (.bool true) (fun w'_ hc_ => by go_simp <;> (unfold wrap64; omega)) rfl rfl ?_
            intro ts_ ht_; simp only [sI, sZ, sS] at ht_; subst ht_
            refine q_do (.bool true) (fun w'_ hc_ => ex_mv (.tmp 84) (.inl rfl) _ rfl) rfl rfl ?_
            intro ts_ ht_; simp only [sI, sZ, sS] at ht_; subst ht_
            refine q_not 10 true rfl rfl rfl ?_
            intro ts_ ht_; simp only [sI, sZ, sS] at ht_; subst ht_
            refine q_not 10 true rfl rfl rfl ?_
            intro ts_ ht_; simp only [sI, sZ, sS] at ht_; subst ht_
            refine q_not 10 true rfl rfl rfl ?_
            intro ts_ ht_; simp only [sI, sZ, sS] at ht_; subst ht_
            refine q_not 10 true rfl rfl rfl ?_
            intro ts_ ht_; simp only [sI, sZ, sS] at ht_; subst ht_
            refine q_not 10 true rfl rfl rfl ?_
            intro ts_ ht_; simp only [sI, sZ, sS] at ht_; subst ht_
            refine q_not 10 true rfl rfl rfl ?_
            intro ts_ ht_; simp only [sI, sZ, sS] at ht_; subst ht_
            refine q_not 10 true rfl rfl rfl ?_
            intro ts_ ht_; simp only [sI, sZ, sS] at ht_; subst ht_
            refine q_do (.bool true) (fun w'_ hc_ => by go_simp <;> (unfold wrap64; omega)) rfl rfl ?_
            intro ts_ ht_; simp only [sI, sZ, sS] at ht_; subst ht_
            refine q_end ?_
            rintro w8_ ⟨n_, rfl⟩
            replace BKb1 := hid (BKb1.out.below n_.below BKb1.out.lt)
            replace HL := hid (HL.out.trans (n_.below.mono HL.out.size))
            generalize n_.world = w268 at *
            clear n_ WR64 WR32
            go_wp2_with fail
            (try simp only [Act.put, sI, sZ, sS])
            go_ret
            exact ⟨by first | rfl | (simp; done) | (simp [*]; done), HL.out⟩
          ·
           rw [if_neg c255] at H
           have c255b0 : decide (t49 < 0) = false := decide_eq_false c255
           have c255b1 : (if t49 < 0 then 0 else t49) = t49 := if_neg c255
           have c255b2 : max t49 0 = t49 := by omega
           have hc255 := hid c255
           clear c255
           by_cases c269 : t46 = t49
           ·
            rw [if_pos c269] at H
            have c269b0 : (t46 == t49) = true := beq_iff_eq.mpr c269
            have c269b1 : (t46 != t49) = false := bne_eq_false_iff_eq.mpr c269
            have hc269 := hid c269
            clear c269
            replace H := Option.bind_eq_some_iff.mp H
            obtain ⟨t52, A270_, H⟩ := H
            have A270 := hid A270_
            clear A270_
            replace H := Option.bind_eq_some_iff.mp H
            obtain ⟨t53, A271_, H⟩ := H
            have A271 := hid A271_
            clear A271_
            by_cases c272 : t52 = t53
            ·
             rw [if_pos c272] at H
             have c272b0 : (t52 == t53) = true := beq_iff_eq.mpr c272
             have c272b1 : (t52 != t53) = false := bne_eq_false_iff_eq.mpr c272
             have hc272 := hid c272
             clear c272
             have H' := hid H
             clear H
             have k273 := True.intro
             go_wp2_with (first
              | (go_at_call 42; clear k273; refine (i_alfilref24_Least.calls k241 a0 x49_1 LN_a0.out t49 _ A248.out).mono ?_; rintro e_ w274 ⟨rfl, hb_⟩; replace BKb1 := hid (BKb1.out.below hb_ BKb1.out.lt); replace HL := hid (HL.out.trans (hb_.mono HL.out.size)); clear hb_))
             (try simp only [Act.put, sI, sZ, sS])
             have WR64 := i64_w
             have WR32 := i32_w
             refine up_regionW (by kernel_rfl) (by kernel_rfl) ?_
             refine q_do (.bool t47) (fun w'_ hc_ => ex_mv (.tmp 8) (.inl rfl) _ rfl) rfl rfl ?_
             intro ts_ ht_; simp only [sI, sZ, sS] at ht_; subst ht_
             refine q_do (.int .i64 t49) (fun w'_ hc_ => ex_mv (.tmp 9) (.inl rfl) _ rfl) rfl rfl ?_
             intro ts_ ht_; simp only [sI, sZ, sS] at ht_; subst ht_
             refine q_do (.bool (decide (t49 ≥ 0))) (fun w'_ hc_ => by go_simp <;> (unfold wrap64; omega)) rfl rfl ?_
             intro ts_ ht_; simp only [sI, sZ, sS] at ht_; subst ht_
             refine q_do (.bool false) (fun w'_ hc_ => by go_simp <;> (unfold wrap64; omega)) rfl rfl ?_
             intro ts_ ht_; simp only [sI, sZ, sS] at ht_; subst ht_
             refine q_do (.bool false) (fun w'_ hc_ => ex_mv (.tmp 78) (.inl rfl) _ rfl) rfl rfl ?_
             intro ts_ ht_; simp only [sI, sZ, sS] at ht_; subst ht_
             refine q_do (.int .i64 t46) (fun w'_ hc_ => ex_mv (.tmp 7) (.inl rfl) _ rfl) rfl rfl ?_
             intro ts_ ht_; simp only [sI, sZ, sS] at ht_; subst ht_
             refine q_do (.int .i64 t49) (fun w'_ hc_ => ex_mv (.tmp 9) (.inl rfl) _ rfl) rfl rfl ?_
             intro ts_ ht_; simp only [sI, sZ, sS] at ht_; subst ht_
             refine q_do (.int .i64 t49) (fun w'_ hc_ => by go_simp <;> (unfold wrap64; omega)) rfl rfl ?_
             intro ts_ ht_; simp only [sI, sZ, sS] at ht_; subst ht_
             refine q_do (.bool false) (fun w'_ hc_ => by go_simp <;> (unfold wrap64; omega)) rfl rfl ?_
             intro ts_ ht_; simp only [sI, sZ, sS] at ht_; subst ht_
             refine q_do (.bool false) (fun w'_ hc_ => by go_simp <;> (unfold wrap64; omega)) rfl rfl ?_
             intro ts_ ht_; simp only [sI, sZ, sS] at ht_; subst ht_
             refine q_do (.bool false) (fun w'_ hc_ => ex_mv (.tmp 84) (.inl rfl) _ rfl) rfl rfl ?_
             intro ts_ ht_; simp only [sI, sZ, sS] at ht_; subst ht_
             refine q_do (.agg (bv a0)) (fun w'_ hc_ => by obtain ⟨n_, hn_⟩ := hc_; exact ex_load boardT gb1 0 (bv a0) (bv a0) (by rw [hn_]; exact BKb1.out.below n_.below BKb1.out.lt) (av_le LN_a0.out) (av_ex LN_a0.out) _ rfl rfl) rfl rfl ?_
             intro ts_ ht_; simp only [sI, sZ, sS] at ht_; subst ht_
             refine q_do (.int .i64 x49_1) (fun w'_ hc_ => ex_mv (.tmp 6) (.inl rfl) _ rfl) rfl rfl ?_
             intro ts_ ht_; simp only [sI, sZ, sS] at ht_; subst ht_
             refine q_call (.int .i64 t52) 41 #[.agg (bv a0), .int .i64 x49_1] (fun w'_ => by go_simp) (fun w'_ hc_ => (i_count_Promoted.calls k241 a0 x49_1 LN_a0.out t52 _ A270.out).mono fun e_ w2_ h_ => ⟨h_.1, up_below hc_ h_.2⟩) rfl rfl ?_
             intro ts_ ht_; simp only [sI, sZ, sS] at ht_; subst ht_
             refine q_do (.agg (bv a0)) (fun w'_ hc_ => by obtain ⟨n_, hn_⟩ := hc_; exact ex_load boardT gb1 0 (bv a0) (bv a0) (by rw [hn_]; exact BKb1.out.below n_.below BKb1.out.lt) (av_le LN_a0.out) (av_ex LN_a0.out) _ rfl rfl) rfl rfl ?_
             intro ts_ ht_; simp only [sI, sZ, sS] at ht_; subst ht_
             refine q_do (.int .i64 x49_1) (fun w'_ hc_ => ex_mv (.tmp 6) (.inl rfl) _ rfl) rfl rfl ?_
             intro ts_ ht_; simp only [sI, sZ, sS] at ht_; subst ht_
             refine q_call (.int .i64 t53) 43 #[.agg (bv a0), .int .i64 x49_1] (fun w'_ => by go_simp) (fun w'_ hc_ => (i_alfilref24_Promoted.calls k241 a0 x49_1 LN_a0.out t53 _ A271.out).mono fun e_ w2_ h_ => ⟨h_.1, up_below hc_ h_.2⟩) rfl rfl ?_
             intro ts_ ht_; simp only [sI, sZ, sS] at ht_; subst ht_
             refine q_do (.bool false) (fun w'_ hc_ => by go_simp <;> (unfold wrap64; omega)) rfl rfl ?_
             intro ts_ ht_; simp only [sI, sZ, sS] at ht_; subst ht_
             refine q_do (.bool false) (fun w'_ hc_ => by go_simp <;> (unfold wrap64; omega)) rfl rfl ?_
             intro ts_ ht_; simp only [sI, sZ, sS] at ht_; subst ht_
             refine q_end ?_
             rintro w8_ ⟨n_, rfl⟩
             replace BKb1 := hid (BKb1.out.below n_.below BKb1.out.lt)
             replace HL := hid (HL.out.trans (n_.below.mono HL.out.size))
             generalize n_.world = w275 at *
             clear n_ WR64 WR32
             go_wp2_with fail
             (try simp only [Act.put, sI, sZ, sS])
             go_roundg k241
             case measure => have := HK240.out; omega
             case rel => exact ⟨wrap64 (x49_1 + 1), (by first | rfl | (simp; done) | (simp [*]; done)), H', (hid (by first | omega | (have := HK240.out; omega))), (hid (by exact BKb1.out)), HL⟩
            ·
             rw [if_neg c272] at H
             have c272b0 : (t52 == t53) = false := beq_eq_false_iff_ne.mpr c272
             have c272b1 : (t52 != t53) = true := bne_iff_ne.mpr c272
             have hc272 := hid c272
             clear c272
             obtain rfl := Option.some.inj H
             clear H
             have k276 := True.intro
             go_wp2_with (first
              | (go_at_call 42; clear k276; refine (i_alfilref24_Least.calls k241 a0 x49_1 LN_a0.out t49 _ A248.out).mono ?_; rintro e_ w277 ⟨rfl, hb_⟩; replace BKb1 := hid (BKb1.out.below hb_ BKb1.out.lt); replace HL := hid (HL.out.trans (hb_.mono HL.out.size)); clear hb_))
             (try simp only [Act.put, sI, sZ, sS])
             have WR64 := i64_w
             have WR32 := i32_w
             refine up_regionW (by kernel_rfl) (by kernel_rfl) ?_
             refine q_do (.bool t47) (fun w'_ hc_ => ex_mv (.tmp 8) (.inl rfl) _ rfl) rfl rfl ?_
             intro ts_ ht_; simp only [sI, sZ, sS] at ht_; subst ht_
             refine q_do (.int .i64 t49) (fun w'_ hc_ => ex_mv (.tmp 9) (.inl rfl) _ rfl) rfl rfl ?_
             intro ts_ ht_; simp only [sI, sZ, sS] at ht_; subst ht_
             refine q_do (.bool (decide (t49 ≥ 0))) (fun w'_ hc_ => by go_simp <;> (unfold wrap64; omega)) rfl rfl ?_
             intro ts_ ht_; simp only [sI, sZ, sS] at ht_; subst ht_
             refine q_do (.bool false) (fun w'_ hc_ => by go_simp <;> (unfold wrap64; omega)) rfl rfl ?_
             intro ts_ ht_; simp only [sI, sZ, sS] at ht_; subst ht_
             refine q_do (.bool false) (fun w'_ hc_ => ex_mv (.tmp 78) (.inl rfl) _ rfl) rfl rfl ?_
             intro ts_ ht_; simp only [sI, sZ, sS] at ht_; subst ht_
             refine q_do (.int .i64 t46) (fun w'_ hc_ => ex_mv (.tmp 7) (.inl rfl) _ rfl) rfl rfl ?_
             intro ts_ ht_; simp only [sI, sZ, sS] at ht_; subst ht_
             refine q_do (.int .i64 t49) (fun w'_ hc_ => ex_mv (.tmp 9) (.inl rfl) _ rfl) rfl rfl ?_
             intro ts_ ht_; simp only [sI, sZ, sS] at ht_; subst ht_
             refine q_do (.int .i64 t49) (fun w'_ hc_ => by go_simp <;> (unfold wrap64; omega)) rfl rfl ?_
             intro ts_ ht_; simp only [sI, sZ, sS] at ht_; subst ht_
             refine q_do (.bool false) (fun w'_ hc_ => by go_simp <;> (unfold wrap64; omega)) rfl rfl ?_
             intro ts_ ht_; simp only [sI, sZ, sS] at ht_; subst ht_
             refine q_do (.bool false) (fun w'_ hc_ => by go_simp <;> (unfold wrap64; omega)) rfl rfl ?_
             intro ts_ ht_; simp only [sI, sZ, sS] at ht_; subst ht_
             refine q_do (.bool false) (fun w'_ hc_ => ex_mv (.tmp 84) (.inl rfl) _ rfl) rfl rfl ?_
             intro ts_ ht_; simp only [sI, sZ, sS] at ht_; subst ht_
             refine q_do (.agg (bv a0)) (fun w'_ hc_ => by obtain ⟨n_, hn_⟩ := hc_; exact ex_load boardT gb1 0 (bv a0) (bv a0) (by rw [hn_]; exact BKb1.out.below n_.below BKb1.out.lt) (av_le LN_a0.out) (av_ex LN_a0.out) _ rfl rfl) rfl rfl ?_
             intro ts_ ht_; simp only [sI, sZ, sS] at ht_; subst ht_
             refine q_do (.int .i64 x49_1) (fun w'_ hc_ => ex_mv (.tmp 6) (.inl rfl) _ rfl) rfl rfl ?_
             intro ts_ ht_; simp only [sI, sZ, sS] at ht_; subst ht_
             refine q_call (.int .i64 t52) 41 #[.agg (bv a0), .int .i64 x49_1] (fun w'_ => by go_simp) (fun w'_ hc_ => (i_count_Promoted.calls k241 a0 x49_1 LN_a0.out t52 _ A270.out).mono fun e_ w2_ h_ => ⟨h_.1, up_below hc_ h_.2⟩) rfl rfl ?_
             intro ts_ ht_; simp only [sI, sZ, sS] at ht_; subst ht_
             refine q_do (.agg (bv a0)) (fun w'_ hc_ => by obtain ⟨n_, hn_⟩ := hc_; exact ex_load boardT gb1 0 (bv a0) (bv a0) (by rw [hn_]; exact BKb1.out.below n_.below BKb1.out.lt) (av_le LN_a0.out) (av_ex LN_a0.out) _ rfl rfl) rfl rfl ?_
             intro ts_ ht_; simp only [sI, sZ, sS] at ht_; subst ht_
             refine q_do (.int .i64 x49_1) (fun w'_ hc_ => ex_mv (.tmp 6) (.inl rfl) _ rfl) rfl rfl ?_
             intro ts_ ht_; simp only [sI, sZ, sS] at ht_; subst ht_
             refine q_call (.int .i64 t53) 43 #[.agg (bv a0), .int .i64 x49_1] (fun w'_ => by go_simp) (fun w'_ hc_ => (i_alfilref24_Promoted.calls k241 a0 x49_1 LN_a0.out t53 _ A271.out).mono fun e_ w2_ h_ => ⟨h_.1, up_below hc_ h_.2⟩) rfl rfl ?_
             intro ts_ ht_; simp only [sI, sZ, sS] at ht_; subst ht_
             refine q_do (.bool true) (fun w'_ hc_ => by go_simp <;> (unfold wrap64; omega)) rfl rfl ?_
             intro ts_ ht_; simp only [sI, sZ, sS] at ht_; subst ht_
             refine q_do (.bool true) (fun w'_ hc_ => by go_simp <;> (unfold wrap64; omega)) rfl rfl ?_
             intro ts_ ht_; simp only [sI, sZ, sS] at ht_; subst ht_
             refine q_end ?_
             rintro w8_ ⟨n_, rfl⟩
             replace BKb1 := hid (BKb1.out.below n_.below BKb1.out.lt)
             replace HL := hid (HL.out.trans (n_.below.mono HL.out.size))
             generalize n_.world = w278 at *
             clear n_ WR64 WR32
             go_wp2_with fail
             (try simp only [Act.put, sI, sZ, sS])
             go_ret
             exact ⟨by first | rfl | (simp; done) | (simp [*]; done), HL.out⟩
           ·
            rw [if_neg c269] at H
            have c269b0 : (t46 == t49) = false := beq_eq_false_iff_ne.mpr c269
            have c269b1 : (t46 != t49) = true := bne_iff_ne.mpr c269
            have hc269 := hid c269
            clear c269
            obtain rfl := Option.some.inj H
            clear H
            have k279 := True.intro
            go_wp2_with (first
             | (go_at_call 42; clear k279; refine (i_alfilref24_Least.calls k241 a0 x49_1 LN_a0.out t49 _ A248.out).mono ?_; rintro e_ w280 ⟨rfl, hb_⟩; replace BKb1 := hid (BKb1.out.below hb_ BKb1.out.lt); replace HL := hid (HL.out.trans (hb_.mono HL.out.size)); clear hb_))
            (try simp only [Act.put, sI, sZ, sS])
            have WR64 := i64_w
            have WR32 := i32_w
            refine up_regionW (by kernel_rfl) (by kernel_rfl) ?_
            refine q_do (.bool t47) (fun w'_ hc_ => ex_mv (.tmp 8) (.inl rfl) _ rfl) rfl rfl ?_
            intro ts_ ht_; simp only [sI, sZ, sS] at ht_; subst ht_
            refine q_do (.int .i64 t49) (fun w'_ hc_ => ex_mv (.tmp 9) (.inl rfl) _ rfl) rfl rfl ?_
            intro ts_ ht_; simp only [sI, sZ, sS] at ht_; subst ht_
            refine q_do (.bool (decide (t49 ≥ 0))) (fun w'_ hc_ => by go_simp <;> (unfold wrap64; omega)) rfl rfl ?_
            intro ts_ ht_; simp only [sI, sZ, sS] at ht_; subst ht_
            refine q_do (.bool false) (fun w'_ hc_ => by go_simp <;> (unfold wrap64; omega)) rfl rfl ?_
            intro ts_ ht_; simp only [sI, sZ, sS] at ht_; subst ht_
            refine q_do (.bool false) (fun w'_ hc_ => ex_mv (.tmp 78) (.inl rfl) _ rfl) rfl rfl ?_
            intro ts_ ht_; simp only [sI, sZ, sS] at ht_; subst ht_
            refine q_do (.int .i64 t46) (fun w'_ hc_ => ex_mv (.tmp 7) (.inl rfl) _ rfl) rfl rfl ?_
            intro ts_ ht_; simp only [sI, sZ, sS] at ht_; subst ht_
            refine q_do (.int .i64 t49) (fun w'_ hc_ => ex_mv (.tmp 9) (.inl rfl) _ rfl) rfl rfl ?_
            intro ts_ ht_; simp only [sI, sZ, sS] at ht_; subst ht_
            refine q_do (.int .i64 t49) (fun w'_ hc_ => by go_simp <;> (unfold wrap64; omega)) rfl rfl ?_
            intro ts_ ht_; simp only [sI, sZ, sS] at ht_; subst ht_
            refine q_do (.bool true) (fun w'_ hc_ => by go_simp <;> (unfold wrap64; omega)) rfl rfl ?_
            intro ts_ ht_; simp only [sI, sZ, sS] at ht_; subst ht_
            refine q_do (.bool true) (fun w'_ hc_ => by go_simp <;> (unfold wrap64; omega)) rfl rfl ?_
            intro ts_ ht_; simp only [sI, sZ, sS] at ht_; subst ht_
            refine q_do (.bool true) (fun w'_ hc_ => ex_mv (.tmp 84) (.inl rfl) _ rfl) rfl rfl ?_
            intro ts_ ht_; simp only [sI, sZ, sS] at ht_; subst ht_
            refine q_not 10 true rfl rfl rfl ?_
            intro ts_ ht_; simp only [sI, sZ, sS] at ht_; subst ht_
            refine q_not 10 true rfl rfl rfl ?_
            intro ts_ ht_; simp only [sI, sZ, sS] at ht_; subst ht_
            refine q_not 10 true rfl rfl rfl ?_
            intro ts_ ht_; simp only [sI, sZ, sS] at ht_; subst ht_
            refine q_not 10 true rfl rfl rfl ?_
            intro ts_ ht_; simp only [sI, sZ, sS] at ht_; subst ht_
            refine q_not 10 true rfl rfl rfl ?_
            intro ts_ ht_; simp only [sI, sZ, sS] at ht_; subst ht_
            refine q_not 10 true rfl rfl rfl ?_
            intro ts_ ht_; simp only [sI, sZ, sS] at ht_; subst ht_
            refine q_not 10 true rfl rfl rfl ?_
            intro ts_ ht_; simp only [sI, sZ, sS] at ht_; subst ht_
            refine q_do (.bool true) (fun w'_ hc_ => by go_simp <;> (unfold wrap64; omega)) rfl rfl ?_
            intro ts_ ht_; simp only [sI, sZ, sS] at ht_; subst ht_
            refine q_end ?_
            rintro w8_ ⟨n_, rfl⟩
            replace BKb1 := hid (BKb1.out.below n_.below BKb1.out.lt)
            replace HL := hid (HL.out.trans (n_.below.mono HL.out.size))
            generalize n_.world = w281 at *
            clear n_ WR64 WR32
            go_wp2_with fail
            (try simp only [Act.put, sI, sZ, sS])
            go_ret
            exact ⟨by first | rfl | (simp; done) | (simp [*]; done), HL.out⟩
        | false =>
         rw [if_neg (show ¬ (false = true) by decide)] at H
         by_cases c282 : t46 = 0
         ·
          rw [if_pos c282] at H
          have c282b0 : (t46 == 0) = true := beq_iff_eq.mpr c282
          have c282b1 : (t46 != 0) = false := bne_eq_false_iff_eq.mpr c282
          have hc282 := hid c282
          clear c282
          cases t47 with
          | true =>
           rw [if_pos rfl] at H
           obtain rfl := Option.some.inj H
           clear H
           have k284 := True.intro
           go_wp2_with (first
            | (go_at_call 37; clear k284; refine (i_alfilref03_Right.calls k241 a0 LN_a0.out false _ A244.out).mono ?_; rintro e_ w285 ⟨rfl, hb_⟩; replace BKb1 := hid (BKb1.out.below hb_ BKb1.out.lt); replace HL := hid (HL.out.trans (hb_.mono HL.out.size)); clear hb_))
           (try simp only [Act.put, sI, sZ, sS])
           go_ret
           exact ⟨by first | rfl | (simp; done) | (simp [*]; done), HL.out⟩
          | false =>
           rw [if_neg (show ¬ (false = true) by decide)] at H
           have H' := hid H
           clear H
           have k287 := True.intro
           go_wp2_with (first
            | (go_at_call 37; clear k287; refine (i_alfilref03_Right.calls k241 a0 LN_a0.out false _ A244.out).mono ?_; rintro e_ w288 ⟨rfl, hb_⟩; replace BKb1 := hid (BKb1.out.below hb_ BKb1.out.lt); replace HL := hid (HL.out.trans (hb_.mono HL.out.size)); clear hb_)
            | ((with_reducible refine gate_d (N := 67) rfl ?_); refine ag_fix (.agg (bv a0)) (ex_load boardT gb1 0 (bv a0) (bv a0) BKb1.out (av_le LN_a0.out) (av_ex LN_a0.out) _ rfl rfl) rfl ?_))
           (try simp only [Act.put, sI, sZ, sS])
           have H := H'.out
           clear H'
           replace H := Option.bind_eq_some_iff.mp H
           obtain ⟨t54, A286_, H⟩ := H
           have A286 := hid A286_
           clear A286_
           by_cases c289 : t54 = 0
           ·
            rw [if_pos c289] at H
            have c289b0 : (t54 == 0) = true := beq_iff_eq.mpr c289
            have c289b1 : (t54 != 0) = false := bne_eq_false_iff_eq.mpr c289
            have hc289 := hid c289
            clear c289
            have H' := hid H
            clear H
            have k290 := True.intro
            go_wp2_with (first
             | (go_at_call 41; clear k290; refine (i_count_Promoted.calls k241 a0 x49_1 LN_a0.out t54 _ A286.out).mono ?_; rintro e_ w291 ⟨rfl, hb_⟩; replace BKb1 := hid (BKb1.out.below hb_ BKb1.out.lt); replace HL := hid (HL.out.trans (hb_.mono HL.out.size)); clear hb_))
            (try simp only [Act.put, sI, sZ, sS])
            go_roundg k241
            case measure => have := HK240.out; omega
            case rel => exact ⟨wrap64 (x49_1 + 1), (by first | rfl | (simp; done) | (simp [*]; done)), H', (hid (by first | omega | (have := HK240.out; omega))), (hid (by exact BKb1.out)), HL⟩
           ·
            rw [if_neg c289] at H
            have c289b0 : (t54 == 0) = false := beq_eq_false_iff_ne.mpr c289
            have c289b1 : (t54 != 0) = true := bne_iff_ne.mpr c289
            have hc289 := hid c289
            clear c289
            obtain rfl := Option.some.inj H
            clear H
            have k292 := True.intro
            go_wp2_with (first
             | (go_at_call 41; clear k292; refine (i_count_Promoted.calls k241 a0 x49_1 LN_a0.out t54 _ A286.out).mono ?_; rintro e_ w293 ⟨rfl, hb_⟩; replace BKb1 := hid (BKb1.out.below hb_ BKb1.out.lt); replace HL := hid (HL.out.trans (hb_.mono HL.out.size)); clear hb_))
            (try simp only [Act.put, sI, sZ, sS])
            go_ret
            exact ⟨by first | rfl | (simp; done) | (simp [*]; done), HL.out⟩
         ·
          rw [if_neg c282] at H
          have c282b0 : (t46 == 0) = false := beq_eq_false_iff_ne.mpr c282
          have c282b1 : (t46 != 0) = true := bne_iff_ne.mpr c282
          have hc282 := hid c282
          clear c282
          obtain rfl := Option.some.inj H
          clear H
          have k294 := True.intro
          go_wp2_with (first
           | (go_at_call 37; clear k294; refine (i_alfilref03_Right.calls k241 a0 LN_a0.out false _ A244.out).mono ?_; rintro e_ w295 ⟨rfl, hb_⟩; replace BKb1 := hid (BKb1.out.below hb_ BKb1.out.lt); replace HL := hid (HL.out.trans (hb_.mono HL.out.size)); clear hb_))
          (try simp only [Act.put, sI, sZ, sS])
          go_ret
          exact ⟨by first | rfl | (simp; done) | (simp [*]; done), HL.out⟩
       ·
        rw [if_neg c242] at H
        have c242b0 : decide (x49_1 < 2) = false := decide_eq_false c242
        have hc242 := hid c242
        clear c242
        replace H := Option.bind_eq_some_iff.mp H
        obtain ⟨⟨t55, t56⟩, A296_, H⟩ := H
        dsimp only at H
        have A296 := hid A296_
        clear A296_
        by_cases c297 : t55 = 0
        ·
         rw [if_pos c297] at H
         have c297b0 : (t55 == 0) = true := beq_iff_eq.mpr c297
         have c297b1 : (t55 != 0) = false := bne_eq_false_iff_eq.mpr c297
         have hc297 := hid c297
         clear c297
         cases t56 with
         | true =>
          rw [if_pos rfl] at H
          obtain rfl := Option.some.inj H
          clear H
          have k299 := True.intro
          go_wp2_with (first
           | ((with_reducible refine gate_d (N := 96) rfl ?_); refine ag_fix (.agg (bv a0)) (ex_load boardT gb1 0 (bv a0) (bv a0) BKb1.out (av_le LN_a0.out) (av_ex LN_a0.out) _ rfl rfl) rfl ?_)
           | (go_at_call 40; clear k299; refine (i_count_Least.calls k241 a0 2 LN_a0.out t55 true _ A296.out).mono ?_; rintro e_ w300 ⟨rfl, hb_⟩; replace BKb1 := hid (BKb1.out.below hb_ BKb1.out.lt); replace HL := hid (HL.out.trans (hb_.mono HL.out.size)); clear hb_))
          (try simp only [Act.put, sI, sZ, sS])
          go_ret
          exact ⟨by first | rfl | (simp; done) | (simp [*]; done), HL.out⟩
         | false =>
          rw [if_neg (show ¬ (false = true) by decide)] at H
          replace H := Option.bind_eq_some_iff.mp H
          obtain ⟨t57, A301_, H⟩ := H
          have A301 := hid A301_
          clear A301_
          obtain rfl := Option.some.inj H
          clear H
          have k302 := True.intro
          have k304 := True.intro
          go_wp2_with (first
           | ((with_reducible refine gate_d (N := 96) rfl ?_); refine ag_fix (.agg (bv a0)) (ex_load boardT gb1 0 (bv a0) (bv a0) BKb1.out (av_le LN_a0.out) (av_ex LN_a0.out) _ rfl rfl) rfl ?_)
           | (go_at_call 40; clear k302; refine (i_count_Least.calls k241 a0 2 LN_a0.out t55 false _ A296.out).mono ?_; rintro e_ w303 ⟨rfl, hb_⟩; replace BKb1 := hid (BKb1.out.below hb_ BKb1.out.lt); replace HL := hid (HL.out.trans (hb_.mono HL.out.size)); clear hb_)
           | ((with_reducible refine gate_d (N := 107) rfl ?_); refine ag_fix (.agg (bv a0)) (ex_load boardT gb1 0 (bv a0) (bv a0) BKb1.out (av_le LN_a0.out) (av_ex LN_a0.out) _ rfl rfl) rfl ?_)
           | (go_at_call 41; clear k304; refine (i_count_Promoted.calls k241 a0 (-1) LN_a0.out t57 _ A301.out).mono ?_; rintro e_ w305 ⟨rfl, hb_⟩; replace BKb1 := hid (BKb1.out.below hb_ BKb1.out.lt); replace HL := hid (HL.out.trans (hb_.mono HL.out.size)); clear hb_))
          (try simp only [Act.put, sI, sZ, sS])
          go_ret
          exact ⟨by first | rfl | (simp; done) | (simp [*]; done), HL.out⟩
        ·
         rw [if_neg c297] at H
         have c297b0 : (t55 == 0) = false := beq_eq_false_iff_ne.mpr c297
         have c297b1 : (t55 != 0) = true := bne_iff_ne.mpr c297
         have hc297 := hid c297
         clear c297
         obtain rfl := Option.some.inj H
         clear H
         have k306 := True.intro
         go_wp2_with (first
          | ((with_reducible refine gate_d (N := 96) rfl ?_); refine ag_fix (.agg (bv a0)) (ex_load boardT gb1 0 (bv a0) (bv a0) BKb1.out (av_le LN_a0.out) (av_ex LN_a0.out) _ rfl rfl) rfl ?_)
          | (go_at_call 40; clear k306; refine (i_count_Least.calls k241 a0 2 LN_a0.out t55 t56 _ A296.out).mono ?_; rintro e_ w307 ⟨rfl, hb_⟩; replace BKb1 := hid (BKb1.out.below hb_ BKb1.out.lt); replace HL := hid (HL.out.trans (hb_.mono HL.out.size)); clear hb_))
         (try simp only [Act.put, sI, sZ, sS])
         go_ret
         exact ⟨by first | rfl | (simp; done) | (simp [*]; done), HL.out⟩
    | false =>
     rw [if_neg (show ¬ (false = true) by decide)] at H
     have H' := hid H
     clear H
     have k309 := True.intro
     go_wp2_with (first
      | (go_at_call 37; clear k309; refine (i_alfilref03_Right.calls k a0 LN_a0.out false _ A234.out).mono ?_; rintro e_ w310 ⟨rfl, hb_⟩; replace BKb1 := hid (BKb1.out.below hb_ BKb1.out.lt); replace HL := hid (HL.out.trans (hb_.mono HL.out.size)); clear hb_)
      | ((with_reducible refine gate_d (N := 32) rfl ?_); refine ag_fix (.agg (bv a0)) (ex_load boardT gb1 0 (bv a0) (bv a0) BKb1.out (av_le LN_a0.out) (av_ex LN_a0.out) _ rfl rfl) rfl ?_))
     (try simp only [Act.put, sI, sZ, sS])
     have H := H'.out
     clear H'
     replace H := Option.bind_eq_some_iff.mp H
     obtain ⟨t58, A308_, H⟩ := H
     have A308 := hid A308_
     clear A308_
     by_cases c311 : t3 = t58
     ·
      rw [if_pos c311] at H
      have c311b0 : (t3 == t58) = true := beq_iff_eq.mpr c311
      have c311b1 : (t3 != t58) = false := bne_eq_false_iff_eq.mpr c311
      have hc311 := hid c311
      clear c311
      by_cases c312 : (t4 != (decide (t58 > 0))) = true
      ·
       rw [if_pos c312] at H
       have c312b0 : (t4 != (decide (t58 > 0))) = true := c312
       (try have c312b1 : decide (t4 = (decide (t58 > 0))) = false := by simpa using c312)
       (try have c312b2 : (t4 == (decide (t58 > 0))) = false := by simpa using c312)
       (try have c312b3 : ¬ (t4 = (decide (t58 > 0))) := by simpa using c312)
       have hc312 := hid c312
       clear c312
       obtain rfl := Option.some.inj H
       clear H
       have k313 := True.intro
       go_wp2_with (first
        | (go_at_call 38; clear k313; refine (i_alfilref24_Why.calls k a0 LN_a0.out t58 _ A308.out).mono ?_; rintro e_ w314 ⟨rfl, hb_⟩; replace BKb1 := hid (BKb1.out.below hb_ BKb1.out.lt); replace HL := hid (HL.out.trans (hb_.mono HL.out.size)); clear hb_))
       (try simp only [Act.put, sI, sZ, sS])
       go_ret
       exact ⟨by first | rfl | (simp; done) | (simp [*]; done), HL.out⟩
      ·
       rw [if_neg c312] at H
       have c312b0 : (t4 != (decide (t58 > 0))) = false := by simpa using c312
       (try have c312b1 : decide (t4 = (decide (t58 > 0))) = true := by simpa using c312)
       (try have c312b2 : (t4 == (decide (t58 > 0))) = true := by simpa using c312)
       have hc312 := hid c312
       clear c312
       have H' := hid H
       clear H
       have k316 := True.intro
       go_wp2_with (first
        | (go_at_call 38; clear k316; refine (i_alfilref24_Why.calls k a0 LN_a0.out t58 _ A308.out).mono ?_; rintro e_ w317 ⟨rfl, hb_⟩; replace BKb1 := hid (BKb1.out.below hb_ BKb1.out.lt); replace HL := hid (HL.out.trans (hb_.mono HL.out.size)); clear hb_)
        | ((with_reducible refine gate_d (N := 44) rfl ?_); refine ag_fix (.agg (bv a0)) (ex_load boardT gb1 0 (bv a0) (bv a0) BKb1.out (av_le LN_a0.out) (av_ex LN_a0.out) _ rfl rfl) rfl ?_))
       (try simp only [Act.put, sI, sZ, sS])
       have H := H'.out
       clear H'
       replace H := Option.bind_eq_some_iff.mp H
       obtain ⟨t59, A315_, H⟩ := H
       have A315 := hid A315_
       clear A315_
       by_cases c318 : (t59 != t4) = true
       ·
        rw [if_pos c318] at H
        have c318b0 : (t59 != t4) = true := c318
        (try have c318b1 : decide (t59 = t4) = false := by simpa using c318)
        (try have c318b2 : (t59 == t4) = false := by simpa using c318)
        (try have c318b3 : ¬ (t59 = t4) := by simpa using c318)
        have hc318 := hid c318
        clear c318
        obtain rfl := Option.some.inj H
        clear H
        have k319 := True.intro
        go_wp2_with (first
         | (go_at_call 39; clear k319; refine (i_count_Illegal.calls k a0 LN_a0.out t59 _ A315.out).mono ?_; rintro e_ w320 ⟨rfl, hb_⟩; replace BKb1 := hid (BKb1.out.below hb_ BKb1.out.lt); replace HL := hid (HL.out.trans (hb_.mono HL.out.size)); clear hb_))
        (try simp only [Act.put, sI, sZ, sS])
        go_ret
        exact ⟨by first | rfl | (simp; done) | (simp [*]; done), HL.out⟩
       ·
        rw [if_neg c318] at H
        have c318b0 : (t59 != t4) = false := by simpa using c318
        (try have c318b1 : decide (t59 = t4) = true := by simpa using c318)
        (try have c318b2 : (t59 == t4) = true := by simpa using c318)
        have hc318 := hid c318
        clear c318
        have H' := hid H
        clear H
        have k321 := True.intro
        go_wp2_with (first
         | (go_at_call 39; clear k321; refine (i_count_Illegal.calls k a0 LN_a0.out t59 _ A315.out).mono ?_; rintro e_ w322 ⟨rfl, hb_⟩; replace BKb1 := hid (BKb1.out.below hb_ BKb1.out.lt); replace HL := hid (HL.out.trans (hb_.mono HL.out.size)); clear hb_))
        (try simp only [Act.put, sI, sZ, sS])
        go_loopg [49] k (fun kq v49 w' => ∃ (x49_2 : Int), v49 = .int .i64 x49_2 ∧ Hid (i_alfillaw24_CountAll.l2 kq a0 x49_2 = some r1) ∧ Hid (kq ≤ k) ∧ Hid (Blk w' gb1 44 (bv a0)) ∧ Hid (Below w.heap.size w w'))
        case atStart => exact ⟨(0 : Int), (by first | rfl | (simp; done) | (simp [*]; done)), H', (hid (by first | omega | (omega))), (hid (by exact BKb1.out)), HL⟩
        case round =>
         clear H'
         clear HL BKb1
         obtain ⟨x49_2, rfl, HA, HK323, BKb1, HL⟩ := hrel
         cases gk with
         | zero => exact absurd HA.out (by simp [i_alfillaw24_CountAll.l2])
         | succ k324 =>
          have H := HA.out
          clear HA
          simp only [i_alfillaw24_CountAll.l2] at H
          by_cases c325 : x49_2 < 2
          ·
           rw [if_pos c325] at H
           have c325b0 : decide (x49_2 < 2) = true := decide_eq_true c325
           have hc325 := hid c325
           clear c325
           replace H := Option.bind_eq_some_iff.mp H
           obtain ⟨⟨t72, t73⟩, A326_, H⟩ := H
           dsimp only at H
           have A326 := hid A326_
           clear A326_
           have H' := hid H
           clear H
           have k328 := True.intro
           go_wp2_with (first
            | ((with_reducible refine gate_d (N := 53) rfl ?_); refine ag_fix (.agg (bv a0)) (ex_load boardT gb1 0 (bv a0) (bv a0) BKb1.out (av_le LN_a0.out) (av_ex LN_a0.out) _ rfl rfl) rfl ?_)
            | (go_at_call 40; clear k328; refine (i_count_Least.calls k324 a0 x49_2 LN_a0.out t72 t73 _ A326.out).mono ?_; rintro e_ w329 ⟨rfl, hb_⟩; replace BKb1 := hid (BKb1.out.below hb_ BKb1.out.lt); replace HL := hid (HL.out.trans (hb_.mono HL.out.size)); clear hb_)
            | ((with_reducible refine gate_d (N := 58) rfl ?_); refine ag_fix (.agg (bv a0)) (ex_load boardT gb1 0 (bv a0) (bv a0) BKb1.out (av_le LN_a0.out) (av_ex LN_a0.out) _ rfl rfl) rfl ?_))
           (try simp only [Act.put, sI, sZ, sS])
           have H := H'.out
           clear H'
           replace H := Option.bind_eq_some_iff.mp H
           obtain ⟨t74, A327_, H⟩ := H
           have A327 := hid A327_
           clear A327_
           cases t74 with
           | true =>
            rw [if_pos rfl] at H
            have H' := hid H
            clear H
            have k332 := True.intro
            go_wp2_with (first
             | (go_at_call 37; clear k332; refine (i_alfilref03_Right.calls k324 a0 LN_a0.out true _ A327.out).mono ?_; rintro e_ w333 ⟨rfl, hb_⟩; replace BKb1 := hid (BKb1.out.below hb_ BKb1.out.lt); replace HL := hid (HL.out.trans (hb_.mono HL.out.size)); clear hb_)
             | ((with_reducible refine gate_d (N := 72) rfl ?_); refine ag_fix (.agg (bv a0)) (ex_load boardT gb1 0 (bv a0) (bv a0) BKb1.out (av_le LN_a0.out) (av_ex LN_a0.out) _ rfl rfl) rfl ?_))
            (try simp only [Act.put, sI, sZ, sS])
            have H := H'.out
            clear H'
            replace H := Option.bind_eq_some_iff.mp H
            obtain ⟨t75, A331_, H⟩ := H
            have A331 := hid A331_
            clear A331_
            by_cases c334 : (t73 != (decide (t75 ≥ 0))) = true
            ·
             rw [if_pos c334] at H
             have c334b0 : (t73 != (decide (t75 ≥ 0))) = true := c334
             (try have c334b1 : decide (t73 = (decide (t75 ≥ 0))) = false := by simpa using c334)
             (try have c334b2 : (t73 == (decide (t75 ≥ 0))) = false := by simpa using c334)
             (try have c334b3 : ¬ (t73 = (decide (t75 ≥ 0))) := by simpa using c334)
             have hc334 := hid c334
             clear c334
             obtain rfl := Option.some.inj H
             clear H
             have k335 := True.intro
             go_wp2_with (first
              | (go_at_call 42; clear k335; refine (i_alfilref24_Least.calls k324 a0 x49_2 LN_a0.out t75 _ A331.out).mono ?_; rintro e_ w336 ⟨rfl, hb_⟩; replace BKb1 := hid (BKb1.out.below hb_ BKb1.out.lt); replace HL := hid (HL.out.trans (hb_.mono HL.out.size)); clear hb_))
             (try simp only [Act.put, sI, sZ, sS])
             have WR64 := i64_w
             have WR32 := i32_w
             refine up_regionW (by kernel_rfl) (by kernel_rfl) ?_
             refine q_do (.bool t73) (fun w'_ hc_ => ex_mv (.tmp 8) (.inl rfl) _ rfl) rfl rfl ?_
             intro ts_ ht_; simp only [sI, sZ, sS] at ht_; subst ht_
             refine q_do (.int .i64 t75) (fun w'_ hc_ => ex_mv (.tmp 9) (.inl rfl) _ rfl) rfl rfl ?_
             intro ts_ ht_; simp only [sI, sZ, sS] at ht_; subst ht_
             refine q_do (.bool (decide (t75 ≥ 0))) (fun w'_ hc_ => by go_simp <;> (unfold wrap64; omega)) rfl rfl ?_
             intro ts_ ht_; simp only [sI, sZ, sS] at ht_; subst ht_
             refine q_do (.bool true) (fun w'_ hc_ => by go_simp <;> (unfold wrap64; omega)) rfl rfl ?_
             intro ts_ ht_; simp only [sI, sZ, sS] at ht_; subst ht_
             refine q_do (.bool true) (fun w'_ hc_ => ex_mv (.tmp 78) (.inl rfl) _ rfl) rfl rfl ?_
             intro ts_ ht_; simp only [sI, sZ, sS] at ht_; subst ht_
             refine q_not 4 true rfl rfl rfl ?_
             intro ts_ ht_; simp only [sI, sZ, sS] at ht_; subst ht_
             refine q_not 4 true rfl rfl rfl ?_
             intro ts_ ht_; simp only [sI, sZ, sS] at ht_; subst ht_
             refine q_not 4 true rfl rfl rfl ?_
             intro ts_ ht_; simp only [sI, sZ, sS] at ht_; subst ht_
             refine q_not 4 true rfl rfl rfl ?_
             intro ts_ ht_; simp only [sI, sZ, sS] at ht_; subst ht_
             refine q_do (.bool true) (fun w'_ hc_ => by go_simp <;> (unfold wrap64; omega)) rfl rfl ?_
             intro ts_ ht_; simp only [sI, sZ, sS] at ht_; subst ht_
             refine q_do (.bool true) (fun w'_ hc_ => ex_mv (.tmp 84) (.inl rfl) _ rfl) rfl rfl ?_
             intro ts_ ht_; simp only [sI, sZ, sS] at ht_; subst ht_
             refine q_not 10 true rfl rfl rfl ?_
             intro ts_ ht_; simp only [sI, sZ, sS] at ht_; subst ht_
             refine q_not 10 true rfl rfl rfl ?_
             intro ts_ ht_; simp only [sI, sZ, sS] at ht_; subst ht_
             refine q_not 10 true rfl rfl rfl ?_
             intro ts_ ht_; simp only [sI, sZ, sS] at ht_; subst ht_
             refine q_not 10 true rfl rfl rfl ?_
             intro ts_ ht_; simp only [sI, sZ, sS] at ht_; subst ht_
             refine q_not 10 true rfl rfl rfl ?_
             intro ts_ ht_; simp only [sI, sZ, sS] at ht_; subst ht_
             refine q_not 10 true rfl rfl rfl ?_
             intro ts_ ht_; simp only [sI, sZ, sS] at ht_; subst ht_
             refine q_not 10 true rfl rfl rfl ?_
             intro ts_ ht_; simp only [sI, sZ, sS] at ht_; subst ht_
             refine q_do (.bool true) (fun w'_ hc_ => by go_simp <;> (unfold wrap64; omega)) rfl rfl ?_
             intro ts_ ht_; simp only [sI, sZ, sS] at ht_; subst ht_
             refine q_end ?_
             rintro w8_ ⟨n_, rfl⟩
             replace BKb1 := hid (BKb1.out.below n_.below BKb1.out.lt)
             replace HL := hid (HL.out.trans (n_.below.mono HL.out.size))
             generalize n_.world = w337 at *
             clear n_ WR64 WR32
             go_wp2_with fail
             (try simp only [Act.put, sI, sZ, sS])
             go_ret
             exact ⟨by first | rfl | (simp; done) | (simp [*]; done), HL.out⟩
            ·
             rw [if_neg c334] at H
             have c334b0 : (t73 != (decide (t75 ≥ 0))) = false := by simpa using c334
             (try have c334b1 : decide (t73 = (decide (t75 ≥ 0))) = true := by simpa using c334)
             (try have c334b2 : (t73 == (decide (t75 ≥ 0))) = true := by simpa using c334)
             have hc334 := hid c334
             clear c334
             by_cases c338 : t75 < 0
             ·
              rw [if_pos c338] at H
              have c338b0 : decide (t75 < 0) = true := decide_eq_true c338
              have c338b1 : (if t75 < 0 then 0 else t75) = 0 := if_pos c338
              have c338b2 : max t75 0 = 0 := by omega
              have hc338 := hid c338
              clear c338
              by_cases c339 : t72 = 0
              ·
               rw [if_pos c339] at H
               have c339b0 : (t72 == 0) = true := beq_iff_eq.mpr c339
               have c339b1 : (t72 != 0) = false := bne_eq_false_iff_eq.mpr c339
               have hc339 := hid c339
               clear c339
               replace H := Option.bind_eq_some_iff.mp H
               obtain ⟨t76, A340_, H⟩ := H
               have A340 := hid A340_
               clear A340_
               replace H := Option.bind_eq_some_iff.mp H
               obtain ⟨t77, A341_, H⟩ := H
               have A341 := hid A341_
               clear A341_
               by_cases c342 : t76 = t77
               ·
                rw [if_pos c342] at H
                have c342b0 : (t76 == t77) = true := beq_iff_eq.mpr c342
                have c342b1 : (t76 != t77) = false := bne_eq_false_iff_eq.mpr c342
                have hc342 := hid c342
                clear c342
                have H' := hid H
                clear H
                have k343 := True.intro
                go_wp2_with (first
                 | (go_at_call 42; clear k343; refine (i_alfilref24_Least.calls k324 a0 x49_2 LN_a0.out t75 _ A331.out).mono ?_; rintro e_ w344 ⟨rfl, hb_⟩; replace BKb1 := hid (BKb1.out.below hb_ BKb1.out.lt); replace HL := hid (HL.out.trans (hb_.mono HL.out.size)); clear hb_))
                (try simp only [Act.put, sI, sZ, sS])
                have WR64 := i64_w
                have WR32 := i32_w
                refine up_regionW (by kernel_rfl) (by kernel_rfl) ?_
                refine q_do (.bool t73) (fun w'_ hc_ => ex_mv (.tmp 8) (.inl rfl) _ rfl) rfl rfl ?_
                intro ts_ ht_; simp only [sI, sZ, sS] at ht_; subst ht_
                refine q_do (.int .i64 t75) (fun w'_ hc_ => ex_mv (.tmp 9) (.inl rfl) _ rfl) rfl rfl ?_
                intro ts_ ht_; simp only [sI, sZ, sS] at ht_; subst ht_
                refine q_do (.bool (decide (t75 ≥ 0))) (fun w'_ hc_ => by go_simp <;> (unfold wrap64; omega)) rfl rfl ?_
                intro ts_ ht_; simp only [sI, sZ, sS] at ht_; subst ht_
                refine q_do (.bool false) (fun w'_ hc_ => by go_simp <;> (unfold wrap64; omega)) rfl rfl ?_
                intro ts_ ht_; simp only [sI, sZ, sS] at ht_; subst ht_
                refine q_do (.bool false) (fun w'_ hc_ => ex_mv (.tmp 78) (.inl rfl) _ rfl) rfl rfl ?_
                intro ts_ ht_; simp only [sI, sZ, sS] at ht_; subst ht_
                refine q_do (.int .i64 t72) (fun w'_ hc_ => ex_mv (.tmp 7) (.inl rfl) _ rfl) rfl rfl ?_
                intro ts_ ht_; simp only [sI, sZ, sS] at ht_; subst ht_
                refine q_do (.int .i64 t75) (fun w'_ hc_ => ex_mv (.tmp 9) (.inl rfl) _ rfl) rfl rfl ?_
                intro ts_ ht_; simp only [sI, sZ, sS] at ht_; subst ht_
                refine q_do (.int .i64 0) (fun w'_ hc_ => by go_simp <;> (unfold wrap64; omega)) rfl rfl ?_
                intro ts_ ht_; simp only [sI, sZ, sS] at ht_; subst ht_
                refine q_do (.bool false) (fun w'_ hc_ => by go_simp <;> (unfold wrap64; omega)) rfl rfl ?_
                intro ts_ ht_; simp only [sI, sZ, sS] at ht_; subst ht_
                refine q_do (.bool false) (fun w'_ hc_ => by go_simp <;> (unfold wrap64; omega)) rfl rfl ?_
                intro ts_ ht_; simp only [sI, sZ, sS] at ht_; subst ht_
                refine q_do (.bool false) (fun w'_ hc_ => ex_mv (.tmp 84) (.inl rfl) _ rfl) rfl rfl ?_
                intro ts_ ht_; simp only [sI, sZ, sS] at ht_; subst ht_
                refine q_do (.agg (bv a0)) (fun w'_ hc_ => by obtain ⟨n_, hn_⟩ := hc_; exact ex_load boardT gb1 0 (bv a0) (bv a0) (by rw [hn_]; exact BKb1.out.below n_.below BKb1.out.lt) (av_le LN_a0.out) (av_ex LN_a0.out) _ rfl rfl) rfl rfl ?_
                intro ts_ ht_; simp only [sI, sZ, sS] at ht_; subst ht_
                refine q_do (.int .i64 x49_2) (fun w'_ hc_ => ex_mv (.tmp 6) (.inl rfl) _ rfl) rfl rfl ?_
                intro ts_ ht_; simp only [sI, sZ, sS] at ht_; subst ht_
                refine q_call (.int .i64 t76) 41 #[.agg (bv a0), .int .i64 x49_2] (fun w'_ => by go_simp) (fun w'_ hc_ => (i_count_Promoted.calls k324 a0 x49_2 LN_a0.out t76 _ A340.out).mono fun e_ w2_ h_ => ⟨h_.1, up_below hc_ h_.2⟩) rfl rfl ?_
                intro ts_ ht_; simp only [sI, sZ, sS] at ht_; subst ht_
                refine q_do (.agg (bv a0)) (fun w'_ hc_ => by obtain ⟨n_, hn_⟩ := hc_; exact ex_load boardT gb1 0 (bv a0) (bv a0) (by rw [hn_]; exact BKb1.out.below n_.below BKb1.out.lt) (av_le LN_a0.out) (av_ex LN_a0.out) _ rfl rfl) rfl rfl ?_
                intro ts_ ht_; simp only [sI, sZ, sS] at ht_; subst ht_
                refine q_do (.int .i64 x49_2) (fun w'_ hc_ => ex_mv (.tmp 6) (.inl rfl) _ rfl) rfl rfl ?_
                intro ts_ ht_; simp only [sI, sZ, sS] at ht_; subst ht_
                refine q_call (.int .i64 t77) 43 #[.agg (bv a0), .int .i64 x49_2] (fun w'_ => by go_simp) (fun w'_ hc_ => (i_alfilref24_Promoted.calls k324 a0 x49_2 LN_a0.out t77 _ A341.out).mono fun e_ w2_ h_ => ⟨h_.1, up_below hc_ h_.2⟩) rfl rfl ?_
                intro ts_ ht_; simp only [sI, sZ, sS] at ht_; subst ht_
                refine q_do (.bool false) (fun w'_ hc_ => by go_simp <;> (unfold wrap64; omega)) rfl rfl ?_
                intro ts_ ht_; simp only [sI, sZ, sS] at ht_; subst ht_
                refine q_do (.bool false) (fun w'_ hc_ => by go_simp <;> (unfold wrap64; omega)) rfl rfl ?_
                intro ts_ ht_; simp only [sI, sZ, sS] at ht_; subst ht_
                refine q_end ?_
                rintro w8_ ⟨n_, rfl⟩
                replace BKb1 := hid (BKb1.out.below n_.below BKb1.out.lt)
                replace HL := hid (HL.out.trans (n_.below.mono HL.out.size))
                generalize n_.world = w345 at *
                clear n_ WR64 WR32
                go_wp2_with fail
                (try simp only [Act.put, sI, sZ, sS])
                go_roundg k324
                case measure => have := HK323.out; omega
                case rel => exact ⟨wrap64 (x49_2 + 1), (by first | rfl | (simp; done) | (simp [*]; done)), H', (hid (by first | omega | (have := HK323.out; omega))), (hid (by exact BKb1.out)), HL⟩
               ·
                rw [if_neg c342] at H
                have c342b0 : (t76 == t77) = false := beq_eq_false_iff_ne.mpr c342
                have c342b1 : (t76 != t77) = true := bne_iff_ne.mpr c342
                have hc342 := hid c342
                clear c342
                obtain rfl := Option.some.inj H
                clear H
                have k346 := True.intro
                go_wp2_with (first
                 | (go_at_call 42; clear k346; refine (i_alfilref24_Least.calls k324 a0 x49_2 LN_a0.out t75 _ A331.out).mono ?_; rintro e_ w347 ⟨rfl, hb_⟩; replace BKb1 := hid (BKb1.out.below hb_ BKb1.out.lt); replace HL := hid (HL.out.trans (hb_.mono HL.out.size)); clear hb_))
                (try simp only [Act.put, sI, sZ, sS])
                have WR64 := i64_w
                have WR32 := i32_w
                refine up_regionW (by kernel_rfl) (by kernel_rfl) ?_
                refine q_do (.bool t73) (fun w'_ hc_ => ex_mv (.tmp 8) (.inl rfl) _ rfl) rfl rfl ?_
                intro ts_ ht_; simp only [sI, sZ, sS] at ht_; subst ht_
                refine q_do (.int .i64 t75) (fun w'_ hc_ => ex_mv (.tmp 9) (.inl rfl) _ rfl) rfl rfl ?_
                intro ts_ ht_; simp only [sI, sZ, sS] at ht_; subst ht_
                refine q_do (.bool (decide (t75 ≥ 0))) (fun w'_ hc_ => by go_simp <;> (unfold wrap64; omega)) rfl rfl ?_
                intro ts_ ht_; simp only [sI, sZ, sS] at ht_; subst ht_
                refine q_do (.bool false) (fun w'_ hc_ => by go_simp <;> (unfold wrap64; omega)) rfl rfl ?_
                intro ts_ ht_; simp only [sI, sZ, sS] at ht_; subst ht_
                refine q_do (.bool false) (fun w'_ hc_ => ex_mv (.tmp 78) (.inl rfl) _ rfl) rfl rfl ?_
                intro ts_ ht_; simp only [sI, sZ, sS] at ht_; subst ht_
                refine q_do (.int .i64 t72) (fun w'_ hc_ => ex_mv (.tmp 7) (.inl rfl) _ rfl) rfl rfl ?_
                intro ts_ ht_; simp only [sI, sZ, sS] at ht_; subst ht_
                refine q_do (.int .i64 t75) (fun w'_ hc_ => ex_mv (.tmp 9) (.inl rfl) _ rfl) rfl rfl ?_
                intro ts_ ht_; simp only [sI, sZ, sS] at ht_; subst ht_
                refine q_do (.int .i64 0) (fun w'_ hc_ => by go_simp <;> (unfold wrap64; omega)) rfl rfl ?_
                intro ts_ ht_; simp only [sI, sZ, sS] at ht_; subst ht_
                refine q_do (.bool false) (fun w'_ hc_ => by go_simp <;> (unfold wrap64; omega)) rfl rfl ?_
                intro ts_ ht_; simp only [sI, sZ, sS] at ht_; subst ht_
                refine q_do (.bool false) (fun w'_ hc_ => by go_simp <;> (unfold wrap64; omega)) rfl rfl ?_
                intro ts_ ht_; simp only [sI, sZ, sS] at ht_; subst ht_
                refine q_do (.bool false) (fun w'_ hc_ => ex_mv (.tmp 84) (.inl rfl) _ rfl) rfl rfl ?_
                intro ts_ ht_; simp only [sI, sZ, sS] at ht_; subst ht_
                refine q_do (.agg (bv a0)) (fun w'_ hc_ => by obtain ⟨n_, hn_⟩ := hc_; exact ex_load boardT gb1 0 (bv a0) (bv a0) (by rw [hn_]; exact BKb1.out.below n_.below BKb1.out.lt) (av_le LN_a0.out) (av_ex LN_a0.out) _ rfl rfl) rfl rfl ?_
                intro ts_ ht_; simp only [sI, sZ, sS] at ht_; subst ht_
                refine q_do (.int .i64 x49_2) (fun w'_ hc_ => ex_mv (.tmp 6) (.inl rfl) _ rfl) rfl rfl ?_
                intro ts_ ht_; simp only [sI, sZ, sS] at ht_; subst ht_
                refine q_call (.int .i64 t76) 41 #[.agg (bv a0), .int .i64 x49_2] (fun w'_ => by go_simp) (fun w'_ hc_ => (i_count_Promoted.calls k324 a0 x49_2 LN_a0.out t76 _ A340.out).mono fun e_ w2_ h_ => ⟨h_.1, up_below hc_ h_.2⟩) rfl rfl ?_
                intro ts_ ht_; simp only [sI, sZ, sS] at ht_; subst ht_
                refine q_do (.agg (bv a0)) (fun w'_ hc_ => by obtain ⟨n_, hn_⟩ := hc_; exact ex_load boardT gb1 0 (bv a0) (bv a0) (by rw [hn_]; exact BKb1.out.below n_.below BKb1.out.lt) (av_le LN_a0.out) (av_ex LN_a0.out) _ rfl rfl) rfl rfl ?_
                intro ts_ ht_; simp only [sI, sZ, sS] at ht_; subst ht_
                refine q_do (.int .i64 x49_2) (fun w'_ hc_ => ex_mv (.tmp 6) (.inl rfl) _ rfl) rfl rfl ?_
                intro ts_ ht_; simp only [sI, sZ, sS] at ht_; subst ht_
                refine q_call (.int .i64 t77) 43 #[.agg (bv a0), .int .i64 x49_2] (fun w'_ => by go_simp) (fun w'_ hc_ => (i_alfilref24_Promoted.calls k324 a0 x49_2 LN_a0.out t77 _ A341.out).mono fun e_ w2_ h_ => ⟨h_.1, up_below hc_ h_.2⟩) rfl rfl ?_
                intro ts_ ht_; simp only [sI, sZ, sS] at ht_; subst ht_
                refine q_do (.bool true) (fun w'_ hc_ => by go_simp <;> (unfold wrap64; omega)) rfl rfl ?_
                intro ts_ ht_; simp only [sI, sZ, sS] at ht_; subst ht_
                refine q_do (.bool true) (fun w'_ hc_ => by go_simp <;> (unfold wrap64; omega)) rfl rfl ?_
                intro ts_ ht_; simp only [sI, sZ, sS] at ht_; subst ht_
                refine q_end ?_
                rintro w8_ ⟨n_, rfl⟩
                replace BKb1 := hid (BKb1.out.below n_.below BKb1.out.lt)
                replace HL := hid (HL.out.trans (n_.below.mono HL.out.size))
                generalize n_.world = w348 at *
                clear n_ WR64 WR32
                go_wp2_with fail
                (try simp only [Act.put, sI, sZ, sS])
                go_ret
                exact ⟨by first | rfl | (simp; done) | (simp [*]; done), HL.out⟩
              ·
               rw [if_neg c339] at H
               have c339b0 : (t72 == 0) = false := beq_eq_false_iff_ne.mpr c339
               have c339b1 : (t72 != 0) = true := bne_iff_ne.mpr c339
               have hc339 := hid c339
               clear c339
               obtain rfl := Option.some.inj H
               clear H
               have k349 := True.intro
               go_wp2_with (first
                | (go_at_call 42; clear k349; refine (i_alfilref24_Least.calls k324 a0 x49_2 LN_a0.out t75 _ A331.out).mono ?_; rintro e_ w350 ⟨rfl, hb_⟩; replace BKb1 := hid (BKb1.out.below hb_ BKb1.out.lt); replace HL := hid (HL.out.trans (hb_.mono HL.out.size)); clear hb_))
               (try simp only [Act.put, sI, sZ, sS])
               have WR64 := i64_w
               have WR32 := i32_w
               refine up_regionW (by kernel_rfl) (by kernel_rfl) ?_
               refine q_do (.bool t73) (fun w'_ hc_ => ex_mv (.tmp 8) (.inl rfl) _ rfl) rfl rfl ?_
               intro ts_ ht_; simp only [sI, sZ, sS] at ht_; subst ht_
               refine q_do (.int .i64 t75) (fun w'_ hc_ => ex_mv (.tmp 9) (.inl rfl) _ rfl) rfl rfl ?_
               intro ts_ ht_; simp only [sI, sZ, sS] at ht_; subst ht_
               refine q_do (.bool (decide (t75 ≥ 0))) (fun w'_ hc_ => by go_simp <;> (unfold wrap64; omega)) rfl rfl ?_
               intro ts_ ht_; simp only [sI, sZ, sS] at ht_; subst ht_
               refine q_do (.bool false) (fun w'_ hc_ => by go_simp <;> (unfold wrap64; omega)) rfl rfl ?_
               intro ts_ ht_; simp only [sI, sZ, sS] at ht_; subst ht_
               refine q_do (.bool false) (fun w'_ hc_ => ex_mv (.tmp 78) (.inl rfl) _ rfl) rfl rfl ?_
               intro ts_ ht_; simp only [sI, sZ, sS] at ht_; subst ht_
               refine q_do (.int .i64 t72) (fun w'_ hc_ => ex_mv (.tmp 7) (.inl rfl) _ rfl) rfl rfl ?_
               intro ts_ ht_; simp only [sI, sZ, sS] at ht_; subst ht_
               refine q_do (.int .i64 t75) (fun w'_ hc_ => ex_mv (.tmp 9) (.inl rfl) _ rfl) rfl rfl ?_
               intro ts_ ht_; simp only [sI, sZ, sS] at ht_; subst ht_
               refine q_do (.int .i64 0) (fun w'_ hc_ => by go_simp <;> (unfold wrap64; omega)) rfl rfl ?_
               intro ts_ ht_; simp only [sI, sZ, sS] at ht_; subst ht_
               refine q_do (.bool true) (fun w'_ hc_ => by go_simp <;> (unfold wrap64; omega)) rfl rfl ?_
               intro ts_ ht_; simp only [sI, sZ, sS] at ht_; subst ht_
               refine q_do (.bool true) (fun w'_ hc_ => by go_simp <;> (unfold wrap64; omega)) rfl rfl ?_
               intro ts_ ht_; simp only [sI, sZ, sS] at ht_; subst ht_
               refine q_do (.bool true) (fun w'_ hc_ => ex_mv (.tmp 84) (.inl rfl) _ rfl) rfl rfl ?_
               intro ts_ ht_; simp only [sI, sZ, sS] at ht_; subst ht_
               refine q_not 10 true rfl rfl rfl ?_
               intro ts_ ht_; simp only [sI, sZ, sS] at ht_; subst ht_
               refine q_not 10 true rfl rfl rfl ?_
               intro ts_ ht_; simp only [sI, sZ, sS] at ht_; subst ht_
               refine q_not 10 true rfl rfl rfl ?_
               intro ts_ ht_; simp only [sI, sZ, sS] at ht_; subst ht_
               refine q_not 10 true rfl rfl rfl ?_
               intro ts_ ht_; simp only [sI, sZ, sS] at ht_; subst ht_
               refine q_not 10 true rfl rfl rfl ?_
               intro ts_ ht_; simp only [sI, sZ, sS] at ht_; subst ht_
               refine q_not 10 true rfl rfl rfl ?_
               intro ts_ ht_; simp only [sI, sZ, sS] at ht_; subst ht_
               refine q_not 10 true rfl rfl rfl ?_
               intro ts_ ht_; simp only [sI, sZ, sS] at ht_; subst ht_
               refine q_do (.bool true) (fun w'_ hc_ => by go_simp <;> (unfold wrap64; omega)) rfl rfl ?_
               intro ts_ ht_; simp only [sI, sZ, sS] at ht_; subst ht_
               refine q_end ?_
               rintro w8_ ⟨n_, rfl⟩
               replace BKb1 := hid (BKb1.out.below n_.below BKb1.out.lt)
               replace HL := hid (HL.out.trans (n_.below.mono HL.out.size))
               generalize n_.world = w351 at *
               clear n_ WR64 WR32
               go_wp2_with fail
               (try simp only [Act.put, sI, sZ, sS])
               go_ret
               exact ⟨by first | rfl | (simp; done) | (simp [*]; done), HL.out⟩
             ·
              rw [if_neg c338] at H
              have c338b0 : decide (t75 < 0) = false := decide_eq_false c338
              have c338b1 : (if t75 < 0 then 0 else t75) = t75 := if_neg c338
              have c338b2 : max t75 0 = t75 := by omega
              have hc338 := hid c338
              clear c338
              by_cases c352 : t72 = t75
              ·
               rw [if_pos c352] at H
               have c352b0 : (t72 == t75) = true := beq_iff_eq.mpr c352
               have c352b1 : (t72 != t75) = false := bne_eq_false_iff_eq.mpr c352
               have hc352 := hid c352
               clear c352
               replace H := Option.bind_eq_some_iff.mp H
               obtain ⟨t78, A353_, H⟩ := H
               have A353 := hid A353_
               clear A353_
               replace H := Option.bind_eq_some_iff.mp H
               obtain ⟨t79, A354_, H⟩ := H
               have A354 := hid A354_
               clear A354_
               by_cases c355 : t78 = t79
               ·
                rw [if_pos c355] at H
                have c355b0 : (t78 == t79) = true := beq_iff_eq.mpr c355
                have c355b1 : (t78 != t79) = false := bne_eq_false_iff_eq.mpr c355
                have hc355 := hid c355
                clear c355
                have H' := hid H
                clear H
                have k356 := True.intro
                go_wp2_with (first
                 | (go_at_call 42; clear k356; refine (i_alfilref24_Least.calls k324 a0 x49_2 LN_a0.out t75 _ A331.out).mono ?_; rintro e_ w357 ⟨rfl, hb_⟩; replace BKb1 := hid (BKb1.out.below hb_ BKb1.out.lt); replace HL := hid (HL.out.trans (hb_.mono HL.out.size)); clear hb_))
                (try simp only [Act.put, sI, sZ, sS])
                have WR64 := i64_w
                have WR32 := i32_w
                refine up_regionW (by kernel_rfl) (by kernel_rfl) ?_
                refine q_do (.bool t73) (fun w'_ hc_ => ex_mv (.tmp 8) (.inl rfl) _ rfl) rfl rfl ?_
                intro ts_ ht_; simp only [sI, sZ, sS] at ht_; subst ht_
                refine q_do (.int .i64 t75) (fun w'_ hc_ => ex_mv (.tmp 9) (.inl rfl) _ rfl) rfl rfl ?_
                intro ts_ ht_; simp only [sI, sZ, sS] at ht_; subst ht_
                refine q_do (.bool (decide (t75 ≥ 0))) (fun w'_ hc_ => by go_simp <;> (unfold wrap64; omega)) rfl rfl ?_
                intro ts_ ht_; simp only [sI, sZ, sS] at ht_; subst ht_
                refine q_do (.bool false) (fun w'_ hc_ => by go_simp <;> (unfold wrap64; omega)) rfl rfl ?_
                intro ts_ ht_; simp only [sI, sZ, sS] at ht_; subst ht_
                refine q_do (.bool false) (fun w'_ hc_ => ex_mv (.tmp 78) (.inl rfl) _ rfl) rfl rfl ?_
                intro ts_ ht_; simp only [sI, sZ, sS] at ht_; subst ht_
                refine q_do (.int .i64 t72) (fun w'_ hc_ => ex_mv (.tmp 7) (.inl rfl) _ rfl) rfl rfl ?_
                intro ts_ ht_; simp only [sI, sZ, sS] at ht_; subst ht_
                refine q_do (.int .i64 t75) (fun w'_ hc_ => ex_mv (.tmp 9) (.inl rfl) _ rfl) rfl rfl ?_
                intro ts_ ht_; simp only [sI, sZ, sS] at ht_; subst ht_
                refine q_do (.int .i64 t75) (fun w'_ hc_ => by go_simp <;> (unfold wrap64; omega)) rfl rfl ?_
                intro ts_ ht_; simp only [sI, sZ, sS] at ht_; subst ht_
                refine q_do (.bool false) (fun w'_ hc_ => by go_simp <;> (unfold wrap64; omega)) rfl rfl ?_
                intro ts_ ht_; simp only [sI, sZ, sS] at ht_; subst ht_
                refine q_do (.bool false) (fun w'_ hc_ => by go_simp <;> (unfold wrap64; omega)) rfl rfl ?_
                intro ts_ ht_; simp only [sI, sZ, sS] at ht_; subst ht_
                refine q_do (.bool false) (fun w'_ hc_ => ex_mv (.tmp 84) (.inl rfl) _ rfl) rfl rfl ?_
                intro ts_ ht_; simp only [sI, sZ, sS] at ht_; subst ht_
                refine q_do (.agg (bv a0)) (fun w'_ hc_ => by obtain ⟨n_, hn_⟩ := hc_; exact ex_load boardT gb1 0 (bv a0) (bv a0) (by rw [hn_]; exact BKb1.out.below n_.below BKb1.out.lt) (av_le LN_a0.out) (av_ex LN_a0.out) _ rfl rfl) rfl rfl ?_
                intro ts_ ht_; simp only [sI, sZ, sS] at ht_; subst ht_
                refine q_do (.int .i64 x49_2) (fun w'_ hc_ => ex_mv (.tmp 6) (.inl rfl) _ rfl) rfl rfl ?_
                intro ts_ ht_; simp only [sI, sZ, sS] at ht_; subst ht_
                refine q_call (.int .i64 t78) 41 #[.agg (bv a0), .int .i64 x49_2] (fun w'_ => by go_simp) (fun w'_ hc_ => (i_count_Promoted.calls k324 a0 x49_2 LN_a0.out t78 _ A353.out).mono fun e_ w2_ h_ => ⟨h_.1, up_below hc_ h_.2⟩) rfl rfl ?_
                intro ts_ ht_; simp only [sI, sZ, sS] at ht_; subst ht_
                refine q_do (.agg (bv a0)) (fun w'_ hc_ => by obtain ⟨n_, hn_⟩ := hc_; exact ex_load boardT gb1 0 (bv a0) (bv a0) (by rw [hn_]; exact BKb1.out.below n_.below BKb1.out.lt) (av_le LN_a0.out) (av_ex LN_a0.out) _ rfl rfl) rfl rfl ?_
                intro ts_ ht_; simp only [sI, sZ, sS] at ht_; subst ht_
                refine q_do (.int .i64 x49_2) (fun w'_ hc_ => ex_mv (.tmp 6) (.inl rfl) _ rfl) rfl rfl ?_
                intro ts_ ht_; simp only [sI, sZ, sS] at ht_; subst ht_
                refine q_call (.int .i64 t79) 43 #[.agg (bv a0), .int .i64 x49_2] (fun w'_ => by go_simp) (fun w'_ hc_ => (i_alfilref24_Promoted.calls k324 a0 x49_2 LN_a0.out t79 _ A354.out).mono fun e_ w2_ h_ => ⟨h_.1, up_below hc_ h_.2⟩) rfl rfl ?_
                intro ts_ ht_; simp only [sI, sZ, sS] at ht_; subst ht_
                refine q_do (.bool false) (fun w'_ hc_ => by go_simp <;> (unfold wrap64; omega)) rfl rfl ?_
                intro ts_ ht_; simp only [sI, sZ, sS] at ht_; subst ht_
                refine q_do (.bool false) (fun w'_ hc_ => by go_simp <;> (unfold wrap64; omega)) rfl rfl ?_
                intro ts_ ht_; simp only [sI, sZ, sS] at ht_; subst ht_
                refine q_end ?_
                rintro w8_ ⟨n_, rfl⟩
                replace BKb1 := hid (BKb1.out.below n_.below BKb1.out.lt)
                replace HL := hid (HL.out.trans (n_.below.mono HL.out.size))
                generalize n_.world = w358 at *
                clear n_ WR64 WR32
                go_wp2_with fail
                (try simp only [Act.put, sI, sZ, sS])
                go_roundg k324
                case measure => have := HK323.out; omega
                case rel => exact ⟨wrap64 (x49_2 + 1), (by first | rfl | (simp; done) | (simp [*]; done)), H', (hid (by first | omega | (have := HK323.out; omega))), (hid (by exact BKb1.out)), HL⟩
               ·
                rw [if_neg c355] at H
                have c355b0 : (t78 == t79) = false := beq_eq_false_iff_ne.mpr c355
                have c355b1 : (t78 != t79) = true := bne_iff_ne.mpr c355
                have hc355 := hid c355
                clear c355
                obtain rfl := Option.some.inj H
                clear H
                have k359 := True.intro
                go_wp2_with (first
                 | (go_at_call 42; clear k359; refine (i_alfilref24_Least.calls k324 a0 x49_2 LN_a0.out t75 _ A331.out).mono ?_; rintro e_ w360 ⟨rfl, hb_⟩; replace BKb1 := hid (BKb1.out.below hb_ BKb1.out.lt); replace HL := hid (HL.out.trans (hb_.mono HL.out.size)); clear hb_))
                (try simp only [Act.put, sI, sZ, sS])
                have WR64 := i64_w
                have WR32 := i32_w
                refine up_regionW (by kernel_rfl) (by kernel_rfl) ?_
                refine q_do (.bool t73) (fun w'_ hc_ => ex_mv (.tmp 8) (.inl rfl) _ rfl) rfl rfl ?_
                intro ts_ ht_; simp only [sI, sZ, sS] at ht_; subst ht_
                refine q_do (.int .i64 t75) (fun w'_ hc_ => ex_mv (.tmp 9) (.inl rfl) _ rfl) rfl rfl ?_
                intro ts_ ht_; simp only [sI, sZ, sS] at ht_; subst ht_
                refine q_do (.bool (decide (t75 ≥ 0))) (fun w'_ hc_ => by go_simp <;> (unfold wrap64; omega)) rfl rfl ?_
                intro ts_ ht_; simp only [sI, sZ, sS] at ht_; subst ht_
                refine q_do (.bool false) (fun w'_ hc_ => by go_simp <;> (unfold wrap64; omega)) rfl rfl ?_
                intro ts_ ht_; simp only [sI, sZ, sS] at ht_; subst ht_
                refine q_do (.bool false) (fun w'_ hc_ => ex_mv (.tmp 78) (.inl rfl) _ rfl) rfl rfl ?_
                intro ts_ ht_; simp only [sI, sZ, sS] at ht_; subst ht_
                refine q_do (.int .i64 t72) (fun w'_ hc_ => ex_mv (.tmp 7) (.inl rfl) _ rfl) rfl rfl ?_
                intro ts_ ht_; simp only [sI, sZ, sS] at ht_; subst ht_
                refine q_do (.int .i64 t75) (fun w'_ hc_ => ex_mv (.tmp 9) (.inl rfl) _ rfl) rfl rfl ?_
                intro ts_ ht_; simp only [sI, sZ, sS] at ht_; subst ht_
                refine q_do (.int .i64 t75) (fun w'_ hc_ => by go_simp <;> (unfold wrap64; omega)) rfl rfl ?_
                intro ts_ ht_; simp only [sI, sZ, sS] at ht_; subst ht_
                refine q_do (.bool false) (fun w'_ hc_ => by go_simp <;> (unfold wrap64; omega)) rfl rfl ?_
                intro ts_ ht_; simp only [sI, sZ, sS] at ht_; subst ht_
                refine q_do (.bool false) (fun w'_ hc_ => by go_simp <;> (unfold wrap64; omega)) rfl rfl ?_
                intro ts_ ht_; simp only [sI, sZ, sS] at ht_; subst ht_
                refine q_do (.bool false) (fun w'_ hc_ => ex_mv (.tmp 84) (.inl rfl) _ rfl) rfl rfl ?_
                intro ts_ ht_; simp only [sI, sZ, sS] at ht_; subst ht_
                refine q_do (.agg (bv a0)) (fun w'_ hc_ => by obtain ⟨n_, hn_⟩ := hc_; exact ex_load boardT gb1 0 (bv a0) (bv a0) (by rw [hn_]; exact BKb1.out.below n_.below BKb1.out.lt) (av_le LN_a0.out) (av_ex LN_a0.out) _ rfl rfl) rfl rfl ?_
                intro ts_ ht_; simp only [sI, sZ, sS] at ht_; subst ht_
                refine q_do (.int .i64 x49_2) (fun w'_ hc_ => ex_mv (.tmp 6) (.inl rfl) _ rfl) rfl rfl ?_
                intro ts_ ht_; simp only [sI, sZ, sS] at ht_; subst ht_
                refine q_call (.int .i64 t78) 41 #[.agg (bv a0), .int .i64 x49_2] (fun w'_ => by go_simp) (fun w'_ hc_ => (i_count_Promoted.calls k324 a0 x49_2 LN_a0.out t78 _ A353.out).mono fun e_ w2_ h_ => ⟨h_.1, up_below hc_ h_.2⟩) rfl rfl ?_
                intro ts_ ht_; simp only [sI, sZ, sS] at ht_; subst ht_
                refine q_do (.agg (bv a0)) (fun w'_ hc_ => by obtain ⟨n_, hn_⟩ := hc_; exact ex_load boardT gb1 0 (bv a0) (bv a0) (by rw [hn_]; exact BKb1.out.below n_.below BKb1.out.lt) (av_le LN_a0.out) (av_ex LN_a0.out) _ rfl rfl) rfl rfl ?_
                intro ts_ ht_; simp only [sI, sZ, sS] at ht_; subst ht_
                refine q_do (.int .i64 x49_2) (fun w'_ hc_ => ex_mv (.tmp 6) (.inl rfl) _ rfl) rfl rfl ?_
                intro ts_ ht_; simp only [sI, sZ, sS] at ht_; subst ht_
                refine q_call (.int .i64 t79) 43 #[.agg (bv a0), .int .i64 x49_2] (fun w'_ => by go_simp) (fun w'_ hc_ => (i_alfilref24_Promoted.calls k324 a0 x49_2 LN_a0.out t79 _ A354.out).mono fun e_ w2_ h_ => ⟨h_.1, up_below hc_ h_.2⟩) rfl rfl ?_
                intro ts_ ht_; simp only [sI, sZ, sS] at ht_; subst ht_
                refine q_do (.bool true) (fun w'_ hc_ => by go_simp <;> (unfold wrap64; omega)) rfl rfl ?_
                intro ts_ ht_; simp only [sI, sZ, sS] at ht_; subst ht_
                refine q_do (.bool true) (fun w'_ hc_ => by go_simp <;> (unfold wrap64; omega)) rfl rfl ?_
                intro ts_ ht_; simp only [sI, sZ, sS] at ht_; subst ht_
                refine q_end ?_
                rintro w8_ ⟨n_, rfl⟩
                replace BKb1 := hid (BKb1.out.below n_.below BKb1.out.lt)
                replace HL := hid (HL.out.trans (n_.below.mono HL.out.size))
                generalize n_.world = w361 at *
                clear n_ WR64 WR32
                go_wp2_with fail
                (try simp only [Act.put, sI, sZ, sS])
                go_ret
                exact ⟨by first | rfl | (simp; done) | (simp [*]; done), HL.out⟩
              ·
               rw [if_neg c352] at H
               have c352b0 : (t72 == t75) = false := beq_eq_false_iff_ne.mpr c352
               have c352b1 : (t72 != t75) = true := bne_iff_ne.mpr c352
               have hc352 := hid c352
               clear c352
               obtain rfl := Option.some.inj H
               clear H
               have k362 := True.intro
               go_wp2_with (first
                | (go_at_call 42; clear k362; refine (i_alfilref24_Least.calls k324 a0 x49_2 LN_a0.out t75 _ A331.out).mono ?_; rintro e_ w363 ⟨rfl, hb_⟩; replace BKb1 := hid (BKb1.out.below hb_ BKb1.out.lt); replace HL := hid (HL.out.trans (hb_.mono HL.out.size)); clear hb_))
               (try simp only [Act.put, sI, sZ, sS])
               have WR64 := i64_w
               have WR32 := i32_w
               refine up_regionW (by kernel_rfl) (by kernel_rfl) ?_
               refine q_do (.bool t73) (fun w'_ hc_ => ex_mv (.tmp 8) (.inl rfl) _ rfl) rfl rfl ?_
               intro ts_ ht_; simp only [sI, sZ, sS] at ht_; subst ht_
               refine q_do (.int .i64 t75) (fun w'_ hc_ => ex_mv (.tmp 9) (.inl rfl) _ rfl) rfl rfl ?_
               intro ts_ ht_; simp only [sI, sZ, sS] at ht_; subst ht_
               refine q_do (.bool (decide (t75 ≥ 0))) (fun w'_ hc_ => by go_simp <;> (unfold wrap64; omega)) rfl rfl ?_
               intro ts_ ht_; simp only [sI, sZ, sS] at ht_; subst ht_
               refine q_do (.bool false) (fun w'_ hc_ => by go_simp <;> (unfold wrap64; omega)) rfl rfl ?_
               intro ts_ ht_; simp only [sI, sZ, sS] at ht_; subst ht_
               refine q_do (.bool false) (fun w'_ hc_ => ex_mv (.tmp 78) (.inl rfl) _ rfl) rfl rfl ?_
               intro ts_ ht_; simp only [sI, sZ, sS] at ht_; subst ht_
               refine q_do (.int .i64 t72) (fun w'_ hc_ => ex_mv (.tmp 7) (.inl rfl) _ rfl) rfl rfl ?_
               intro ts_ ht_; simp only [sI, sZ, sS] at ht_; subst ht_
               refine q_do (.int .i64 t75) (fun w'_ hc_ => ex_mv (.tmp 9) (.inl rfl) _ rfl) rfl rfl ?_
               intro ts_ ht_; simp only [sI, sZ, sS] at ht_; subst ht_
               refine q_do (.int .i64 t75) (fun w'_ hc_ => by go_simp <;> (unfold wrap64; omega)) rfl rfl ?_
               intro ts_ ht_; simp only [sI, sZ, sS] at ht_; subst ht_
               refine q_do (.bool true) (fun w'_ hc_ => by go_simp <;> (unfold wrap64; omega)) rfl rfl ?_
               intro ts_ ht_; simp only [sI, sZ, sS] at ht_; subst ht_
               refine q_do (.bool true) (fun w'_ hc_ => by go_simp <;> (unfold wrap64; omega)) rfl rfl ?_
               intro ts_ ht_; simp only [sI, sZ, sS] at ht_; subst ht_
               refine q_do (.bool true) (fun w'_ hc_ => ex_mv (.tmp 84) (.inl rfl) _ rfl) rfl rfl ?_
               intro ts_ ht_; simp only [sI, sZ, sS] at ht_; subst ht_
               refine q_not 10 true rfl rfl rfl ?_
               intro ts_ ht_; simp only [sI, sZ, sS] at ht_; subst ht_
               refine q_not 10 true rfl rfl rfl ?_
               intro ts_ ht_; simp only [sI, sZ, sS] at ht_; subst ht_
               refine q_not 10 true rfl rfl rfl ?_
               intro ts_ ht_; simp only [sI, sZ, sS] at ht_; subst ht_
               refine q_not 10 true rfl rfl rfl ?_
               intro ts_ ht_; simp only [sI, sZ, sS] at ht_; subst ht_
               refine q_not 10 true rfl rfl rfl ?_
               intro ts_ ht_; simp only [sI, sZ, sS] at ht_; subst ht_
               refine q_not 10 true rfl rfl rfl ?_
               intro ts_ ht_; simp only [sI, sZ, sS] at ht_; subst ht_
               refine q_not 10 true rfl rfl rfl ?_
               intro ts_ ht_; simp only [sI, sZ, sS] at ht_; subst ht_
               refine q_do (.bool true) (fun w'_ hc_ => by go_simp <;> (unfold wrap64; omega)) rfl rfl ?_
               intro ts_ ht_; simp only [sI, sZ, sS] at ht_; subst ht_
               refine q_end ?_
               rintro w8_ ⟨n_, rfl⟩
               replace BKb1 := hid (BKb1.out.below n_.below BKb1.out.lt)
               replace HL := hid (HL.out.trans (n_.below.mono HL.out.size))
               generalize n_.world = w364 at *
               clear n_ WR64 WR32
               go_wp2_with fail
               (try simp only [Act.put, sI, sZ, sS])
               go_ret
               exact ⟨by first | rfl | (simp; done) | (simp [*]; done), HL.out⟩
           | false =>
            rw [if_neg (show ¬ (false = true) by decide)] at H
            by_cases c365 : t72 = 0
            ·
             rw [if_pos c365] at H
             have c365b0 : (t72 == 0) = true := beq_iff_eq.mpr c365
             have c365b1 : (t72 != 0) = false := bne_eq_false_iff_eq.mpr c365
             have hc365 := hid c365
             clear c365
             cases t73 with
             | true =>
              rw [if_pos rfl] at H
              obtain rfl := Option.some.inj H
              clear H
              have k367 := True.intro
              go_wp2_with (first
               | (go_at_call 37; clear k367; refine (i_alfilref03_Right.calls k324 a0 LN_a0.out false _ A327.out).mono ?_; rintro e_ w368 ⟨rfl, hb_⟩; replace BKb1 := hid (BKb1.out.below hb_ BKb1.out.lt); replace HL := hid (HL.out.trans (hb_.mono HL.out.size)); clear hb_))
              (try simp only [Act.put, sI, sZ, sS])
              go_ret
              exact ⟨by first | rfl | (simp; done) | (simp [*]; done), HL.out⟩
             | false =>
              rw [if_neg (show ¬ (false = true) by decide)] at H
              have H' := hid H
              clear H
              have k370 := True.intro
              go_wp2_with (first
               | (go_at_call 37; clear k370; refine (i_alfilref03_Right.calls k324 a0 LN_a0.out false _ A327.out).mono ?_; rintro e_ w371 ⟨rfl, hb_⟩; replace BKb1 := hid (BKb1.out.below hb_ BKb1.out.lt); replace HL := hid (HL.out.trans (hb_.mono HL.out.size)); clear hb_)
               | ((with_reducible refine gate_d (N := 67) rfl ?_); refine ag_fix (.agg (bv a0)) (ex_load boardT gb1 0 (bv a0) (bv a0) BKb1.out (av_le LN_a0.out) (av_ex LN_a0.out) _ rfl rfl) rfl ?_))
              (try simp only [Act.put, sI, sZ, sS])
              have H := H'.out
              clear H'
              replace H := Option.bind_eq_some_iff.mp H
              obtain ⟨t80, A369_, H⟩ := H
              have A369 := hid A369_
              clear A369_
              by_cases c372 : t80 = 0
              ·
               rw [if_pos c372] at H
               have c372b0 : (t80 == 0) = true := beq_iff_eq.mpr c372
               have c372b1 : (t80 != 0) = false := bne_eq_false_iff_eq.mpr c372
               have hc372 := hid c372
               clear c372
               have H' := hid H
               clear H
               have k373 := True.intro
               go_wp2_with (first
                | (go_at_call 41; clear k373; refine (i_count_Promoted.calls k324 a0 x49_2 LN_a0.out t80 _ A369.out).mono ?_; rintro e_ w374 ⟨rfl, hb_⟩; replace BKb1 := hid (BKb1.out.below hb_ BKb1.out.lt); replace HL := hid (HL.out.trans (hb_.mono HL.out.size)); clear hb_))
               (try simp only [Act.put, sI, sZ, sS])
               go_roundg k324
               case measure => have := HK323.out; omega
               case rel => exact ⟨wrap64 (x49_2 + 1), (by first | rfl | (simp; done) | (simp [*]; done)), H', (hid (by first | omega | (have := HK323.out; omega))), (hid (by exact BKb1.out)), HL⟩
              ·
               rw [if_neg c372] at H
               have c372b0 : (t80 == 0) = false := beq_eq_false_iff_ne.mpr c372
               have c372b1 : (t80 != 0) = true := bne_iff_ne.mpr c372
               have hc372 := hid c372
               clear c372
               obtain rfl := Option.some.inj H
               clear H
               have k375 := True.intro
               go_wp2_with (first
                | (go_at_call 41; clear k375; refine (i_count_Promoted.calls k324 a0 x49_2 LN_a0.out t80 _ A369.out).mono ?_; rintro e_ w376 ⟨rfl, hb_⟩; replace BKb1 := hid (BKb1.out.below hb_ BKb1.out.lt); replace HL := hid (HL.out.trans (hb_.mono HL.out.size)); clear hb_))
               (try simp only [Act.put, sI, sZ, sS])
               go_ret
               exact ⟨by first | rfl | (simp; done) | (simp [*]; done), HL.out⟩
            ·
             rw [if_neg c365] at H
             have c365b0 : (t72 == 0) = false := beq_eq_false_iff_ne.mpr c365
             have c365b1 : (t72 != 0) = true := bne_iff_ne.mpr c365
             have hc365 := hid c365
             clear c365
             obtain rfl := Option.some.inj H
             clear H
             have k377 := True.intro
             go_wp2_with (first
              | (go_at_call 37; clear k377; refine (i_alfilref03_Right.calls k324 a0 LN_a0.out false _ A327.out).mono ?_; rintro e_ w378 ⟨rfl, hb_⟩; replace BKb1 := hid (BKb1.out.below hb_ BKb1.out.lt); replace HL := hid (HL.out.trans (hb_.mono HL.out.size)); clear hb_))
             (try simp only [Act.put, sI, sZ, sS])
             go_ret
             exact ⟨by first | rfl | (simp; done) | (simp [*]; done), HL.out⟩
          ·
           rw [if_neg c325] at H
           have c325b0 : decide (x49_2 < 2) = false := decide_eq_false c325
           have hc325 := hid c325
           clear c325
           replace H := Option.bind_eq_some_iff.mp H
           obtain ⟨⟨t81, t82⟩, A379_, H⟩ := H
           dsimp only at H
           have A379 := hid A379_
           clear A379_
           by_cases c380 : t81 = 0
           ·
            rw [if_pos c380] at H
            have c380b0 : (t81 == 0) = true := beq_iff_eq.mpr c380
            have c380b1 : (t81 != 0) = false := bne_eq_false_iff_eq.mpr c380
            have hc380 := hid c380
            clear c380
            cases t82 with
            | true =>
             rw [if_pos rfl] at H
             obtain rfl := Option.some.inj H
             clear H
             have k382 := True.intro
             go_wp2_with (first
              | ((with_reducible refine gate_d (N := 96) rfl ?_); refine ag_fix (.agg (bv a0)) (ex_load boardT gb1 0 (bv a0) (bv a0) BKb1.out (av_le LN_a0.out) (av_ex LN_a0.out) _ rfl rfl) rfl ?_)
              | (go_at_call 40; clear k382; refine (i_count_Least.calls k324 a0 2 LN_a0.out t81 true _ A379.out).mono ?_; rintro e_ w383 ⟨rfl, hb_⟩; replace BKb1 := hid (BKb1.out.below hb_ BKb1.out.lt); replace HL := hid (HL.out.trans (hb_.mono HL.out.size)); clear hb_))
             (try simp only [Act.put, sI, sZ, sS])
             go_ret
             exact ⟨by first | rfl | (simp; done) | (simp [*]; done), HL.out⟩
            | false =>
             rw [if_neg (show ¬ (false = true) by decide)] at H
             replace H := Option.bind_eq_some_iff.mp H
             obtain ⟨t83, A384_, H⟩ := H
             have A384 := hid A384_
             clear A384_
             obtain rfl := Option.some.inj H
             clear H
             have k385 := True.intro
             have k387 := True.intro
             go_wp2_with (first
              | ((with_reducible refine gate_d (N := 96) rfl ?_); refine ag_fix (.agg (bv a0)) (ex_load boardT gb1 0 (bv a0) (bv a0) BKb1.out (av_le LN_a0.out) (av_ex LN_a0.out) _ rfl rfl) rfl ?_)
              | (go_at_call 40; clear k385; refine (i_count_Least.calls k324 a0 2 LN_a0.out t81 false _ A379.out).mono ?_; rintro e_ w386 ⟨rfl, hb_⟩; replace BKb1 := hid (BKb1.out.below hb_ BKb1.out.lt); replace HL := hid (HL.out.trans (hb_.mono HL.out.size)); clear hb_)
              | ((with_reducible refine gate_d (N := 107) rfl ?_); refine ag_fix (.agg (bv a0)) (ex_load boardT gb1 0 (bv a0) (bv a0) BKb1.out (av_le LN_a0.out) (av_ex LN_a0.out) _ rfl rfl) rfl ?_)
              | (go_at_call 41; clear k387; refine (i_count_Promoted.calls k324 a0 (-1) LN_a0.out t83 _ A384.out).mono ?_; rintro e_ w388 ⟨rfl, hb_⟩; replace BKb1 := hid (BKb1.out.below hb_ BKb1.out.lt); replace HL := hid (HL.out.trans (hb_.mono HL.out.size)); clear hb_))
             (try simp only [Act.put, sI, sZ, sS])
             go_ret
             exact ⟨by first | rfl | (simp; done) | (simp [*]; done), HL.out⟩
           ·
            rw [if_neg c380] at H
            have c380b0 : (t81 == 0) = false := beq_eq_false_iff_ne.mpr c380
            have c380b1 : (t81 != 0) = true := bne_iff_ne.mpr c380
            have hc380 := hid c380
            clear c380
            obtain rfl := Option.some.inj H
            clear H
            have k389 := True.intro
            go_wp2_with (first
             | ((with_reducible refine gate_d (N := 96) rfl ?_); refine ag_fix (.agg (bv a0)) (ex_load boardT gb1 0 (bv a0) (bv a0) BKb1.out (av_le LN_a0.out) (av_ex LN_a0.out) _ rfl rfl) rfl ?_)
             | (go_at_call 40; clear k389; refine (i_count_Least.calls k324 a0 2 LN_a0.out t81 t82 _ A379.out).mono ?_; rintro e_ w390 ⟨rfl, hb_⟩; replace BKb1 := hid (BKb1.out.below hb_ BKb1.out.lt); replace HL := hid (HL.out.trans (hb_.mono HL.out.size)); clear hb_))
            (try simp only [Act.put, sI, sZ, sS])
            go_ret
            exact ⟨by first | rfl | (simp; done) | (simp [*]; done), HL.out⟩
     ·
      rw [if_neg c311] at H
      have c311b0 : (t3 == t58) = false := beq_eq_false_iff_ne.mpr c311
      have c311b1 : (t3 != t58) = true := bne_iff_ne.mpr c311
      have hc311 := hid c311
      clear c311
      obtain rfl := Option.some.inj H
      clear H
      have k391 := True.intro
      go_wp2_with (first
       | (go_at_call 38; clear k391; refine (i_alfilref24_Why.calls k a0 LN_a0.out t58 _ A308.out).mono ?_; rintro e_ w392 ⟨rfl, hb_⟩; replace BKb1 := hid (BKb1.out.below hb_ BKb1.out.lt); replace HL := hid (HL.out.trans (hb_.mono HL.out.size)); clear hb_))
      (try simp only [Act.put, sI, sZ, sS])
      go_ret
      exact ⟨by first | rfl | (simp; done) | (simp [*]; done), HL.out⟩
  ·
   rw [if_neg c144] at H
   have c144b0 : decide (t5 ≤ 8) = false := decide_eq_false c144
   have hc144 := hid c144
   clear c144
   have H' := hid H
   clear H
   have k394 := True.intro
   go_wp2_with (first
    | (go_at_call 36; clear k394; refine (i_alfillaw24_pawns.calls k a0 0 LN_a0.out t5 _ A141.out).mono ?_; rintro e_ w395 ⟨rfl, hb_⟩; replace BKb1 := hid (BKb1.out.below hb_ BKb1.out.lt); replace HL := hid (HL.out.trans (hb_.mono HL.out.size)); clear hb_)
    | ((with_reducible refine gate_d (N := 28) rfl ?_); refine ag_fix (.agg (bv a0)) (ex_load boardT gb1 0 (bv a0) (bv a0) BKb1.out (av_le LN_a0.out) (av_ex LN_a0.out) _ rfl rfl) rfl ?_))
   (try simp only [Act.put, sI, sZ, sS])
   have H := H'.out
   clear H'
   replace H := Option.bind_eq_some_iff.mp H
   obtain ⟨t84, A393_, H⟩ := H
   have A393 := hid A393_
   clear A393_
   cases t84 with
   | true =>
    rw [if_pos rfl] at H
    have H' := hid H
    clear H
    have k397 := True.intro
    go_wp2_with (first
     | (go_at_call 37; clear k397; refine (i_alfilref03_Right.calls k a0 LN_a0.out true _ A393.out).mono ?_; rintro e_ w398 ⟨rfl, hb_⟩; replace BKb1 := hid (BKb1.out.below hb_ BKb1.out.lt); replace HL := hid (HL.out.trans (hb_.mono HL.out.size)); clear hb_))
    (try simp only [Act.put, sI, sZ, sS])
    go_loopg [49] k (fun kq v49 w' => ∃ (x49_3 : Int), v49 = .int .i64 x49_3 ∧ Hid (i_alfillaw24_CountAll.l3 kq a0 x49_3 = some r1) ∧ Hid (kq ≤ k) ∧ Hid (Blk w' gb1 44 (bv a0)) ∧ Hid (Below w.heap.size w w'))
    case atStart => exact ⟨(0 : Int), (by first | rfl | (simp; done) | (simp [*]; done)), H', (hid (by first | omega | (omega))), (hid (by exact BKb1.out)), HL⟩
    case round =>
     clear H'
     clear HL BKb1
     obtain ⟨x49_3, rfl, HA, HK399, BKb1, HL⟩ := hrel
     cases gk with
     | zero => exact absurd HA.out (by simp [i_alfillaw24_CountAll.l3])
     | succ k400 =>
      have H := HA.out
      clear HA
      simp only [i_alfillaw24_CountAll.l3] at H
      by_cases c401 : x49_3 < 2
      ·
       rw [if_pos c401] at H
       have c401b0 : decide (x49_3 < 2) = true := decide_eq_true c401
       have hc401 := hid c401
       clear c401
       replace H := Option.bind_eq_some_iff.mp H
       obtain ⟨⟨t97, t98⟩, A402_, H⟩ := H
       dsimp only at H
       have A402 := hid A402_
       clear A402_
       have H' := hid H
       clear H
       have k404 := True.intro
       go_wp2_with (first
        | ((with_reducible refine gate_d (N := 53) rfl ?_); refine ag_fix (.agg (bv a0)) (ex_load boardT gb1 0 (bv a0) (bv a0) BKb1.out (av_le LN_a0.out) (av_ex LN_a0.out) _ rfl rfl) rfl ?_)
        | (go_at_call 40; clear k404; refine (i_count_Least.calls k400 a0 x49_3 LN_a0.out t97 t98 _ A402.out).mono ?_; rintro e_ w405 ⟨rfl, hb_⟩; replace BKb1 := hid (BKb1.out.below hb_ BKb1.out.lt); replace HL := hid (HL.out.trans (hb_.mono HL.out.size)); clear hb_)
        | ((with_reducible refine gate_d (N := 58) rfl ?_); refine ag_fix (.agg (bv a0)) (ex_load boardT gb1 0 (bv a0) (bv a0) BKb1.out (av_le LN_a0.out) (av_ex LN_a0.out) _ rfl rfl) rfl ?_))
       (try simp only [Act.put, sI, sZ, sS])
       have H := H'.out
       clear H'
       replace H := Option.bind_eq_some_iff.mp H
       obtain ⟨t99, A403_, H⟩ := H
       have A403 := hid A403_
       clear A403_
       cases t99 with
       | true =>
        rw [if_pos rfl] at H
        have H' := hid H
        clear H
        have k408 := True.intro
        go_wp2_with (first
         | (go_at_call 37; clear k408; refine (i_alfilref03_Right.calls k400 a0 LN_a0.out true _ A403.out).mono ?_; rintro e_ w409 ⟨rfl, hb_⟩; replace BKb1 := hid (BKb1.out.below hb_ BKb1.out.lt); replace HL := hid (HL.out.trans (hb_.mono HL.out.size)); clear hb_)
         | ((with_reducible refine gate_d (N := 72) rfl ?_); refine ag_fix (.agg (bv a0)) (ex_load boardT gb1 0 (bv a0) (bv a0) BKb1.out (av_le LN_a0.out) (av_ex LN_a0.out) _ rfl rfl) rfl ?_))
        (try simp only [Act.put, sI, sZ, sS])
        have H := H'.out
        clear H'
        replace H := Option.bind_eq_some_iff.mp H
        obtain ⟨t100, A407_, H⟩ := H
        have A407 := hid A407_
        clear A407_
        by_cases c410 : (t98 != (decide (t100 ≥ 0))) = true
        ·
         rw [if_pos c410] at H
         have c410b0 : (t98 != (decide (t100 ≥ 0))) = true := c410
         (try have c410b1 : decide (t98 = (decide (t100 ≥ 0))) = false := by simpa using c410)
         (try have c410b2 : (t98 == (decide (t100 ≥ 0))) = false := by simpa using c410)
         (try have c410b3 : ¬ (t98 = (decide (t100 ≥ 0))) := by simpa using c410)
         have hc410 := hid c410
         clear c410
         obtain rfl := Option.some.inj H
         clear H
         have k411 := True.intro
         go_wp2_with (first
          | (go_at_call 42; clear k411; refine (i_alfilref24_Least.calls k400 a0 x49_3 LN_a0.out t100 _ A407.out).mono ?_; rintro e_ w412 ⟨rfl, hb_⟩; replace BKb1 := hid (BKb1.out.below hb_ BKb1.out.lt); replace HL := hid (HL.out.trans (hb_.mono HL.out.size)); clear hb_))
         (try simp only [Act.put, sI, sZ, sS])
         have WR64 := i64_w
         have WR32 := i32_w
         refine up_regionW (by kernel_rfl) (by kernel_rfl) ?_
         refine q_do (.bool t98) (fun w'_ hc_ => ex_mv (.tmp 8) (.inl rfl) _ rfl) rfl rfl ?_
         intro ts_ ht_; simp only [sI, sZ, sS] at ht_; subst ht_
         refine q_do (.int .i64 t100) (fun w'_ hc_ => ex_mv (.tmp 9) (.inl rfl) _ rfl) rfl rfl ?_
         intro ts_ ht_; simp only [sI, sZ, sS] at ht_; subst ht_
         refine q_do (.bool (decide (t100 ≥ 0))) (fun w'_ hc_ => by go_simp <;> (unfold wrap64; omega)) rfl rfl ?_
         intro ts_ ht_; simp only [sI, sZ, sS] at ht_; subst ht_
         refine q_do (.bool true) (fun w'_ hc_ => by go_simp <;> (unfold wrap64; omega)) rfl rfl ?_
         intro ts_ ht_; simp only [sI, sZ, sS] at ht_; subst ht_
         refine q_do (.bool true) (fun w'_ hc_ => ex_mv (.tmp 78) (.inl rfl) _ rfl) rfl rfl ?_
         intro ts_ ht_; simp only [sI, sZ, sS] at ht_; subst ht_
         refine q_not 4 true rfl rfl rfl ?_
         intro ts_ ht_; simp only [sI, sZ, sS] at ht_; subst ht_
         refine q_not 4 true rfl rfl rfl ?_
         intro ts_ ht_; simp only [sI, sZ, sS] at ht_; subst ht_
         refine q_not 4 true rfl rfl rfl ?_
         intro ts_ ht_; simp only [sI, sZ, sS] at ht_; subst ht_
         refine q_not 4 true rfl rfl rfl ?_
         intro ts_ ht_; simp only [sI, sZ, sS] at ht_; subst ht_
         refine q_do (.bool true) (fun w'_ hc_ => by go_simp <;> (unfold wrap64; omega)) rfl rfl ?_
         intro ts_ ht_; simp only [sI, sZ, sS] at ht_; subst ht_
         refine q_do (.bool true) (fun w'_ hc_ => ex_mv (.tmp 84) (.inl rfl) _ rfl) rfl rfl ?_
         intro ts_ ht_; simp only [sI, sZ, sS] at ht_; subst ht_
         refine q_not 10 true rfl rfl rfl ?_
         intro ts_ ht_; simp only [sI, sZ, sS] at ht_; subst ht_
         refine q_not 10 true rfl rfl rfl ?_
         intro ts_ ht_; simp only [sI, sZ, sS] at ht_; subst ht_
         refine q_not 10 true rfl rfl rfl ?_
         intro ts_ ht_; simp only [sI, sZ, sS] at ht_; subst ht_
         refine q_not 10 true rfl rfl rfl ?_
         intro ts_ ht_; simp only [sI, sZ, sS] at ht_; subst ht_
         refine q_not 10 true rfl rfl rfl ?_
         intro ts_ ht_; simp only [sI, sZ, sS] at ht_; subst ht_
         refine q_not 10 true rfl rfl rfl ?_
         intro ts_ ht_; simp only [sI, sZ, sS] at ht_; subst ht_
         refine q_not 10 true rfl rfl rfl ?_
         intro ts_ ht_; simp only [sI, sZ, sS] at ht_; subst ht_
         refine q_do (.bool true) (fun w'_ hc_ => by go_simp <;> (unfold wrap64; omega)) rfl rfl ?_
         intro ts_ ht_; simp only [sI, sZ, sS] at ht_; subst ht_
         refine q_end ?_
         rintro w8_ ⟨n_, rfl⟩
         replace BKb1 := hid (BKb1.out.below n_.below BKb1.out.lt)
         replace HL := hid (HL.out.trans (n_.below.mono HL.out.size))
         generalize n_.world = w413 at *
         clear n_ WR64 WR32
         go_wp2_with fail
         (try simp only [Act.put, sI, sZ, sS])
         go_ret
         exact ⟨by first | rfl | (simp; done) | (simp [*]; done), HL.out⟩
        ·
         rw [if_neg c410] at H
         have c410b0 : (t98 != (decide (t100 ≥ 0))) = false := by simpa using c410
         (try have c410b1 : decide (t98 = (decide (t100 ≥ 0))) = true := by simpa using c410)
         (try have c410b2 : (t98 == (decide (t100 ≥ 0))) = true := by simpa using c410)
         have hc410 := hid c410
         clear c410
         by_cases c414 : t100 < 0
         ·
          rw [if_pos c414] at H
          have c414b0 : decide (t100 < 0) = true := decide_eq_true c414
          have c414b1 : (if t100 < 0 then 0 else t100) = 0 := if_pos c414
          have c414b2 : max t100 0 = 0 := by omega
          have hc414 := hid c414
          clear c414
          by_cases c415 : t97 = 0
          ·
           rw [if_pos c415] at H
           have c415b0 : (t97 == 0) = true := beq_iff_eq.mpr c415
           have c415b1 : (t97 != 0) = false := bne_eq_false_iff_eq.mpr c415
           have hc415 := hid c415
           clear c415
           replace H := Option.bind_eq_some_iff.mp H
           obtain ⟨t101, A416_, H⟩ := H
           have A416 := hid A416_
           clear A416_
           replace H := Option.bind_eq_some_iff.mp H
           obtain ⟨t102, A417_, H⟩ := H
           have A417 := hid A417_
           clear A417_
           by_cases c418 : t101 = t102
           ·
            rw [if_pos c418] at H
            have c418b0 : (t101 == t102) = true := beq_iff_eq.mpr c418
            have c418b1 : (t101 != t102) = false := bne_eq_false_iff_eq.mpr c418
            have hc418 := hid c418
            clear c418
            have H' := hid H
            clear H
            have k419 := True.intro
            go_wp2_with (first
             | (go_at_call 42; clear k419; refine (i_alfilref24_Least.calls k400 a0 x49_3 LN_a0.out t100 _ A407.out).mono ?_; rintro e_ w420 ⟨rfl, hb_⟩; replace BKb1 := hid (BKb1.out.below hb_ BKb1.out.lt); replace HL := hid (HL.out.trans (hb_.mono HL.out.size)); clear hb_))
            (try simp only [Act.put, sI, sZ, sS])
            have WR64 := i64_w
            have WR32 := i32_w
            refine up_regionW (by kernel_rfl) (by kernel_rfl) ?_
            refine q_do (.bool t98) (fun w'_ hc_ => ex_mv (.tmp 8) (.inl rfl) _ rfl) rfl rfl ?_
            intro ts_ ht_; simp only [sI, sZ, sS] at ht_; subst ht_
            refine q_do (.int .i64 t100) (fun w'_ hc_ => ex_mv (.tmp 9) (.inl rfl) _ rfl) rfl rfl ?_
            intro ts_ ht_; simp only [sI, sZ, sS] at ht_; subst ht_
            refine q_do (.bool (decide (t100 ≥ 0))) (fun w'_ hc_ => by go_simp <;> (unfold wrap64; omega)) rfl rfl ?_
            intro ts_ ht_; simp only [sI, sZ, sS] at ht_; subst ht_
            refine q_do (.bool false) (fun w'_ hc_ => by go_simp <;> (unfold wrap64; omega)) rfl rfl ?_
            intro ts_ ht_; simp only [sI, sZ, sS] at ht_; subst ht_
            refine q_do (.bool false) (fun w'_ hc_ => ex_mv (.tmp 78) (.inl rfl) _ rfl) rfl rfl ?_
            intro ts_ ht_; simp only [sI, sZ, sS] at ht_; subst ht_
            refine q_do (.int .i64 t97) (fun w'_ hc_ => ex_mv (.tmp 7) (.inl rfl) _ rfl) rfl rfl ?_
            intro ts_ ht_; simp only [sI, sZ, sS] at ht_; subst ht_
            refine q_do (.int .i64 t100) (fun w'_ hc_ => ex_mv (.tmp 9) (.inl rfl) _ rfl) rfl rfl ?_
            intro ts_ ht_; simp only [sI, sZ, sS] at ht_; subst ht_
            refine q_do (.int .i64 0) (fun w'_ hc_ => by go_simp <;> (unfold wrap64; omega)) rfl rfl ?_
            intro ts_ ht_; simp only [sI, sZ, sS] at ht_; subst ht_
            refine q_do (.bool false) (fun w'_ hc_ => by go_simp <;> (unfold wrap64; omega)) rfl rfl ?_
            intro ts_ ht_; simp only [sI, sZ, sS] at ht_; subst ht_
            refine q_do (.bool false) (fun w'_ hc_ => by go_simp <;> (unfold wrap64; omega)) rfl rfl ?_
            intro ts_ ht_; simp only [sI, sZ, sS] at ht_; subst ht_
            refine q_do (.bool false) (fun w'_ hc_ => ex_mv (.tmp 84) (.inl rfl) _ rfl) rfl rfl ?_
            intro ts_ ht_; simp only [sI, sZ, sS] at ht_; subst ht_
            refine q_do (.agg (bv a0)) (fun w'_ hc_ => by obtain ⟨n_, hn_⟩ := hc_; exact ex_load boardT gb1 0 (bv a0) (bv a0) (by rw [hn_]; exact BKb1.out.below n_.below BKb1.out.lt) (av_le LN_a0.out) (av_ex LN_a0.out) _ rfl rfl) rfl rfl ?_
            intro ts_ ht_; simp only [sI, sZ, sS] at ht_; subst ht_
            refine q_do (.int .i64 x49_3) (fun w'_ hc_ => ex_mv (.tmp 6) (.inl rfl) _ rfl) rfl rfl ?_
            intro ts_ ht_; simp only [sI, sZ, sS] at ht_; subst ht_
            refine q_call (.int .i64 t101) 41 #[.agg (bv a0), .int .i64 x49_3] (fun w'_ => by go_simp) (fun w'_ hc_ => (i_count_Promoted.calls k400 a0 x49_3 LN_a0.out t101 _ A416.out).mono fun e_ w2_ h_ => ⟨h_.1, up_below hc_ h_.2⟩) rfl rfl ?_
            intro ts_ ht_; simp only [sI, sZ, sS] at ht_; subst ht_
            refine q_do (.agg (bv a0)) (fun w'_ hc_ => by obtain ⟨n_, hn_⟩ := hc_; exact ex_load boardT gb1 0 (bv a0) (bv a0) (by rw [hn_]; exact BKb1.out.below n_.below BKb1.out.lt) (av_le LN_a0.out) (av_ex LN_a0.out) _ rfl rfl) rfl rfl ?_
            intro ts_ ht_; simp only [sI, sZ, sS] at ht_; subst ht_
            refine q_do (.int .i64 x49_3) (fun w'_ hc_ => ex_mv (.tmp 6) (.inl rfl) _ rfl) rfl rfl ?_
            intro ts_ ht_; simp only [sI, sZ, sS] at ht_; subst ht_
            refine q_call (.int .i64 t102) 43 #[.agg (bv a0), .int .i64 x49_3] (fun w'_ => by go_simp) (fun w'_ hc_ => (i_alfilref24_Promoted.calls k400 a0 x49_3 LN_a0.out t102 _ A417.out).mono fun e_ w2_ h_ => ⟨h_.1, up_below hc_ h_.2⟩) rfl rfl ?_
            intro ts_ ht_; simp only [sI, sZ, sS] at ht_; subst ht_
            refine q_do (.bool false) (fun w'_ hc_ => by go_simp <;> (unfold wrap64; omega)) rfl rfl ?_
            intro ts_ ht_; simp only [sI, sZ, sS] at ht_; subst ht_
            refine q_do (.bool false) (fun w'_ hc_ => by go_simp <;> (unfold wrap64; omega)) rfl rfl ?_
            intro ts_ ht_; simp only [sI, sZ, sS] at ht_; subst ht_
            refine q_end ?_
            rintro w8_ ⟨n_, rfl⟩
            replace BKb1 := hid (BKb1.out.below n_.below BKb1.out.lt)
            replace HL := hid (HL.out.trans (n_.below.mono HL.out.size))
            generalize n_.world = w421 at *
            clear n_ WR64 WR32
            go_wp2_with fail
            (try simp only [Act.put, sI, sZ, sS])
            go_roundg k400
            case measure => have := HK399.out; omega
            case rel => exact ⟨wrap64 (x49_3 + 1), (by first | rfl | (simp; done) | (simp [*]; done)), H', (hid (by first | omega | (have := HK399.out; omega))), (hid (by exact BKb1.out)), HL⟩
           ·
            rw [if_neg c418] at H
            have c418b0 : (t101 == t102) = false := beq_eq_false_iff_ne.mpr c418
            have c418b1 : (t101 != t102) = true := bne_iff_ne.mpr c418
            have hc418 := hid c418
            clear c418
            obtain rfl := Option.some.inj H
            clear H
            have k422 := True.intro
            go_wp2_with (first
             | (go_at_call 42; clear k422; refine (i_alfilref24_Least.calls k400 a0 x49_3 LN_a0.out t100 _ A407.out).mono ?_; rintro e_ w423 ⟨rfl, hb_⟩; replace BKb1 := hid (BKb1.out.below hb_ BKb1.out.lt); replace HL := hid (HL.out.trans (hb_.mono HL.out.size)); clear hb_))
            (try simp only [Act.put, sI, sZ, sS])
            have WR64 := i64_w
            have WR32 := i32_w
            refine up_regionW (by kernel_rfl) (by kernel_rfl) ?_
            refine q_do (.bool t98) (fun w'_ hc_ => ex_mv (.tmp 8) (.inl rfl) _ rfl) rfl rfl ?_
            intro ts_ ht_; simp only [sI, sZ, sS] at ht_; subst ht_
            refine q_do (.int .i64 t100) (fun w'_ hc_ => ex_mv (.tmp 9) (.inl rfl) _ rfl) rfl rfl ?_
            intro ts_ ht_; simp only [sI, sZ, sS] at ht_; subst ht_
            refine q_do (.bool (decide (t100 ≥ 0))) (fun w'_ hc_ => by go_simp <;> (unfold wrap64; omega)) rfl rfl ?_
            intro ts_ ht_; simp only [sI, sZ, sS] at ht_; subst ht_
            refine q_do (.bool false) (fun w'_ hc_ => by go_simp <;> (unfold wrap64; omega)) rfl rfl ?_
            intro ts_ ht_; simp only [sI, sZ, sS] at ht_; subst ht_
            refine q_do (.bool false) (fun w'_ hc_ => ex_mv (.tmp 78) (.inl rfl) _ rfl) rfl rfl ?_
            intro ts_ ht_; simp only [sI, sZ, sS] at ht_; subst ht_
            refine q_do (.int .i64 t97) (fun w'_ hc_ => ex_mv (.tmp 7) (.inl rfl) _ rfl) rfl rfl ?_
            intro ts_ ht_; simp only [sI, sZ, sS] at ht_; subst ht_
            refine q_do (.int .i64 t100) (fun w'_ hc_ => ex_mv (.tmp 9) (.inl rfl) _ rfl) rfl rfl ?_
            intro ts_ ht_; simp only [sI, sZ, sS] at ht_; subst ht_
            refine q_do (.int .i64 0) (fun w'_ hc_ => by go_simp <;> (unfold wrap64; omega)) rfl rfl ?_
            intro ts_ ht_; simp only [sI, sZ, sS] at ht_; subst ht_
            refine q_do (.bool false) (fun w'_ hc_ => by go_simp <;> (unfold wrap64; omega)) rfl rfl ?_
            intro ts_ ht_; simp only [sI, sZ, sS] at ht_; subst ht_
            refine q_do (.bool false) (fun w'_ hc_ => by go_simp <;> (unfold wrap64; omega)) rfl rfl ?_
            intro ts_ ht_; simp only [sI, sZ, sS] at ht_; subst ht_
            refine q_do (.bool false) (fun w'_ hc_ => ex_mv (.tmp 84) (.inl rfl) _ rfl) rfl rfl ?_
            intro ts_ ht_; simp only [sI, sZ, sS] at ht_; subst ht_
            refine q_do (.agg (bv a0)) (fun w'_ hc_ => by obtain ⟨n_, hn_⟩ := hc_; exact ex_load boardT gb1 0 (bv a0) (bv a0) (by rw [hn_]; exact BKb1.out.below n_.below BKb1.out.lt) (av_le LN_a0.out) (av_ex LN_a0.out) _ rfl rfl) rfl rfl ?_
            intro ts_ ht_; simp only [sI, sZ, sS] at ht_; subst ht_
            refine q_do (.int .i64 x49_3) (fun w'_ hc_ => ex_mv (.tmp 6) (.inl rfl) _ rfl) rfl rfl ?_
            intro ts_ ht_; simp only [sI, sZ, sS] at ht_; subst ht_
            refine q_call (.int .i64 t101) 41 #[.agg (bv a0), .int .i64 x49_3] (fun w'_ => by go_simp) (fun w'_ hc_ => (i_count_Promoted.calls k400 a0 x49_3 LN_a0.out t101 _ A416.out).mono fun e_ w2_ h_ => ⟨h_.1, up_below hc_ h_.2⟩) rfl rfl ?_
            intro ts_ ht_; simp only [sI, sZ, sS] at ht_; subst ht_
            refine q_do (.agg (bv a0)) (fun w'_ hc_ => by obtain ⟨n_, hn_⟩ := hc_; exact ex_load boardT gb1 0 (bv a0) (bv a0) (by rw [hn_]; exact BKb1.out.below n_.below BKb1.out.lt) (av_le LN_a0.out) (av_ex LN_a0.out) _ rfl rfl) rfl rfl ?_
            intro ts_ ht_; simp only [sI, sZ, sS] at ht_; subst ht_
            refine q_do (.int .i64 x49_3) (fun w'_ hc_ => ex_mv (.tmp 6) (.inl rfl) _ rfl) rfl rfl ?_
            intro ts_ ht_; simp only [sI, sZ, sS] at ht_; subst ht_
            refine q_call (.int .i64 t102) 43 #[.agg (bv a0), .int .i64 x49_3] (fun w'_ => by go_simp) (fun w'_ hc_ => (i_alfilref24_Promoted.calls k400 a0 x49_3 LN_a0.out t102 _ A417.out).mono fun e_ w2_ h_ => ⟨h_.1, up_below hc_ h_.2⟩) rfl rfl ?_
            intro ts_ ht_; simp only [sI, sZ, sS] at ht_; subst ht_
            refine q_do (.bool true) (fun w'_ hc_ => by go_simp <;> (unfold wrap64; omega)) rfl rfl ?_
            intro ts_ ht_; simp only [sI, sZ, sS] at ht_; subst ht_
            refine q_do (.bool true) (fun w'_ hc_ => by go_simp <;> (unfold wrap64; omega)) rfl rfl ?_
            intro ts_ ht_; simp only [sI, sZ, sS] at ht_; subst ht_
            refine q_end ?_
            rintro w8_ ⟨n_, rfl⟩
            replace BKb1 := hid (BKb1.out.below n_.below BKb1.out.lt)
            replace HL := hid (HL.out.trans (n_.below.mono HL.out.size))
            generalize n_.world = w424 at *
            clear n_ WR64 WR32
            go_wp2_with fail
            (try simp only [Act.put, sI, sZ, sS])
            go_ret
            exact ⟨by first | rfl | (simp; done) | (simp [*]; done), HL.out⟩
          ·
           rw [if_neg c415] at H
           have c415b0 : (t97 == 0) = false := beq_eq_false_iff_ne.mpr c415
           have c415b1 : (t97 != 0) = true := bne_iff_ne.mpr c415
           have hc415 := hid c415
           clear c415
           obtain rfl := Option.some.inj H
           clear H
           have k425 := True.intro
           go_wp2_with (first
            | (go_at_call 42; clear k425; refine (i_alfilref24_Least.calls k400 a0 x49_3 LN_a0.out t100 _ A407.out).mono ?_; rintro e_ w426 ⟨rfl, hb_⟩; replace BKb1 := hid (BKb1.out.below hb_ BKb1.out.lt); replace HL := hid (HL.out.trans (hb_.mono HL.out.size)); clear hb_))
           (try simp only [Act.put, sI, sZ, sS])
           have WR64 := i64_w
           have WR32 := i32_w
           refine up_regionW (by kernel_rfl) (by kernel_rfl) ?_
           refine q_do (.bool t98) (fun w'_ hc_ => ex_mv (.tmp 8) (.inl rfl) _ rfl) rfl rfl ?_
           intro ts_ ht_; simp only [sI, sZ, sS] at ht_; subst ht_
           refine q_do (.int .i64 t100) (fun w'_ hc_ => ex_mv (.tmp 9) (.inl rfl) _ rfl) rfl rfl ?_
           intro ts_ ht_; simp only [sI, sZ, sS] at ht_; subst ht_
           refine q_do (.bool (decide (t100 ≥ 0))) (fun w'_ hc_ => by go_simp <;> (unfold wrap64; omega)) rfl rfl ?_
           intro ts_ ht_; simp only [sI, sZ, sS] at ht_; subst ht_
           refine q_do (.bool false) (fun w'_ hc_ => by go_simp <;> (unfold wrap64; omega)) rfl rfl ?_
           intro ts_ ht_; simp only [sI, sZ, sS] at ht_; subst ht_
           refine q_do (.bool false) (fun w'_ hc_ => ex_mv (.tmp 78) (.inl rfl) _ rfl) rfl rfl ?_
           intro ts_ ht_; simp only [sI, sZ, sS] at ht_; subst ht_
           refine q_do (.int .i64 t97) (fun w'_ hc_ => ex_mv (.tmp 7) (.inl rfl) _ rfl) rfl rfl ?_
           intro ts_ ht_; simp only [sI, sZ, sS] at ht_; subst ht_
           refine q_do (.int .i64 t100) (fun w'_ hc_ => ex_mv (.tmp 9) (.inl rfl) _ rfl) rfl rfl ?_
           intro ts_ ht_; simp only [sI, sZ, sS] at ht_; subst ht_
           refine q_do (.int .i64 0) (fun w'_ hc_ => by go_simp <;> (unfold wrap64; omega)) rfl rfl ?_
           intro ts_ ht_; simp only [sI, sZ, sS] at ht_; subst ht_
           refine q_do (.bool true) (fun w'_ hc_ => by go_simp <;> (unfold wrap64; omega)) rfl rfl ?_
           intro ts_ ht_; simp only [sI, sZ, sS] at ht_; subst ht_
           refine q_do (.bool true) (fun w'_ hc_ => by go_simp <;> (unfold wrap64; omega)) rfl rfl ?_
           intro ts_ ht_; simp only [sI, sZ, sS] at ht_; subst ht_
           refine q_do (.bool true) (fun w'_ hc_ => ex_mv (.tmp 84) (.inl rfl) _ rfl) rfl rfl ?_
           intro ts_ ht_; simp only [sI, sZ, sS] at ht_; subst ht_
           refine q_not 10 true rfl rfl rfl ?_
           intro ts_ ht_; simp only [sI, sZ, sS] at ht_; subst ht_
           refine q_not 10 true rfl rfl rfl ?_
           intro ts_ ht_; simp only [sI, sZ, sS] at ht_; subst ht_
           refine q_not 10 true rfl rfl rfl ?_
           intro ts_ ht_; simp only [sI, sZ, sS] at ht_; subst ht_
           refine q_not 10 true rfl rfl rfl ?_
           intro ts_ ht_; simp only [sI, sZ, sS] at ht_; subst ht_
           refine q_not 10 true rfl rfl rfl ?_
           intro ts_ ht_; simp only [sI, sZ, sS] at ht_; subst ht_
           refine q_not 10 true rfl rfl rfl ?_
           intro ts_ ht_; simp only [sI, sZ, sS] at ht_; subst ht_
           refine q_not 10 true rfl rfl rfl ?_
           intro ts_ ht_; simp only [sI, sZ, sS] at ht_; subst ht_
           refine q_do (.bool true) (fun w'_ hc_ => by go_simp <;> (unfold wrap64; omega)) rfl rfl ?_
           intro ts_ ht_; simp only [sI, sZ, sS] at ht_; subst ht_
           refine q_end ?_
           rintro w8_ ⟨n_, rfl⟩
           replace BKb1 := hid (BKb1.out.below n_.below BKb1.out.lt)
           replace HL := hid (HL.out.trans (n_.below.mono HL.out.size))
           generalize n_.world = w427 at *
           clear n_ WR64 WR32
           go_wp2_with fail
           (try simp only [Act.put, sI, sZ, sS])
           go_ret
           exact ⟨by first | rfl | (simp; done) | (simp [*]; done), HL.out⟩
         ·
          rw [if_neg c414] at H
          have c414b0 : decide (t100 < 0) = false := decide_eq_false c414
          have c414b1 : (if t100 < 0 then 0 else t100) = t100 := if_neg c414
          have c414b2 : max t100 0 = t100 := by omega
          have hc414 := hid c414
          clear c414
          by_cases c428 : t97 = t100
          ·
           rw [if_pos c428] at H
           have c428b0 : (t97 == t100) = true := beq_iff_eq.mpr c428
           have c428b1 : (t97 != t100) = false := bne_eq_false_iff_eq.mpr c428
           have hc428 := hid c428
           clear c428
           replace H := Option.bind_eq_some_iff.mp H
           obtain ⟨t103, A429_, H⟩ := H
           have A429 := hid A429_
           clear A429_
           replace H := Option.bind_eq_some_iff.mp H
           obtain ⟨t104, A430_, H⟩ := H
           have A430 := hid A430_
           clear A430_
           by_cases c431 : t103 = t104
           ·
            rw [if_pos c431] at H
            have c431b0 : (t103 == t104) = true := beq_iff_eq.mpr c431
            have c431b1 : (t103 != t104) = false := bne_eq_false_iff_eq.mpr c431
            have hc431 := hid c431
            clear c431
            have H' := hid H
            clear H
            have k432 := True.intro
            go_wp2_with (first
             | (go_at_call 42; clear k432; refine (i_alfilref24_Least.calls k400 a0 x49_3 LN_a0.out t100 _ A407.out).mono ?_; rintro e_ w433 ⟨rfl, hb_⟩; replace BKb1 := hid (BKb1.out.below hb_ BKb1.out.lt); replace HL := hid (HL.out.trans (hb_.mono HL.out.size)); clear hb_))
            (try simp only [Act.put, sI, sZ, sS])
            have WR64 := i64_w
            have WR32 := i32_w
            refine up_regionW (by kernel_rfl) (by kernel_rfl) ?_
            refine q_do (.bool t98) (fun w'_ hc_ => ex_mv (.tmp 8) (.inl rfl) _ rfl) rfl rfl ?_
            intro ts_ ht_; simp only [sI, sZ, sS] at ht_; subst ht_
            refine q_do (.int .i64 t100) (fun w'_ hc_ => ex_mv (.tmp 9) (.inl rfl) _ rfl) rfl rfl ?_
            intro ts_ ht_; simp only [sI, sZ, sS] at ht_; subst ht_
            refine q_do (.bool (decide (t100 ≥ 0))) (fun w'_ hc_ => by go_simp <;> (unfold wrap64; omega)) rfl rfl ?_
            intro ts_ ht_; simp only [sI, sZ, sS] at ht_; subst ht_
            refine q_do (.bool false) (fun w'_ hc_ => by go_simp <;> (unfold wrap64; omega)) rfl rfl ?_
            intro ts_ ht_; simp only [sI, sZ, sS] at ht_; subst ht_
            refine q_do (.bool false) (fun w'_ hc_ => ex_mv (.tmp 78) (.inl rfl) _ rfl) rfl rfl ?_
            intro ts_ ht_; simp only [sI, sZ, sS] at ht_; subst ht_
            refine q_do (.int .i64 t97) (fun w'_ hc_ => ex_mv (.tmp 7) (.inl rfl) _ rfl) rfl rfl ?_
            intro ts_ ht_; simp only [sI, sZ, sS] at ht_; subst ht_
            refine q_do (.int .i64 t100) (fun w'_ hc_ => ex_mv (.tmp 9) (.inl rfl) _ rfl) rfl rfl ?_
            intro ts_ ht_; simp only [sI, sZ, sS] at ht_; subst ht_
            refine q_do (.int .i64 t100) (fun w'_ hc_ => by go_simp <;> (unfold wrap64; omega)) rfl rfl ?_
            intro ts_ ht_; simp only [sI, sZ, sS] at ht_; subst ht_
            refine q_do (.bool false) (fun w'_ hc_ => by go_simp <;> (unfold wrap64; omega)) rfl rfl ?_
            intro ts_ ht_; simp only [sI, sZ, sS] at ht_; subst ht_
            refine q_do (.bool false) (fun w'_ hc_ => by go_simp <;> (unfold wrap64; omega)) rfl rfl ?_
            intro ts_ ht_; simp only [sI, sZ, sS] at ht_; subst ht_
            refine q_do (.bool false) (fun w'_ hc_ => ex_mv (.tmp 84) (.inl rfl) _ rfl) rfl rfl ?_
            intro ts_ ht_; simp only [sI, sZ, sS] at ht_; subst ht_
            refine q_do (.agg (bv a0)) (fun w'_ hc_ => by obtain ⟨n_, hn_⟩ := hc_; exact ex_load boardT gb1 0 (bv a0) (bv a0) (by rw [hn_]; exact BKb1.out.below n_.below BKb1.out.lt) (av_le LN_a0.out) (av_ex LN_a0.out) _ rfl rfl) rfl rfl ?_
            intro ts_ ht_; simp only [sI, sZ, sS] at ht_; subst ht_
            refine q_do (.int .i64 x49_3) (fun w'_ hc_ => ex_mv (.tmp 6) (.inl rfl) _ rfl) rfl rfl ?_
            intro ts_ ht_; simp only [sI, sZ, sS] at ht_; subst ht_
            refine q_call (.int .i64 t103) 41 #[.agg (bv a0), .int .i64 x49_3] (fun w'_ => by go_simp) (fun w'_ hc_ => (i_count_Promoted.calls k400 a0 x49_3 LN_a0.out t103 _ A429.out).mono fun e_ w2_ h_ => ⟨h_.1, up_below hc_ h_.2⟩) rfl rfl ?_
            intro ts_ ht_; simp only [sI, sZ, sS] at ht_; subst ht_
            refine q_do (.agg (bv a0)) (fun w'_ hc_ => by obtain ⟨n_, hn_⟩ := hc_; exact ex_load boardT gb1 0 (bv a0) (bv a0) (by rw [hn_]; exact BKb1.out.below n_.below BKb1.out.lt) (av_le LN_a0.out) (av_ex LN_a0.out) _ rfl rfl) rfl rfl ?_
            intro ts_ ht_; simp only [sI, sZ, sS] at ht_; subst ht_
            refine q_do (.int .i64 x49_3) (fun w'_ hc_ => ex_mv (.tmp 6) (.inl rfl) _ rfl) rfl rfl ?_
            intro ts_ ht_; simp only [sI, sZ, sS] at ht_; subst ht_
            refine q_call (.int .i64 t104) 43 #[.agg (bv a0), .int .i64 x49_3] (fun w'_ => by go_simp) (fun w'_ hc_ => (i_alfilref24_Promoted.calls k400 a0 x49_3 LN_a0.out t104 _ A430.out).mono fun e_ w2_ h_ => ⟨h_.1, up_below hc_ h_.2⟩) rfl rfl ?_
            intro ts_ ht_; simp only [sI, sZ, sS] at ht_; subst ht_
            refine q_do (.bool false) (fun w'_ hc_ => by go_simp <;> (unfold wrap64; omega)) rfl rfl ?_
            intro ts_ ht_; simp only [sI, sZ, sS] at ht_; subst ht_
            refine q_do (.bool false) (fun w'_ hc_ => by go_simp <;> (unfold wrap64; omega)) rfl rfl ?_
            intro ts_ ht_; simp only [sI, sZ, sS] at ht_; subst ht_
            refine q_end ?_
            rintro w8_ ⟨n_, rfl⟩
            replace BKb1 := hid (BKb1.out.below n_.below BKb1.out.lt)
            replace HL := hid (HL.out.trans (n_.below.mono HL.out.size))
            generalize n_.world = w434 at *
            clear n_ WR64 WR32
            go_wp2_with fail
            (try simp only [Act.put, sI, sZ, sS])
            go_roundg k400
            case measure => have := HK399.out; omega
            case rel => exact ⟨wrap64 (x49_3 + 1), (by first | rfl | (simp; done) | (simp [*]; done)), H', (hid (by first | omega | (have := HK399.out; omega))), (hid (by exact BKb1.out)), HL⟩
           ·
            rw [if_neg c431] at H
            have c431b0 : (t103 == t104) = false := beq_eq_false_iff_ne.mpr c431
            have c431b1 : (t103 != t104) = true := bne_iff_ne.mpr c431
            have hc431 := hid c431
            clear c431
            obtain rfl := Option.some.inj H
            clear H
            have k435 := True.intro
            go_wp2_with (first
             | (go_at_call 42; clear k435; refine (i_alfilref24_Least.calls k400 a0 x49_3 LN_a0.out t100 _ A407.out).mono ?_; rintro e_ w436 ⟨rfl, hb_⟩; replace BKb1 := hid (BKb1.out.below hb_ BKb1.out.lt); replace HL := hid (HL.out.trans (hb_.mono HL.out.size)); clear hb_))
            (try simp only [Act.put, sI, sZ, sS])
            have WR64 := i64_w
            have WR32 := i32_w
            refine up_regionW (by kernel_rfl) (by kernel_rfl) ?_
            refine q_do (.bool t98) (fun w'_ hc_ => ex_mv (.tmp 8) (.inl rfl) _ rfl) rfl rfl ?_
            intro ts_ ht_; simp only [sI, sZ, sS] at ht_; subst ht_
            refine q_do (.int .i64 t100) (fun w'_ hc_ => ex_mv (.tmp 9) (.inl rfl) _ rfl) rfl rfl ?_
            intro ts_ ht_; simp only [sI, sZ, sS] at ht_; subst ht_
            refine q_do (.bool (decide (t100 ≥ 0))) (fun w'_ hc_ => by go_simp <;> (unfold wrap64; omega)) rfl rfl ?_
            intro ts_ ht_; simp only [sI, sZ, sS] at ht_; subst ht_
            refine q_do (.bool false) (fun w'_ hc_ => by go_simp <;> (unfold wrap64; omega)) rfl rfl ?_
            intro ts_ ht_; simp only [sI, sZ, sS] at ht_; subst ht_
            refine q_do (.bool false) (fun w'_ hc_ => ex_mv (.tmp 78) (.inl rfl) _ rfl) rfl rfl ?_
            intro ts_ ht_; simp only [sI, sZ, sS] at ht_; subst ht_
            refine q_do (.int .i64 t97) (fun w'_ hc_ => ex_mv (.tmp 7) (.inl rfl) _ rfl) rfl rfl ?_
            intro ts_ ht_; simp only [sI, sZ, sS] at ht_; subst ht_
            refine q_do (.int .i64 t100) (fun w'_ hc_ => ex_mv (.tmp 9) (.inl rfl) _ rfl) rfl rfl ?_
            intro ts_ ht_; simp only [sI, sZ, sS] at ht_; subst ht_
            refine q_do (.int .i64 t100) (fun w'_ hc_ => by go_simp <;> (unfold wrap64; omega)) rfl rfl ?_
            intro ts_ ht_; simp only [sI, sZ, sS] at ht_; subst ht_
            refine q_do (.bool false) (fun w'_ hc_ => by go_simp <;> (unfold wrap64; omega)) rfl rfl ?_
            intro ts_ ht_; simp only [sI, sZ, sS] at ht_; subst ht_
            refine q_do (.bool false) (fun w'_ hc_ => by go_simp <;> (unfold wrap64; omega)) rfl rfl ?_
            intro ts_ ht_; simp only [sI, sZ, sS] at ht_; subst ht_
            refine q_do (.bool false) (fun w'_ hc_ => ex_mv (.tmp 84) (.inl rfl) _ rfl) rfl rfl ?_
            intro ts_ ht_; simp only [sI, sZ, sS] at ht_; subst ht_
            refine q_do (.agg (bv a0)) (fun w'_ hc_ => by obtain ⟨n_, hn_⟩ := hc_; exact ex_load boardT gb1 0 (bv a0) (bv a0) (by rw [hn_]; exact BKb1.out.below n_.below BKb1.out.lt) (av_le LN_a0.out) (av_ex LN_a0.out) _ rfl rfl) rfl rfl ?_
            intro ts_ ht_; simp only [sI, sZ, sS] at ht_; subst ht_
            refine q_do (.int .i64 x49_3) (fun w'_ hc_ => ex_mv (.tmp 6) (.inl rfl) _ rfl) rfl rfl ?_
            intro ts_ ht_; simp only [sI, sZ, sS] at ht_; subst ht_
            refine q_call (.int .i64 t103) 41 #[.agg (bv a0), .int .i64 x49_3] (fun w'_ => by go_simp) (fun w'_ hc_ => (i_count_Promoted.calls k400 a0 x49_3 LN_a0.out t103 _ A429.out).mono fun e_ w2_ h_ => ⟨h_.1, up_below hc_ h_.2⟩) rfl rfl ?_
            intro ts_ ht_; simp only [sI, sZ, sS] at ht_; subst ht_
            refine q_do (.agg (bv a0)) (fun w'_ hc_ => by obtain ⟨n_, hn_⟩ := hc_; exact ex_load boardT gb1 0 (bv a0) (bv a0) (by rw [hn_]; exact BKb1.out.below n_.below BKb1.out.lt) (av_le LN_a0.out) (av_ex LN_a0.out) _ rfl rfl) rfl rfl ?_
            intro ts_ ht_; simp only [sI, sZ, sS] at ht_; subst ht_
            refine q_do (.int .i64 x49_3) (fun w'_ hc_ => ex_mv (.tmp 6) (.inl rfl) _ rfl) rfl rfl ?_
            intro ts_ ht_; simp only [sI, sZ, sS] at ht_; subst ht_
            refine q_call (.int .i64 t104) 43 #[.agg (bv a0), .int .i64 x49_3] (fun w'_ => by go_simp) (fun w'_ hc_ => (i_alfilref24_Promoted.calls k400 a0 x49_3 LN_a0.out t104 _ A430.out).mono fun e_ w2_ h_ => ⟨h_.1, up_below hc_ h_.2⟩) rfl rfl ?_
            intro ts_ ht_; simp only [sI, sZ, sS] at ht_; subst ht_
            refine q_do (.bool true) (fun w'_ hc_ => by go_simp <;> (unfold wrap64; omega)) rfl rfl ?_
            intro ts_ ht_; simp only [sI, sZ, sS] at ht_; subst ht_
            refine q_do (.bool true) (fun w'_ hc_ => by go_simp <;> (unfold wrap64; omega)) rfl rfl ?_
            intro ts_ ht_; simp only [sI, sZ, sS] at ht_; subst ht_
            refine q_end ?_
            rintro w8_ ⟨n_, rfl⟩
            replace BKb1 := hid (BKb1.out.below n_.below BKb1.out.lt)
            replace HL := hid (HL.out.trans (n_.below.mono HL.out.size))
            generalize n_.world = w437 at *
            clear n_ WR64 WR32
            go_wp2_with fail
            (try simp only [Act.put, sI, sZ, sS])
            go_ret
            exact ⟨by first | rfl | (simp; done) | (simp [*]; done), HL.out⟩
          ·
           rw [if_neg c428] at H
           have c428b0 : (t97 == t100) = false := beq_eq_false_iff_ne.mpr c428
           have c428b1 : (t97 != t100) = true := bne_iff_ne.mpr c428
           have hc428 := hid c428
           clear c428
           obtain rfl := Option.some.inj H
           clear H
           have k438 := True.intro
           go_wp2_with (first
            | (go_at_call 42; clear k438; refine (i_alfilref24_Least.calls k400 a0 x49_3 LN_a0.out t100 _ A407.out).mono ?_; rintro e_ w439 ⟨rfl, hb_⟩; replace BKb1 := hid (BKb1.out.below hb_ BKb1.out.lt); replace HL := hid (HL.out.trans (hb_.mono HL.out.size)); clear hb_))
           (try simp only [Act.put, sI, sZ, sS])
           have WR64 := i64_w
           have WR32 := i32_w
           refine up_regionW (by kernel_rfl) (by kernel_rfl) ?_
           refine q_do (.bool t98) (fun w'_ hc_ => ex_mv (.tmp 8) (.inl rfl) _ rfl) rfl rfl ?_
           intro ts_ ht_; simp only [sI, sZ, sS] at ht_; subst ht_
           refine q_do (.int .i64 t100) (fun w'_ hc_ => ex_mv (.tmp 9) (.inl rfl) _ rfl) rfl rfl ?_
           intro ts_ ht_; simp only [sI, sZ, sS] at ht_; subst ht_
           refine q_do (.bool (decide (t100 ≥ 0))) (fun w'_ hc_ => by go_simp <;> (unfold wrap64; omega)) rfl rfl ?_
           intro ts_ ht_; simp only [sI, sZ, sS] at ht_; subst ht_
           refine q_do (.bool false) (fun w'_ hc_ => by go_simp <;> (unfold wrap64; omega)) rfl rfl ?_
           intro ts_ ht_; simp only [sI, sZ, sS] at ht_; subst ht_
           refine q_do (.bool false) (fun w'_ hc_ => ex_mv (.tmp 78) (.inl rfl) _ rfl) rfl rfl ?_
           intro ts_ ht_; simp only [sI, sZ, sS] at ht_; subst ht_
           refine q_do (.int .i64 t97) (fun w'_ hc_ => ex_mv (.tmp 7) (.inl rfl) _ rfl) rfl rfl ?_
           intro ts_ ht_; simp only [sI, sZ, sS] at ht_; subst ht_
           refine q_do (.int .i64 t100) (fun w'_ hc_ => ex_mv (.tmp 9) (.inl rfl) _ rfl) rfl rfl ?_
           intro ts_ ht_; simp only [sI, sZ, sS] at ht_; subst ht_
           refine q_do (.int .i64 t100) (fun w'_ hc_ => by go_simp <;> (unfold wrap64; omega)) rfl rfl ?_
           intro ts_ ht_; simp only [sI, sZ, sS] at ht_; subst ht_
           refine q_do (.bool true) (fun w'_ hc_ => by go_simp <;> (unfold wrap64; omega)) rfl rfl ?_
           intro ts_ ht_; simp only [sI, sZ, sS] at ht_; subst ht_
           refine q_do (.bool true) (fun w'_ hc_ => by go_simp <;> (unfold wrap64; omega)) rfl rfl ?_
           intro ts_ ht_; simp only [sI, sZ, sS] at ht_; subst ht_
           refine q_do (.bool true) (fun w'_ hc_ => ex_mv (.tmp 84) (.inl rfl) _ rfl) rfl rfl ?_
           intro ts_ ht_; simp only [sI, sZ, sS] at ht_; subst ht_
           refine q_not 10 true rfl rfl rfl ?_
           intro ts_ ht_; simp only [sI, sZ, sS] at ht_; subst ht_
           refine q_not 10 true rfl rfl rfl ?_
           intro ts_ ht_; simp only [sI, sZ, sS] at ht_; subst ht_
           refine q_not 10 true rfl rfl rfl ?_
           intro ts_ ht_; simp only [sI, sZ, sS] at ht_; subst ht_
           refine q_not 10 true rfl rfl rfl ?_
           intro ts_ ht_; simp only [sI, sZ, sS] at ht_; subst ht_
           refine q_not 10 true rfl rfl rfl ?_
           intro ts_ ht_; simp only [sI, sZ, sS] at ht_; subst ht_
           refine q_not 10 true rfl rfl rfl ?_
           intro ts_ ht_; simp only [sI, sZ, sS] at ht_; subst ht_
           refine q_not 10 true rfl rfl rfl ?_
           intro ts_ ht_; simp only [sI, sZ, sS] at ht_; subst ht_
           refine q_do (.bool true) (fun w'_ hc_ => by go_simp <;> (unfold wrap64; omega)) rfl rfl ?_
           intro ts_ ht_; simp only [sI, sZ, sS] at ht_; subst ht_
           refine q_end ?_
           rintro w8_ ⟨n_, rfl⟩
           replace BKb1 := hid (BKb1.out.below n_.below BKb1.out.lt)
           replace HL := hid (HL.out.trans (n_.below.mono HL.out.size))
           generalize n_.world = w440 at *
           clear n_ WR64 WR32
           go_wp2_with fail
           (try simp only [Act.put, sI, sZ, sS])
           go_ret
           exact ⟨by first | rfl | (simp; done) | (simp [*]; done), HL.out⟩
       | false =>
        rw [if_neg (show ¬ (false = true) by decide)] at H
        by_cases c441 : t97 = 0
        ·
         rw [if_pos c441] at H
         have c441b0 : (t97 == 0) = true := beq_iff_eq.mpr c441
         have c441b1 : (t97 != 0) = false := bne_eq_false_iff_eq.mpr c441
         have hc441 := hid c441
         clear c441
         cases t98 with
         | true =>
          rw [if_pos rfl] at H
          obtain rfl := Option.some.inj H
          clear H
          have k443 := True.intro
          go_wp2_with (first
           | (go_at_call 37; clear k443; refine (i_alfilref03_Right.calls k400 a0 LN_a0.out false _ A403.out).mono ?_; rintro e_ w444 ⟨rfl, hb_⟩; replace BKb1 := hid (BKb1.out.below hb_ BKb1.out.lt); replace HL := hid (HL.out.trans (hb_.mono HL.out.size)); clear hb_))
          (try simp only [Act.put, sI, sZ, sS])
          go_ret
          exact ⟨by first | rfl | (simp; done) | (simp [*]; done), HL.out⟩
         | false =>
          rw [if_neg (show ¬ (false = true) by decide)] at H
          have H' := hid H
          clear H
          have k446 := True.intro
          go_wp2_with (first
           | (go_at_call 37; clear k446; refine (i_alfilref03_Right.calls k400 a0 LN_a0.out false _ A403.out).mono ?_; rintro e_ w447 ⟨rfl, hb_⟩; replace BKb1 := hid (BKb1.out.below hb_ BKb1.out.lt); replace HL := hid (HL.out.trans (hb_.mono HL.out.size)); clear hb_)
           | ((with_reducible refine gate_d (N := 67) rfl ?_); refine ag_fix (.agg (bv a0)) (ex_load boardT gb1 0 (bv a0) (bv a0) BKb1.out (av_le LN_a0.out) (av_ex LN_a0.out) _ rfl rfl) rfl ?_))
          (try simp only [Act.put, sI, sZ, sS])
          have H := H'.out
          clear H'
          replace H := Option.bind_eq_some_iff.mp H
          obtain ⟨t105, A445_, H⟩ := H
          have A445 := hid A445_
          clear A445_
          by_cases c448 : t105 = 0
          ·
           rw [if_pos c448] at H
           have c448b0 : (t105 == 0) = true := beq_iff_eq.mpr c448
           have c448b1 : (t105 != 0) = false := bne_eq_false_iff_eq.mpr c448
           have hc448 := hid c448
           clear c448
           have H' := hid H
           clear H
           have k449 := True.intro
           go_wp2_with (first
            | (go_at_call 41; clear k449; refine (i_count_Promoted.calls k400 a0 x49_3 LN_a0.out t105 _ A445.out).mono ?_; rintro e_ w450 ⟨rfl, hb_⟩; replace BKb1 := hid (BKb1.out.below hb_ BKb1.out.lt); replace HL := hid (HL.out.trans (hb_.mono HL.out.size)); clear hb_))
           (try simp only [Act.put, sI, sZ, sS])
           go_roundg k400
           case measure => have := HK399.out; omega
           case rel => exact ⟨wrap64 (x49_3 + 1), (by first | rfl | (simp; done) | (simp [*]; done)), H', (hid (by first | omega | (have := HK399.out; omega))), (hid (by exact BKb1.out)), HL⟩
          ·
           rw [if_neg c448] at H
           have c448b0 : (t105 == 0) = false := beq_eq_false_iff_ne.mpr c448
           have c448b1 : (t105 != 0) = true := bne_iff_ne.mpr c448
           have hc448 := hid c448
           clear c448
           obtain rfl := Option.some.inj H
           clear H
           have k451 := True.intro
           go_wp2_with (first
            | (go_at_call 41; clear k451; refine (i_count_Promoted.calls k400 a0 x49_3 LN_a0.out t105 _ A445.out).mono ?_; rintro e_ w452 ⟨rfl, hb_⟩; replace BKb1 := hid (BKb1.out.below hb_ BKb1.out.lt); replace HL := hid (HL.out.trans (hb_.mono HL.out.size)); clear hb_))
           (try simp only [Act.put, sI, sZ, sS])
           go_ret
           exact ⟨by first | rfl | (simp; done) | (simp [*]; done), HL.out⟩
        ·
         rw [if_neg c441] at H
         have c441b0 : (t97 == 0) = false := beq_eq_false_iff_ne.mpr c441
         have c441b1 : (t97 != 0) = true := bne_iff_ne.mpr c441
         have hc441 := hid c441
         clear c441
         obtain rfl := Option.some.inj H
         clear H
         have k453 := True.intro
         go_wp2_with (first
          | (go_at_call 37; clear k453; refine (i_alfilref03_Right.calls k400 a0 LN_a0.out false _ A403.out).mono ?_; rintro e_ w454 ⟨rfl, hb_⟩; replace BKb1 := hid (BKb1.out.below hb_ BKb1.out.lt); replace HL := hid (HL.out.trans (hb_.mono HL.out.size)); clear hb_))
         (try simp only [Act.put, sI, sZ, sS])
         go_ret
         exact ⟨by first | rfl | (simp; done) | (simp [*]; done), HL.out⟩
      ·
       rw [if_neg c401] at H
       have c401b0 : decide (x49_3 < 2) = false := decide_eq_false c401
       have hc401 := hid c401
       clear c401
       replace H := Option.bind_eq_some_iff.mp H
       obtain ⟨⟨t106, t107⟩, A455_, H⟩ := H
       dsimp only at H
       have A455 := hid A455_
       clear A455_
       by_cases c456 : t106 = 0
       ·
        rw [if_pos c456] at H
        have c456b0 : (t106 == 0) = true := beq_iff_eq.mpr c456
        have c456b1 : (t106 != 0) = false := bne_eq_false_iff_eq.mpr c456
        have hc456 := hid c456
        clear c456
        cases t107 with
        | true =>
         rw [if_pos rfl] at H
         obtain rfl := Option.some.inj H
         clear H
         have k458 := True.intro
         go_wp2_with (first
          | ((with_reducible refine gate_d (N := 96) rfl ?_); refine ag_fix (.agg (bv a0)) (ex_load boardT gb1 0 (bv a0) (bv a0) BKb1.out (av_le LN_a0.out) (av_ex LN_a0.out) _ rfl rfl) rfl ?_)
          | (go_at_call 40; clear k458; refine (i_count_Least.calls k400 a0 2 LN_a0.out t106 true _ A455.out).mono ?_; rintro e_ w459 ⟨rfl, hb_⟩; replace BKb1 := hid (BKb1.out.below hb_ BKb1.out.lt); replace HL := hid (HL.out.trans (hb_.mono HL.out.size)); clear hb_))
         (try simp only [Act.put, sI, sZ, sS])
         go_ret
         exact ⟨by first | rfl | (simp; done) | (simp [*]; done), HL.out⟩
        | false =>
         rw [if_neg (show ¬ (false = true) by decide)] at H
         replace H := Option.bind_eq_some_iff.mp H
         obtain ⟨t108, A460_, H⟩ := H
         have A460 := hid A460_
         clear A460_
         obtain rfl := Option.some.inj H
         clear H
         have k461 := True.intro
         have k463 := True.intro
         go_wp2_with (first
          | ((with_reducible refine gate_d (N := 96) rfl ?_); refine ag_fix (.agg (bv a0)) (ex_load boardT gb1 0 (bv a0) (bv a0) BKb1.out (av_le LN_a0.out) (av_ex LN_a0.out) _ rfl rfl) rfl ?_)
          | (go_at_call 40; clear k461; refine (i_count_Least.calls k400 a0 2 LN_a0.out t106 false _ A455.out).mono ?_; rintro e_ w462 ⟨rfl, hb_⟩; replace BKb1 := hid (BKb1.out.below hb_ BKb1.out.lt); replace HL := hid (HL.out.trans (hb_.mono HL.out.size)); clear hb_)
          | ((with_reducible refine gate_d (N := 107) rfl ?_); refine ag_fix (.agg (bv a0)) (ex_load boardT gb1 0 (bv a0) (bv a0) BKb1.out (av_le LN_a0.out) (av_ex LN_a0.out) _ rfl rfl) rfl ?_)
          | (go_at_call 41; clear k463; refine (i_count_Promoted.calls k400 a0 (-1) LN_a0.out t108 _ A460.out).mono ?_; rintro e_ w464 ⟨rfl, hb_⟩; replace BKb1 := hid (BKb1.out.below hb_ BKb1.out.lt); replace HL := hid (HL.out.trans (hb_.mono HL.out.size)); clear hb_))
         (try simp only [Act.put, sI, sZ, sS])
         go_ret
         exact ⟨by first | rfl | (simp; done) | (simp [*]; done), HL.out⟩
       ·
        rw [if_neg c456] at H
        have c456b0 : (t106 == 0) = false := beq_eq_false_iff_ne.mpr c456
        have c456b1 : (t106 != 0) = true := bne_iff_ne.mpr c456
        have hc456 := hid c456
        clear c456
        obtain rfl := Option.some.inj H
        clear H
        have k465 := True.intro
        go_wp2_with (first
         | ((with_reducible refine gate_d (N := 96) rfl ?_); refine ag_fix (.agg (bv a0)) (ex_load boardT gb1 0 (bv a0) (bv a0) BKb1.out (av_le LN_a0.out) (av_ex LN_a0.out) _ rfl rfl) rfl ?_)
         | (go_at_call 40; clear k465; refine (i_count_Least.calls k400 a0 2 LN_a0.out t106 t107 _ A455.out).mono ?_; rintro e_ w466 ⟨rfl, hb_⟩; replace BKb1 := hid (BKb1.out.below hb_ BKb1.out.lt); replace HL := hid (HL.out.trans (hb_.mono HL.out.size)); clear hb_))
        (try simp only [Act.put, sI, sZ, sS])
        go_ret
        exact ⟨by first | rfl | (simp; done) | (simp [*]; done), HL.out⟩
   | false =>
    rw [if_neg (show ¬ (false = true) by decide)] at H
    have H' := hid H
    clear H
    have k468 := True.intro
    go_wp2_with (first
     | (go_at_call 37; clear k468; refine (i_alfilref03_Right.calls k a0 LN_a0.out false _ A393.out).mono ?_; rintro e_ w469 ⟨rfl, hb_⟩; replace BKb1 := hid (BKb1.out.below hb_ BKb1.out.lt); replace HL := hid (HL.out.trans (hb_.mono HL.out.size)); clear hb_)
     | ((with_reducible refine gate_d (N := 32) rfl ?_); refine ag_fix (.agg (bv a0)) (ex_load boardT gb1 0 (bv a0) (bv a0) BKb1.out (av_le LN_a0.out) (av_ex LN_a0.out) _ rfl rfl) rfl ?_))
    (try simp only [Act.put, sI, sZ, sS])
    have H := H'.out
    clear H'
    replace H := Option.bind_eq_some_iff.mp H
    obtain ⟨t109, A467_, H⟩ := H
    have A467 := hid A467_
    clear A467_
    by_cases c470 : t3 = t109
    ·
     rw [if_pos c470] at H
     have c470b0 : (t3 == t109) = true := beq_iff_eq.mpr c470
     have c470b1 : (t3 != t109) = false := bne_eq_false_iff_eq.mpr c470
     have hc470 := hid c470
     clear c470
     by_cases c471 : (t4 != (decide (t109 > 0))) = true
     ·
      rw [if_pos c471] at H
      have c471b0 : (t4 != (decide (t109 > 0))) = true := c471
      (try have c471b1 : decide (t4 = (decide (t109 > 0))) = false := by simpa using c471)
      (try have c471b2 : (t4 == (decide (t109 > 0))) = false := by simpa using c471)
      (try have c471b3 : ¬ (t4 = (decide (t109 > 0))) := by simpa using c471)
      have hc471 := hid c471
      clear c471
      obtain rfl := Option.some.inj H
      clear H
      have k472 := True.intro
      go_wp2_with (first
       | (go_at_call 38; clear k472; refine (i_alfilref24_Why.calls k a0 LN_a0.out t109 _ A467.out).mono ?_; rintro e_ w473 ⟨rfl, hb_⟩; replace BKb1 := hid (BKb1.out.below hb_ BKb1.out.lt); replace HL := hid (HL.out.trans (hb_.mono HL.out.size)); clear hb_))
      (try simp only [Act.put, sI, sZ, sS])
      go_ret
      exact ⟨by first | rfl | (simp; done) | (simp [*]; done), HL.out⟩
     ·
      rw [if_neg c471] at H
      have c471b0 : (t4 != (decide (t109 > 0))) = false := by simpa using c471
      (try have c471b1 : decide (t4 = (decide (t109 > 0))) = true := by simpa using c471)
      (try have c471b2 : (t4 == (decide (t109 > 0))) = true := by simpa using c471)
      have hc471 := hid c471
      clear c471
      have H' := hid H
      clear H
      have k475 := True.intro
      go_wp2_with (first
       | (go_at_call 38; clear k475; refine (i_alfilref24_Why.calls k a0 LN_a0.out t109 _ A467.out).mono ?_; rintro e_ w476 ⟨rfl, hb_⟩; replace BKb1 := hid (BKb1.out.below hb_ BKb1.out.lt); replace HL := hid (HL.out.trans (hb_.mono HL.out.size)); clear hb_)
       | ((with_reducible refine gate_d (N := 44) rfl ?_); refine ag_fix (.agg (bv a0)) (ex_load boardT gb1 0 (bv a0) (bv a0) BKb1.out (av_le LN_a0.out) (av_ex LN_a0.out) _ rfl rfl) rfl ?_))
      (try simp only [Act.put, sI, sZ, sS])
      have H := H'.out
      clear H'
      replace H := Option.bind_eq_some_iff.mp H
      obtain ⟨t110, A474_, H⟩ := H
      have A474 := hid A474_
      clear A474_
      by_cases c477 : (t110 != t4) = true
      ·
       rw [if_pos c477] at H
       have c477b0 : (t110 != t4) = true := c477
       (try have c477b1 : decide (t110 = t4) = false := by simpa using c477)
       (try have c477b2 : (t110 == t4) = false := by simpa using c477)
       (try have c477b3 : ¬ (t110 = t4) := by simpa using c477)
       have hc477 := hid c477
       clear c477
       obtain rfl := Option.some.inj H
       clear H
       have k478 := True.intro
       go_wp2_with (first
        | (go_at_call 39; clear k478; refine (i_count_Illegal.calls k a0 LN_a0.out t110 _ A474.out).mono ?_; rintro e_ w479 ⟨rfl, hb_⟩; replace BKb1 := hid (BKb1.out.below hb_ BKb1.out.lt); replace HL := hid (HL.out.trans (hb_.mono HL.out.size)); clear hb_))
       (try simp only [Act.put, sI, sZ, sS])
       go_ret
       exact ⟨by first | rfl | (simp; done) | (simp [*]; done), HL.out⟩
      ·
       rw [if_neg c477] at H
       have c477b0 : (t110 != t4) = false := by simpa using c477
       (try have c477b1 : decide (t110 = t4) = true := by simpa using c477)
       (try have c477b2 : (t110 == t4) = true := by simpa using c477)
       have hc477 := hid c477
       clear c477
       have H' := hid H
       clear H
       have k480 := True.intro
       go_wp2_with (first
        | (go_at_call 39; clear k480; refine (i_count_Illegal.calls k a0 LN_a0.out t110 _ A474.out).mono ?_; rintro e_ w481 ⟨rfl, hb_⟩; replace BKb1 := hid (BKb1.out.below hb_ BKb1.out.lt); replace HL := hid (HL.out.trans (hb_.mono HL.out.size)); clear hb_))
       (try simp only [Act.put, sI, sZ, sS])
       go_loopg [49] k (fun kq v49 w' => ∃ (x49_4 : Int), v49 = .int .i64 x49_4 ∧ Hid (i_alfillaw24_CountAll.l4 kq a0 x49_4 = some r1) ∧ Hid (kq ≤ k) ∧ Hid (Blk w' gb1 44 (bv a0)) ∧ Hid (Below w.heap.size w w'))
       case atStart => exact ⟨(0 : Int), (by first | rfl | (simp; done) | (simp [*]; done)), H', (hid (by first | omega | (omega))), (hid (by exact BKb1.out)), HL⟩
       case round =>
        clear H'
        clear HL BKb1
        obtain ⟨x49_4, rfl, HA, HK482, BKb1, HL⟩ := hrel
        cases gk with
        | zero => exact absurd HA.out (by simp [i_alfillaw24_CountAll.l4])
        | succ k483 =>
         have H := HA.out
         clear HA
         simp only [i_alfillaw24_CountAll.l4] at H
         by_cases c484 : x49_4 < 2
         ·
          rw [if_pos c484] at H
          have c484b0 : decide (x49_4 < 2) = true := decide_eq_true c484
          have hc484 := hid c484
          clear c484
          replace H := Option.bind_eq_some_iff.mp H
          obtain ⟨⟨t123, t124⟩, A485_, H⟩ := H
          dsimp only at H
          have A485 := hid A485_
          clear A485_
          have H' := hid H
          clear H
          have k487 := True.intro
          go_wp2_with (first
           | ((with_reducible refine gate_d (N := 53) rfl ?_); refine ag_fix (.agg (bv a0)) (ex_load boardT gb1 0 (bv a0) (bv a0) BKb1.out (av_le LN_a0.out) (av_ex LN_a0.out) _ rfl rfl) rfl ?_)
           | (go_at_call 40; clear k487; refine (i_count_Least.calls k483 a0 x49_4 LN_a0.out t123 t124 _ A485.out).mono ?_; rintro e_ w488 ⟨rfl, hb_⟩; replace BKb1 := hid (BKb1.out.below hb_ BKb1.out.lt); replace HL := hid (HL.out.trans (hb_.mono HL.out.size)); clear hb_)
           | ((with_reducible refine gate_d (N := 58) rfl ?_); refine ag_fix (.agg (bv a0)) (ex_load boardT gb1 0 (bv a0) (bv a0) BKb1.out (av_le LN_a0.out) (av_ex LN_a0.out) _ rfl rfl) rfl ?_))
          (try simp only [Act.put, sI, sZ, sS])
          have H := H'.out
          clear H'
          replace H := Option.bind_eq_some_iff.mp H
          obtain ⟨t125, A486_, H⟩ := H
          have A486 := hid A486_
          clear A486_
          cases t125 with
          | true =>
           rw [if_pos rfl] at H
           have H' := hid H
           clear H
           have k491 := True.intro
           go_wp2_with (first
            | (go_at_call 37; clear k491; refine (i_alfilref03_Right.calls k483 a0 LN_a0.out true _ A486.out).mono ?_; rintro e_ w492 ⟨rfl, hb_⟩; replace BKb1 := hid (BKb1.out.below hb_ BKb1.out.lt); replace HL := hid (HL.out.trans (hb_.mono HL.out.size)); clear hb_)
            | ((with_reducible refine gate_d (N := 72) rfl ?_); refine ag_fix (.agg (bv a0)) (ex_load boardT gb1 0 (bv a0) (bv a0) BKb1.out (av_le LN_a0.out) (av_ex LN_a0.out) _ rfl rfl) rfl ?_))
           (try simp only [Act.put, sI, sZ, sS])
           have H := H'.out
           clear H'
           replace H := Option.bind_eq_some_iff.mp H
           obtain ⟨t126, A490_, H⟩ := H
           have A490 := hid A490_
           clear A490_
           by_cases c493 : (t124 != (decide (t126 ≥ 0))) = true
           ·
            rw [if_pos c493] at H
            have c493b0 : (t124 != (decide (t126 ≥ 0))) = true := c493
            (try have c493b1 : decide (t124 = (decide (t126 ≥ 0))) = false := by simpa using c493)
            (try have c493b2 : (t124 == (decide (t126 ≥ 0))) = false := by simpa using c493)
            (try have c493b3 : ¬ (t124 = (decide (t126 ≥ 0))) := by simpa using c493)
            have hc493 := hid c493
            clear c493
            obtain rfl := Option.some.inj H
            clear H
            have k494 := True.intro
            go_wp2_with (first
             | (go_at_call 42; clear k494; refine (i_alfilref24_Least.calls k483 a0 x49_4 LN_a0.out t126 _ A490.out).mono ?_; rintro e_ w495 ⟨rfl, hb_⟩; replace BKb1 := hid (BKb1.out.below hb_ BKb1.out.lt); replace HL := hid (HL.out.trans (hb_.mono HL.out.size)); clear hb_))
            (try simp only [Act.put, sI, sZ, sS])
            have WR64 := i64_w
            have WR32 := i32_w
            refine up_regionW (by kernel_rfl) (by kernel_rfl) ?_
            refine q_do (.bool t124) (fun w'_ hc_ => ex_mv (.tmp 8) (.inl rfl) _ rfl) rfl rfl ?_
            intro ts_ ht_; simp only [sI, sZ, sS] at ht_; subst ht_
            refine q_do (.int .i64 t126) (fun w'_ hc_ => ex_mv (.tmp 9) (.inl rfl) _ rfl) rfl rfl ?_
            intro ts_ ht_; simp only [sI, sZ, sS] at ht_; subst ht_
            refine q_do (.bool (decide (t126 ≥ 0))) (fun w'_ hc_ => by go_simp <;> (unfold wrap64; omega)) rfl rfl ?_
            intro ts_ ht_; simp only [sI, sZ, sS] at ht_; subst ht_
            refine q_do (.bool true) (fun w'_ hc_ => by go_simp <;> (unfold wrap64; omega)) rfl rfl ?_
            intro ts_ ht_; simp only [sI, sZ, sS] at ht_; subst ht_
            refine q_do (.bool true) (fun w'_ hc_ => ex_mv (.tmp 78) (.inl rfl) _ rfl) rfl rfl ?_
            intro ts_ ht_; simp only [sI, sZ, sS] at ht_; subst ht_
            refine q_not 4 true rfl rfl rfl ?_
            intro ts_ ht_; simp only [sI, sZ, sS] at ht_; subst ht_
            refine q_not 4 true rfl rfl rfl ?_
            intro ts_ ht_; simp only [sI, sZ, sS] at ht_; subst ht_
            refine q_not 4 true rfl rfl rfl ?_
            intro ts_ ht_; simp only [sI, sZ, sS] at ht_; subst ht_
            refine q_not 4 true rfl rfl rfl ?_
            intro ts_ ht_; simp only [sI, sZ, sS] at ht_; subst ht_
            refine q_do (.bool true) (fun w'_ hc_ => by go_simp <;> (unfold wrap64; omega)) rfl rfl ?_
            intro ts_ ht_; simp only [sI, sZ, sS] at ht_; subst ht_
            refine q_do (.bool true) (fun w'_ hc_ => ex_mv (.tmp 84) (.inl rfl) _ rfl) rfl rfl ?_
            intro ts_ ht_; simp only [sI, sZ, sS] at ht_; subst ht_
            refine q_not 10 true rfl rfl rfl ?_
            intro ts_ ht_; simp only [sI, sZ, sS] at ht_; subst ht_
            refine q_not 10 true rfl rfl rfl ?_
            intro ts_ ht_; simp only [sI, sZ, sS] at ht_; subst ht_
            refine q_not 10 true rfl rfl rfl ?_
            intro ts_ ht_; simp only [sI, sZ, sS] at ht_; subst ht_
            refine q_not 10 true rfl rfl rfl ?_
            intro ts_ ht_; simp only [sI, sZ, sS] at ht_; subst ht_
            refine q_not 10 true rfl rfl rfl ?_
            intro ts_ ht_; simp only [sI, sZ, sS] at ht_; subst ht_
            refine q_not 10 true rfl rfl rfl ?_
            intro ts_ ht_; simp only [sI, sZ, sS] at ht_; subst ht_
            refine q_not 10 true rfl rfl rfl ?_
            intro ts_ ht_; simp only [sI, sZ, sS] at ht_; subst ht_
            refine q_do (.bool true) (fun w'_ hc_ => by go_simp <;> (unfold wrap64; omega)) rfl rfl ?_
            intro ts_ ht_; simp only [sI, sZ, sS] at ht_; subst ht_
            refine q_end ?_
            rintro w8_ ⟨n_, rfl⟩
            replace BKb1 := hid (BKb1.out.below n_.below BKb1.out.lt)
            replace HL := hid (HL.out.trans (n_.below.mono HL.out.size))
            generalize n_.world = w496 at *
            clear n_ WR64 WR32
            go_wp2_with fail
            (try simp only [Act.put, sI, sZ, sS])
            go_ret
            exact ⟨by first | rfl | (simp; done) | (simp [*]; done), HL.out⟩
           ·
            rw [if_neg c493] at H
            have c493b0 : (t124 != (decide (t126 ≥ 0))) = false := by simpa using c493
            (try have c493b1 : decide (t124 = (decide (t126 ≥ 0))) = true := by simpa using c493)
            (try have c493b2 : (t124 == (decide (t126 ≥ 0))) = true := by simpa using c493)
            have hc493 := hid c493
            clear c493
            by_cases c497 : t126 < 0
            ·
             rw [if_pos c497] at H
             have c497b0 : decide (t126 < 0) = true := decide_eq_true c497
             have c497b1 : (if t126 < 0 then 0 else t126) = 0 := if_pos c497
             have c497b2 : max t126 0 = 0 := by omega
             have hc497 := hid c497
             clear c497
             by_cases c498 : t123 = 0
             ·
              rw [if_pos c498] at H
              have c498b0 : (t123 == 0) = true := beq_iff_eq.mpr c498
              have c498b1 : (t123 != 0) = false := bne_eq_false_iff_eq.mpr c498
              have hc498 := hid c498
              clear c498
              replace H := Option.bind_eq_some_iff.mp H
              obtain ⟨t127, A499_, H⟩ := H
              have A499 := hid A499_
              clear A499_
              replace H := Option.bind_eq_some_iff.mp H
              obtain ⟨t128, A500_, H⟩ := H
              have A500 := hid A500_
              clear A500_
              by_cases c501 : t127 = t128
              ·
               rw [if_pos c501] at H
               have c501b0 : (t127 == t128) = true := beq_iff_eq.mpr c501
               have c501b1 : (t127 != t128) = false := bne_eq_false_iff_eq.mpr c501
               have hc501 := hid c501
               clear c501
               have H' := hid H
               clear H
               have k502 := True.intro
               go_wp2_with (first
                | (go_at_call 42; clear k502; refine (i_alfilref24_Least.calls k483 a0 x49_4 LN_a0.out t126 _ A490.out).mono ?_; rintro e_ w503 ⟨rfl, hb_⟩; replace BKb1 := hid (BKb1.out.below hb_ BKb1.out.lt); replace HL := hid (HL.out.trans (hb_.mono HL.out.size)); clear hb_))
               (try simp only [Act.put, sI, sZ, sS])
               have WR64 := i64_w
               have WR32 := i32_w
               refine up_regionW (by kernel_rfl) (by kernel_rfl) ?_
               refine q_do (.bool t124) (fun w'_ hc_ => ex_mv (.tmp 8) (.inl rfl) _ rfl) rfl rfl ?_
               intro ts_ ht_; simp only [sI, sZ, sS] at ht_; subst ht_
               refine q_do (.int .i64 t126) (fun w'_ hc_ => ex_mv (.tmp 9) (.inl rfl) _ rfl) rfl rfl ?_
               intro ts_ ht_; simp only [sI, sZ, sS] at ht_; subst ht_
               refine q_do (.bool (decide (t126 ≥ 0))) (fun w'_ hc_ => by go_simp <;> (unfold wrap64; omega)) rfl rfl ?_
               intro ts_ ht_; simp only [sI, sZ, sS] at ht_; subst ht_
               refine q_do (.bool false) (fun w'_ hc_ => by go_simp <;> (unfold wrap64; omega)) rfl rfl ?_
               intro ts_ ht_; simp only [sI, sZ, sS] at ht_; subst ht_
               refine q_do (.bool false) (fun w'_ hc_ => ex_mv (.tmp 78) (.inl rfl) _ rfl) rfl rfl ?_
               intro ts_ ht_; simp only [sI, sZ, sS] at ht_; subst ht_
               refine q_do (.int .i64 t123) (fun w'_ hc_ => ex_mv (.tmp 7) (.inl rfl) _ rfl) rfl rfl ?_
               intro ts_ ht_; simp only [sI, sZ, sS] at ht_; subst ht_
               refine q_do (.int .i64 t126) (fun w'_ hc_ => ex_mv (.tmp 9) (.inl rfl) _ rfl) rfl rfl ?_
               intro ts_ ht_; simp only [sI, sZ, sS] at ht_; subst ht_
               refine q_do (.int .i64 0) (fun w'_ hc_ => by go_simp <;> (unfold wrap64; omega)) rfl rfl ?_
               intro ts_ ht_; simp only [sI, sZ, sS] at ht_; subst ht_
               refine q_do (.bool false) (fun w'_ hc_ => by go_simp <;> (unfold wrap64; omega)) rfl rfl ?_
               intro ts_ ht_; simp only [sI, sZ, sS] at ht_; subst ht_
               refine q_do (.bool false) (fun w'_ hc_ => by go_simp <;> (unfold wrap64; omega)) rfl rfl ?_
               intro ts_ ht_; simp only [sI, sZ, sS] at ht_; subst ht_
               refine q_do (.bool false) (fun w'_ hc_ => ex_mv (.tmp 84) (.inl rfl) _ rfl) rfl rfl ?_
               intro ts_ ht_; simp only [sI, sZ, sS] at ht_; subst ht_
               refine q_do (.agg (bv a0)) (fun w'_ hc_ => by obtain ⟨n_, hn_⟩ := hc_; exact ex_load boardT gb1 0 (bv a0) (bv a0) (by rw [hn_]; exact BKb1.out.below n_.below BKb1.out.lt) (av_le LN_a0.out) (av_ex LN_a0.out) _ rfl rfl) rfl rfl ?_
               intro ts_ ht_; simp only [sI, sZ, sS] at ht_; subst ht_
               refine q_do (.int .i64 x49_4) (fun w'_ hc_ => ex_mv (.tmp 6) (.inl rfl) _ rfl) rfl rfl ?_
               intro ts_ ht_; simp only [sI, sZ, sS] at ht_; subst ht_
               refine q_call (.int .i64 t127) 41 #[.agg (bv a0), .int .i64 x49_4] (fun w'_ => by go_simp) (fun w'_ hc_ => (i_count_Promoted.calls k483 a0 x49_4 LN_a0.out t127 _ A499.out).mono fun e_ w2_ h_ => ⟨h_.1, up_below hc_ h_.2⟩) rfl rfl ?_
               intro ts_ ht_; simp only [sI, sZ, sS] at ht_; subst ht_
               refine q_do (.agg (bv a0)) (fun w'_ hc_ => by obtain ⟨n_, hn_⟩ := hc_; exact ex_load boardT gb1 0 (bv a0) (bv a0) (by rw [hn_]; exact BKb1.out.below n_.below BKb1.out.lt) (av_le LN_a0.out) (av_ex LN_a0.out) _ rfl rfl) rfl rfl ?_
               intro ts_ ht_; simp only [sI, sZ, sS] at ht_; subst ht_
               refine q_do (.int .i64 x49_4) (fun w'_ hc_ => ex_mv (.tmp 6) (.inl rfl) _ rfl) rfl rfl ?_
               intro ts_ ht_; simp only [sI, sZ, sS] at ht_; subst ht_
               refine q_call (.int .i64 t128) 43 #[.agg (bv a0), .int .i64 x49_4] (fun w'_ => by go_simp) (fun w'_ hc_ => (i_alfilref24_Promoted.calls k483 a0 x49_4 LN_a0.out t128 _ A500.out).mono fun e_ w2_ h_ => ⟨h_.1, up_below hc_ h_.2⟩) rfl rfl ?_
               intro ts_ ht_; simp only [sI, sZ, sS] at ht_; subst ht_
               refine q_do (.bool false) (fun w'_ hc_ => by go_simp <;> (unfold wrap64; omega)) rfl rfl ?_
               intro ts_ ht_; simp only [sI, sZ, sS] at ht_; subst ht_
               refine q_do (.bool false) (fun w'_ hc_ => by go_simp <;> (unfold wrap64; omega)) rfl rfl ?_
               intro ts_ ht_; simp only [sI, sZ, sS] at ht_; subst ht_
               refine q_end ?_
               rintro w8_ ⟨n_, rfl⟩
               replace BKb1 := hid (BKb1.out.below n_.below BKb1.out.lt)
               replace HL := hid (HL.out.trans (n_.below.mono HL.out.size))
               generalize n_.world = w504 at *
               clear n_ WR64 WR32
               go_wp2_with fail
               (try simp only [Act.put, sI, sZ, sS])
               go_roundg k483
               case measure => have := HK482.out; omega
               case rel => exact ⟨wrap64 (x49_4 + 1), (by first | rfl | (simp; done) | (simp [*]; done)), H', (hid (by first | omega | (have := HK482.out; omega))), (hid (by exact BKb1.out)), HL⟩
              ·
               rw [if_neg c501] at H
               have c501b0 : (t127 == t128) = false := beq_eq_false_iff_ne.mpr c501
               have c501b1 : (t127 != t128) = true := bne_iff_ne.mpr c501
               have hc501 := hid c501
               clear c501
               obtain rfl := Option.some.inj H
               clear H
               have k505 := True.intro
               go_wp2_with (first
                | (go_at_call 42; clear k505; refine (i_alfilref24_Least.calls k483 a0 x49_4 LN_a0.out t126 _ A490.out).mono ?_; rintro e_ w506 ⟨rfl, hb_⟩; replace BKb1 := hid (BKb1.out.below hb_ BKb1.out.lt); replace HL := hid (HL.out.trans (hb_.mono HL.out.size)); clear hb_))
               (try simp only [Act.put, sI, sZ, sS])
               have WR64 := i64_w
               have WR32 := i32_w
               refine up_regionW (by kernel_rfl) (by kernel_rfl) ?_
               refine q_do (.bool t124) (fun w'_ hc_ => ex_mv (.tmp 8) (.inl rfl) _ rfl) rfl rfl ?_
               intro ts_ ht_; simp only [sI, sZ, sS] at ht_; subst ht_
               refine q_do (.int .i64 t126) (fun w'_ hc_ => ex_mv (.tmp 9) (.inl rfl) _ rfl) rfl rfl ?_
               intro ts_ ht_; simp only [sI, sZ, sS] at ht_; subst ht_
               refine q_do (.bool (decide (t126 ≥ 0))) (fun w'_ hc_ => by go_simp <;> (unfold wrap64; omega)) rfl rfl ?_
               intro ts_ ht_; simp only [sI, sZ, sS] at ht_; subst ht_
               refine q_do (.bool false) (fun w'_ hc_ => by go_simp <;> (unfold wrap64; omega)) rfl rfl ?_
               intro ts_ ht_; simp only [sI, sZ, sS] at ht_; subst ht_
               refine q_do (.bool false) (fun w'_ hc_ => ex_mv (.tmp 78) (.inl rfl) _ rfl) rfl rfl ?_
               intro ts_ ht_; simp only [sI, sZ, sS] at ht_; subst ht_
               refine q_do (.int .i64 t123) (fun w'_ hc_ => ex_mv (.tmp 7) (.inl rfl) _ rfl) rfl rfl ?_
               intro ts_ ht_; simp only [sI, sZ, sS] at ht_; subst ht_
               refine q_do (.int .i64 t126) (fun w'_ hc_ => ex_mv (.tmp 9) (.inl rfl) _ rfl) rfl rfl ?_
               intro ts_ ht_; simp only [sI, sZ, sS] at ht_; subst ht_
               refine q_do (.int .i64 0) (fun w'_ hc_ => by go_simp <;> (unfold wrap64; omega)) rfl rfl ?_
               intro ts_ ht_; simp only [sI, sZ, sS] at ht_; subst ht_
               refine q_do (.bool false) (fun w'_ hc_ => by go_simp <;> (unfold wrap64; omega)) rfl rfl ?_
               intro ts_ ht_; simp only [sI, sZ, sS] at ht_; subst ht_
               refine q_do (.bool false) (fun w'_ hc_ => by go_simp <;> (unfold wrap64; omega)) rfl rfl ?_
               intro ts_ ht_; simp only [sI, sZ, sS] at ht_; subst ht_
               refine q_do (.bool false) (fun w'_ hc_ => ex_mv (.tmp 84) (.inl rfl) _ rfl) rfl rfl ?_
               intro ts_ ht_; simp only [sI, sZ, sS] at ht_; subst ht_
               refine q_do (.agg (bv a0)) (fun w'_ hc_ => by obtain ⟨n_, hn_⟩ := hc_; exact ex_load boardT gb1 0 (bv a0) (bv a0) (by rw [hn_]; exact BKb1.out.below n_.below BKb1.out.lt) (av_le LN_a0.out) (av_ex LN_a0.out) _ rfl rfl) rfl rfl ?_
               intro ts_ ht_; simp only [sI, sZ, sS] at ht_; subst ht_
               refine q_do (.int .i64 x49_4) (fun w'_ hc_ => ex_mv (.tmp 6) (.inl rfl) _ rfl) rfl rfl ?_
               intro ts_ ht_; simp only [sI, sZ, sS] at ht_; subst ht_
               refine q_call (.int .i64 t127) 41 #[.agg (bv a0), .int .i64 x49_4] (fun w'_ => by go_simp) (fun w'_ hc_ => (i_count_Promoted.calls k483 a0 x49_4 LN_a0.out t127 _ A499.out).mono fun e_ w2_ h_ => ⟨h_.1, up_below hc_ h_.2⟩) rfl rfl ?_
               intro ts_ ht_; simp only [sI, sZ, sS] at ht_; subst ht_
               refine q_do (.agg (bv a0)) (fun w'_ hc_ => by obtain ⟨n_, hn_⟩ := hc_; exact ex_load boardT gb1 0 (bv a0) (bv a0) (by rw [hn_]; exact BKb1.out.below n_.below BKb1.out.lt) (av_le LN_a0.out) (av_ex LN_a0.out) _ rfl rfl) rfl rfl ?_
               intro ts_ ht_; simp only [sI, sZ, sS] at ht_; subst ht_
               refine q_do (.int .i64 x49_4) (fun w'_ hc_ => ex_mv (.tmp 6) (.inl rfl) _ rfl) rfl rfl ?_
               intro ts_ ht_; simp only [sI, sZ, sS] at ht_; subst ht_
               refine q_call (.int .i64 t128) 43 #[.agg (bv a0), .int .i64 x49_4] (fun w'_ => by go_simp) (fun w'_ hc_ => (i_alfilref24_Promoted.calls k483 a0 x49_4 LN_a0.out t128 _ A500.out).mono fun e_ w2_ h_ => ⟨h_.1, up_below hc_ h_.2⟩) rfl rfl ?_
               intro ts_ ht_; simp only [sI, sZ, sS] at ht_; subst ht_
               refine q_do (.bool true) (fun w'_ hc_ => by go_simp <;> (unfold wrap64; omega)) rfl rfl ?_
               intro ts_ ht_; simp only [sI, sZ, sS] at ht_; subst ht_
               refine q_do (.bool true) (fun w'_ hc_ => by go_simp <;> (unfold wrap64; omega)) rfl rfl ?_
               intro ts_ ht_; simp only [sI, sZ, sS] at ht_; subst ht_
               refine q_end ?_
               rintro w8_ ⟨n_, rfl⟩
               replace BKb1 := hid (BKb1.out.below n_.below BKb1.out.lt)
               replace HL := hid (HL.out.trans (n_.below.mono HL.out.size))
               generalize n_.world = w507 at *
               clear n_ WR64 WR32
               go_wp2_with fail
               (try simp only [Act.put, sI, sZ, sS])
               go_ret
               exact ⟨by first | rfl | (simp; done) | (simp [*]; done), HL.out⟩
             ·
              rw [if_neg c498] at H
              have c498b0 : (t123 == 0) = false := beq_eq_false_iff_ne.mpr c498
              have c498b1 : (t123 != 0) = true := bne_iff_ne.mpr c498
              have hc498 := hid c498
              clear c498
              obtain rfl := Option.some.inj H
              clear H
              have k508 := True.intro
              go_wp2_with (first
               | (go_at_call 42; clear k508; refine (i_alfilref24_Least.calls k483 a0 x49_4 LN_a0.out t126 _ A490.out).mono ?_; rintro e_ w509 ⟨rfl, hb_⟩; replace BKb1 := hid (BKb1.out.below hb_ BKb1.out.lt); replace HL := hid (HL.out.trans (hb_.mono HL.out.size)); clear hb_))
              (try simp only [Act.put, sI, sZ, sS])
              have WR64 := i64_w
              have WR32 := i32_w
              refine up_regionW (by kernel_rfl) (by kernel_rfl) ?_
              refine q_do (.bool t124) (fun w'_ hc_ => ex_mv (.tmp 8) (.inl rfl) _ rfl) rfl rfl ?_
              intro ts_ ht_; simp only [sI, sZ, sS] at ht_; subst ht_
              refine q_do (.int .i64 t126) (fun w'_ hc_ => ex_mv (.tmp 9) (.inl rfl) _ rfl) rfl rfl ?_
              intro ts_ ht_; simp only [sI, sZ, sS] at ht_; subst ht_
              refine q_do (.bool (decide (t126 ≥ 0))) (fun w'_ hc_ => by go_simp <;> (unfold wrap64; omega)) rfl rfl ?_
              intro ts_ ht_; simp only [sI, sZ, sS] at ht_; subst ht_
              refine q_do (.bool false) (fun w'_ hc_ => by go_simp <;> (unfold wrap64; omega)) rfl rfl ?_
              intro ts_ ht_; simp only [sI, sZ, sS] at ht_; subst ht_
              refine q_do (.bool false) (fun w'_ hc_ => ex_mv (.tmp 78) (.inl rfl) _ rfl) rfl rfl ?_
              intro ts_ ht_; simp only [sI, sZ, sS] at ht_; subst ht_
              refine q_do (.int .i64 t123) (fun w'_ hc_ => ex_mv (.tmp 7) (.inl rfl) _ rfl) rfl rfl ?_
              intro ts_ ht_; simp only [sI, sZ, sS] at ht_; subst ht_
              refine q_do (.int .i64 t126) (fun w'_ hc_ => ex_mv (.tmp 9) (.inl rfl) _ rfl) rfl rfl ?_
              intro ts_ ht_; simp only [sI, sZ, sS] at ht_; subst ht_
              refine q_do (.int .i64 0) (fun w'_ hc_ => by go_simp <;> (unfold wrap64; omega)) rfl rfl ?_
              intro ts_ ht_; simp only [sI, sZ, sS] at ht_; subst ht_
              refine q_do (.bool true) (fun w'_ hc_ => by go_simp <;> (unfold wrap64; omega)) rfl rfl ?_
              intro ts_ ht_; simp only [sI, sZ, sS] at ht_; subst ht_
              refine q_do (.bool true) (fun w'_ hc_ => by go_simp <;> (unfold wrap64; omega)) rfl rfl ?_
              intro ts_ ht_; simp only [sI, sZ, sS] at ht_; subst ht_
              refine q_do (.bool true) (fun w'_ hc_ => ex_mv (.tmp 84) (.inl rfl) _ rfl) rfl rfl ?_
              intro ts_ ht_; simp only [sI, sZ, sS] at ht_; subst ht_
              refine q_not 10 true rfl rfl rfl ?_
              intro ts_ ht_; simp only [sI, sZ, sS] at ht_; subst ht_
              refine q_not 10 true rfl rfl rfl ?_
              intro ts_ ht_; simp only [sI, sZ, sS] at ht_; subst ht_
              refine q_not 10 true rfl rfl rfl ?_
              intro ts_ ht_; simp only [sI, sZ, sS] at ht_; subst ht_
              refine q_not 10 true rfl rfl rfl ?_
              intro ts_ ht_; simp only [sI, sZ, sS] at ht_; subst ht_
              refine q_not 10 true rfl rfl rfl ?_
              intro ts_ ht_; simp only [sI, sZ, sS] at ht_; subst ht_
              refine q_not 10 true rfl rfl rfl ?_
              intro ts_ ht_; simp only [sI, sZ, sS] at ht_; subst ht_
              refine q_not 10 true rfl rfl rfl ?_
              intro ts_ ht_; simp only [sI, sZ, sS] at ht_; subst ht_
              refine q_do (.bool true) (fun w'_ hc_ => by go_simp <;> (unfold wrap64; omega)) rfl rfl ?_
              intro ts_ ht_; simp only [sI, sZ, sS] at ht_; subst ht_
              refine q_end ?_
              rintro w8_ ⟨n_, rfl⟩
              replace BKb1 := hid (BKb1.out.below n_.below BKb1.out.lt)
              replace HL := hid (HL.out.trans (n_.below.mono HL.out.size))
              generalize n_.world = w510 at *
              clear n_ WR64 WR32
              go_wp2_with fail
              (try simp only [Act.put, sI, sZ, sS])
              go_ret
              exact ⟨by first | rfl | (simp; done) | (simp [*]; done), HL.out⟩
            ·
             rw [if_neg c497] at H
             have c497b0 : decide (t126 < 0) = false := decide_eq_false c497
             have c497b1 : (if t126 < 0 then 0 else t126) = t126 := if_neg c497
             have c497b2 : max t126 0 = t126 := by omega
             have hc497 := hid c497
             clear c497
             by_cases c511 : t123 = t126
             ·
              rw [if_pos c511] at H
              have c511b0 : (t123 == t126) = true := beq_iff_eq.mpr c511
              have c511b1 : (t123 != t126) = false := bne_eq_false_iff_eq.mpr c511
              have hc511 := hid c511
              clear c511
              replace H := Option.bind_eq_some_iff.mp H
              obtain ⟨t129, A512_, H⟩ := H
              have A512 := hid A512_
              clear A512_
              replace H := Option.bind_eq_some_iff.mp H
              obtain ⟨t130, A513_, H⟩ := H
              have A513 := hid A513_
              clear A513_
              by_cases c514 : t129 = t130
              ·
               rw [if_pos c514] at H
               have c514b0 : (t129 == t130) = true := beq_iff_eq.mpr c514
               have c514b1 : (t129 != t130) = false := bne_eq_false_iff_eq.mpr c514
               have hc514 := hid c514
               clear c514
               have H' := hid H
               clear H
               have k515 := True.intro
               go_wp2_with (first
                | (go_at_call 42; clear k515; refine (i_alfilref24_Least.calls k483 a0 x49_4 LN_a0.out t126 _ A490.out).mono ?_; rintro e_ w516 ⟨rfl, hb_⟩; replace BKb1 := hid (BKb1.out.below hb_ BKb1.out.lt); replace HL := hid (HL.out.trans (hb_.mono HL.out.size)); clear hb_))
               (try simp only [Act.put, sI, sZ, sS])
               have WR64 := i64_w
               have WR32 := i32_w
               refine up_regionW (by kernel_rfl) (by kernel_rfl) ?_
               refine q_do (.bool t124) (fun w'_ hc_ => ex_mv (.tmp 8) (.inl rfl) _ rfl) rfl rfl ?_
               intro ts_ ht_; simp only [sI, sZ, sS] at ht_; subst ht_
               refine q_do (.int .i64 t126) (fun w'_ hc_ => ex_mv (.tmp 9) (.inl rfl) _ rfl) rfl rfl ?_
               intro ts_ ht_; simp only [sI, sZ, sS] at ht_; subst ht_
               refine q_do (.bool (decide (t126 ≥ 0))) (fun w'_ hc_ => by go_simp <;> (unfold wrap64; omega)) rfl rfl ?_
               intro ts_ ht_; simp only [sI, sZ, sS] at ht_; subst ht_
               refine q_do (.bool false) (fun w'_ hc_ => by go_simp <;> (unfold wrap64; omega)) rfl rfl ?_
               intro ts_ ht_; simp only [sI, sZ, sS] at ht_; subst ht_
               refine q_do (.bool false) (fun w'_ hc_ => ex_mv (.tmp 78) (.inl rfl) _ rfl) rfl rfl ?_
               intro ts_ ht_; simp only [sI, sZ, sS] at ht_; subst ht_
               refine q_do (.int .i64 t123) (fun w'_ hc_ => ex_mv (.tmp 7) (.inl rfl) _ rfl) rfl rfl ?_
               intro ts_ ht_; simp only [sI, sZ, sS] at ht_; subst ht_
               refine q_do (.int .i64 t126) (fun w'_ hc_ => ex_mv (.tmp 9) (.inl rfl) _ rfl) rfl rfl ?_
               intro ts_ ht_; simp only [sI, sZ, sS] at ht_; subst ht_
               refine q_do (.int .i64 t126) (fun w'_ hc_ => by go_simp <;> (unfold wrap64; omega)) rfl rfl ?_
               intro ts_ ht_; simp only [sI, sZ, sS] at ht_; subst ht_
               refine q_do (.bool false) (fun w'_ hc_ => by go_simp <;> (unfold wrap64; omega)) rfl rfl ?_
               intro ts_ ht_; simp only [sI, sZ, sS] at ht_; subst ht_
               refine q_do (.bool false) (fun w'_ hc_ => by go_simp <;> (unfold wrap64; omega)) rfl rfl ?_
               intro ts_ ht_; simp only [sI, sZ, sS] at ht_; subst ht_
               refine q_do (.bool false) (fun w'_ hc_ => ex_mv (.tmp 84) (.inl rfl) _ rfl) rfl rfl ?_
               intro ts_ ht_; simp only [sI, sZ, sS] at ht_; subst ht_
               refine q_do (.agg (bv a0)) (fun w'_ hc_ => by obtain ⟨n_, hn_⟩ := hc_; exact ex_load boardT gb1 0 (bv a0) (bv a0) (by rw [hn_]; exact BKb1.out.below n_.below BKb1.out.lt) (av_le LN_a0.out) (av_ex LN_a0.out) _ rfl rfl) rfl rfl ?_
               intro ts_ ht_; simp only [sI, sZ, sS] at ht_; subst ht_
               refine q_do (.int .i64 x49_4) (fun w'_ hc_ => ex_mv (.tmp 6) (.inl rfl) _ rfl) rfl rfl ?_
               intro ts_ ht_; simp only [sI, sZ, sS] at ht_; subst ht_
               refine q_call (.int .i64 t129) 41 #[.agg (bv a0), .int .i64 x49_4] (fun w'_ => by go_simp) (fun w'_ hc_ => (i_count_Promoted.calls k483 a0 x49_4 LN_a0.out t129 _ A512.out).mono fun e_ w2_ h_ => ⟨h_.1, up_below hc_ h_.2⟩) rfl rfl ?_
               intro ts_ ht_; simp only [sI, sZ, sS] at ht_; subst ht_
               refine q_do (.agg (bv a0)) (fun w'_ hc_ => by obtain ⟨n_, hn_⟩ := hc_; exact ex_load boardT gb1 0 (bv a0) (bv a0) (by rw [hn_]; exact BKb1.out.below n_.below BKb1.out.lt) (av_le LN_a0.out) (av_ex LN_a0.out) _ rfl rfl) rfl rfl ?_
               intro ts_ ht_; simp only [sI, sZ, sS] at ht_; subst ht_
               refine q_do (.int .i64 x49_4) (fun w'_ hc_ => ex_mv (.tmp 6) (.inl rfl) _ rfl) rfl rfl ?_
               intro ts_ ht_; simp only [sI, sZ, sS] at ht_; subst ht_
               refine q_call (.int .i64 t130) 43 #[.agg (bv a0), .int .i64 x49_4] (fun w'_ => by go_simp) (fun w'_ hc_ => (i_alfilref24_Promoted.calls k483 a0 x49_4 LN_a0.out t130 _ A513.out).mono fun e_ w2_ h_ => ⟨h_.1, up_below hc_ h_.2⟩) rfl rfl ?_
               intro ts_ ht_; simp only [sI, sZ, sS] at ht_; subst ht_
               refine q_do (.bool false) (fun w'_ hc_ => by go_simp <;> (unfold wrap64; omega)) rfl rfl ?_
               intro ts_ ht_; simp only [sI, sZ, sS] at ht_; subst ht_
               refine q_do (.bool false) (fun w'_ hc_ => by go_simp <;> (unfold wrap64; omega)) rfl rfl ?_
               intro ts_ ht_; simp only [sI, sZ, sS] at ht_; subst ht_
               refine q_end ?_
               rintro w8_ ⟨n_, rfl⟩
               replace BKb1 := hid (BKb1.out.below n_.below BKb1.out.lt)
               replace HL := hid (HL.out.trans (n_.below.mono HL.out.size))
               generalize n_.world = w517 at *
               clear n_ WR64 WR32
               go_wp2_with fail
               (try simp only [Act.put, sI, sZ, sS])
               go_roundg k483
               case measure => have := HK482.out; omega
               case rel => exact ⟨wrap64 (x49_4 + 1), (by first | rfl | (simp; done) | (simp [*]; done)), H', (hid (by first | omega | (have := HK482.out; omega))), (hid (by exact BKb1.out)), HL⟩
              ·
               rw [if_neg c514] at H
               have c514b0 : (t129 == t130) = false := beq_eq_false_iff_ne.mpr c514
               have c514b1 : (t129 != t130) = true := bne_iff_ne.mpr c514
               have hc514 := hid c514
               clear c514
               obtain rfl := Option.some.inj H
               clear H
               have k518 := True.intro
               go_wp2_with (first
                | (go_at_call 42; clear k518; refine (i_alfilref24_Least.calls k483 a0 x49_4 LN_a0.out t126 _ A490.out).mono ?_; rintro e_ w519 ⟨rfl, hb_⟩; replace BKb1 := hid (BKb1.out.below hb_ BKb1.out.lt); replace HL := hid (HL.out.trans (hb_.mono HL.out.size)); clear hb_))
               (try simp only [Act.put, sI, sZ, sS])
               have WR64 := i64_w
               have WR32 := i32_w
               refine up_regionW (by kernel_rfl) (by kernel_rfl) ?_
               refine q_do (.bool t124) (fun w'_ hc_ => ex_mv (.tmp 8) (.inl rfl) _ rfl) rfl rfl ?_
               intro ts_ ht_; simp only [sI, sZ, sS] at ht_; subst ht_
               refine q_do (.int .i64 t126) (fun w'_ hc_ => ex_mv (.tmp 9) (.inl rfl) _ rfl) rfl rfl ?_
               intro ts_ ht_; simp only [sI, sZ, sS] at ht_; subst ht_
               refine q_do (.bool (decide (t126 ≥ 0))) (fun w'_ hc_ => by go_simp <;> (unfold wrap64; omega)) rfl rfl ?_
               intro ts_ ht_; simp only [sI, sZ, sS] at ht_; subst ht_
               refine q_do (.bool false) (fun w'_ hc_ => by go_simp <;> (unfold wrap64; omega)) rfl rfl ?_
               intro ts_ ht_; simp only [sI, sZ, sS] at ht_; subst ht_
               refine q_do (.bool false) (fun w'_ hc_ => ex_mv (.tmp 78) (.inl rfl) _ rfl) rfl rfl ?_
               intro ts_ ht_; simp only [sI, sZ, sS] at ht_; subst ht_
               refine q_do (.int .i64 t123) (fun w'_ hc_ => ex_mv (.tmp 7) (.inl rfl) _ rfl) rfl rfl ?_
               intro ts_ ht_; simp only [sI, sZ, sS] at ht_; subst ht_
               refine q_do (.int .i64 t126) (fun w'_ hc_ => ex_mv (.tmp 9) (.inl rfl) _ rfl) rfl rfl ?_
               intro ts_ ht_; simp only [sI, sZ, sS] at ht_; subst ht_
               refine q_do (.int .i64 t126) (fun w'_ hc_ => by go_simp <;> (unfold wrap64; omega)) rfl rfl ?_
               intro ts_ ht_; simp only [sI, sZ, sS] at ht_; subst ht_
               refine q_do (.bool false) (fun w'_ hc_ => by go_simp <;> (unfold wrap64; omega)) rfl rfl ?_
               intro ts_ ht_; simp only [sI, sZ, sS] at ht_; subst ht_
               refine q_do (.bool false) (fun w'_ hc_ => by go_simp <;> (unfold wrap64; omega)) rfl rfl ?_
               intro ts_ ht_; simp only [sI, sZ, sS] at ht_; subst ht_
               refine q_do (.bool false) (fun w'_ hc_ => ex_mv (.tmp 84) (.inl rfl) _ rfl) rfl rfl ?_
               intro ts_ ht_; simp only [sI, sZ, sS] at ht_; subst ht_
               refine q_do (.agg (bv a0)) (fun w'_ hc_ => by obtain ⟨n_, hn_⟩ := hc_; exact ex_load boardT gb1 0 (bv a0) (bv a0) (by rw [hn_]; exact BKb1.out.below n_.below BKb1.out.lt) (av_le LN_a0.out) (av_ex LN_a0.out) _ rfl rfl) rfl rfl ?_
               intro ts_ ht_; simp only [sI, sZ, sS] at ht_; subst ht_
               refine q_do (.int .i64 x49_4) (fun w'_ hc_ => ex_mv (.tmp 6) (.inl rfl) _ rfl) rfl rfl ?_
               intro ts_ ht_; simp only [sI, sZ, sS] at ht_; subst ht_
               refine q_call (.int .i64 t129) 41 #[.agg (bv a0), .int .i64 x49_4] (fun w'_ => by go_simp) (fun w'_ hc_ => (i_count_Promoted.calls k483 a0 x49_4 LN_a0.out t129 _ A512.out).mono fun e_ w2_ h_ => ⟨h_.1, up_below hc_ h_.2⟩) rfl rfl ?_
               intro ts_ ht_; simp only [sI, sZ, sS] at ht_; subst ht_
               refine q_do (.agg (bv a0)) (fun w'_ hc_ => by obtain ⟨n_, hn_⟩ := hc_; exact ex_load boardT gb1 0 (bv a0) (bv a0) (by rw [hn_]; exact BKb1.out.below n_.below BKb1.out.lt) (av_le LN_a0.out) (av_ex LN_a0.out) _ rfl rfl) rfl rfl ?_
               intro ts_ ht_; simp only [sI, sZ, sS] at ht_; subst ht_
               refine q_do (.int .i64 x49_4) (fun w'_ hc_ => ex_mv (.tmp 6) (.inl rfl) _ rfl) rfl rfl ?_
               intro ts_ ht_; simp only [sI, sZ, sS] at ht_; subst ht_
               refine q_call (.int .i64 t130) 43 #[.agg (bv a0), .int .i64 x49_4] (fun w'_ => by go_simp) (fun w'_ hc_ => (i_alfilref24_Promoted.calls k483 a0 x49_4 LN_a0.out t130 _ A513.out).mono fun e_ w2_ h_ => ⟨h_.1, up_below hc_ h_.2⟩) rfl rfl ?_
               intro ts_ ht_; simp only [sI, sZ, sS] at ht_; subst ht_
               refine q_do (.bool true) (fun w'_ hc_ => by go_simp <;> (unfold wrap64; omega)) rfl rfl ?_
               intro ts_ ht_; simp only [sI, sZ, sS] at ht_; subst ht_
               refine q_do (.bool true) (fun w'_ hc_ => by go_simp <;> (unfold wrap64; omega)) rfl rfl ?_
               intro ts_ ht_; simp only [sI, sZ, sS] at ht_; subst ht_
               refine q_end ?_
               rintro w8_ ⟨n_, rfl⟩
               replace BKb1 := hid (BKb1.out.below n_.below BKb1.out.lt)
               replace HL := hid (HL.out.trans (n_.below.mono HL.out.size))
               generalize n_.world = w520 at *
               clear n_ WR64 WR32
               go_wp2_with fail
               (try simp only [Act.put, sI, sZ, sS])
               go_ret
               exact ⟨by first | rfl | (simp; done) | (simp [*]; done), HL.out⟩
             ·
              rw [if_neg c511] at H
              have c511b0 : (t123 == t126) = false := beq_eq_false_iff_ne.mpr c511
              have c511b1 : (t123 != t126) = true := bne_iff_ne.mpr c511
              have hc511 := hid c511
              clear c511
              obtain rfl := Option.some.inj H
              clear H
              have k521 := True.intro
              go_wp2_with (first
               | (go_at_call 42; clear k521; refine (i_alfilref24_Least.calls k483 a0 x49_4 LN_a0.out t126 _ A490.out).mono ?_; rintro e_ w522 ⟨rfl, hb_⟩; replace BKb1 := hid (BKb1.out.below hb_ BKb1.out.lt); replace HL := hid (HL.out.trans (hb_.mono HL.out.size)); clear hb_))
              (try simp only [Act.put, sI, sZ, sS])
              have WR64 := i64_w
              have WR32 := i32_w
              refine up_regionW (by kernel_rfl) (by kernel_rfl) ?_
              refine q_do (.bool t124) (fun w'_ hc_ => ex_mv (.tmp 8) (.inl rfl) _ rfl) rfl rfl ?_
              intro ts_ ht_; simp only [sI, sZ, sS] at ht_; subst ht_
              refine q_do (.int .i64 t126) (fun w'_ hc_ => ex_mv (.tmp 9) (.inl rfl) _ rfl) rfl rfl ?_
              intro ts_ ht_; simp only [sI, sZ, sS] at ht_; subst ht_
              refine q_do (.bool (decide (t126 ≥ 0))) (fun w'_ hc_ => by go_simp <;> (unfold wrap64; omega)) rfl rfl ?_
              intro ts_ ht_; simp only [sI, sZ, sS] at ht_; subst ht_
              refine q_do (.bool false) (fun w'_ hc_ => by go_simp <;> (unfold wrap64; omega)) rfl rfl ?_
              intro ts_ ht_; simp only [sI, sZ, sS] at ht_; subst ht_
              refine q_do (.bool false) (fun w'_ hc_ => ex_mv (.tmp 78) (.inl rfl) _ rfl) rfl rfl ?_
              intro ts_ ht_; simp only [sI, sZ, sS] at ht_; subst ht_
              refine q_do (.int .i64 t123) (fun w'_ hc_ => ex_mv (.tmp 7) (.inl rfl) _ rfl) rfl rfl ?_
              intro ts_ ht_; simp only [sI, sZ, sS] at ht_; subst ht_
              refine q_do (.int .i64 t126) (fun w'_ hc_ => ex_mv (.tmp 9) (.inl rfl) _ rfl) rfl rfl ?_
              intro ts_ ht_; simp only [sI, sZ, sS] at ht_; subst ht_
              refine q_do (.int .i64 t126) (fun w'_ hc_ => by go_simp <;> (unfold wrap64; omega)) rfl rfl ?_
              intro ts_ ht_; simp only [sI, sZ, sS] at ht_; subst ht_
              refine q_do (.bool true) (fun w'_ hc_ => by go_simp <;> (unfold wrap64; omega)) rfl rfl ?_
              intro ts_ ht_; simp only [sI, sZ, sS] at ht_; subst ht_
              refine q_do (.bool true) (fun w'_ hc_ => by go_simp <;> (unfold wrap64; omega)) rfl rfl ?_
              intro ts_ ht_; simp only [sI, sZ, sS] at ht_; subst ht_
              refine q_do (.bool true) (fun w'_ hc_ => ex_mv (.tmp 84) (.inl rfl) _ rfl) rfl rfl ?_
              intro ts_ ht_; simp only [sI, sZ, sS] at ht_; subst ht_
              refine q_not 10 true rfl rfl rfl ?_
              intro ts_ ht_; simp only [sI, sZ, sS] at ht_; subst ht_
              refine q_not 10 true rfl rfl rfl ?_
              intro ts_ ht_; simp only [sI, sZ, sS] at ht_; subst ht_
              refine q_not 10 true rfl rfl rfl ?_
              intro ts_ ht_; simp only [sI, sZ, sS] at ht_; subst ht_
              refine q_not 10 true rfl rfl rfl ?_
              intro ts_ ht_; simp only [sI, sZ, sS] at ht_; subst ht_
              refine q_not 10 true rfl rfl rfl ?_
              intro ts_ ht_; simp only [sI, sZ, sS] at ht_; subst ht_
              refine q_not 10 true rfl rfl rfl ?_
              intro ts_ ht_; simp only [sI, sZ, sS] at ht_; subst ht_
              refine q_not 10 true rfl rfl rfl ?_
              intro ts_ ht_; simp only [sI, sZ, sS] at ht_; subst ht_
              refine q_do (.bool true) (fun w'_ hc_ => by go_simp <;> (unfold wrap64; omega)) rfl rfl ?_
              intro ts_ ht_; simp only [sI, sZ, sS] at ht_; subst ht_
              refine q_end ?_
              rintro w8_ ⟨n_, rfl⟩
              replace BKb1 := hid (BKb1.out.below n_.below BKb1.out.lt)
              replace HL := hid (HL.out.trans (n_.below.mono HL.out.size))
              generalize n_.world = w523 at *
              clear n_ WR64 WR32
              go_wp2_with fail
              (try simp only [Act.put, sI, sZ, sS])
              go_ret
              exact ⟨by first | rfl | (simp; done) | (simp [*]; done), HL.out⟩
          | false =>
           rw [if_neg (show ¬ (false = true) by decide)] at H
           by_cases c524 : t123 = 0
           ·
            rw [if_pos c524] at H
            have c524b0 : (t123 == 0) = true := beq_iff_eq.mpr c524
            have c524b1 : (t123 != 0) = false := bne_eq_false_iff_eq.mpr c524
            have hc524 := hid c524
            clear c524
            cases t124 with
            | true =>
             rw [if_pos rfl] at H
             obtain rfl := Option.some.inj H
             clear H
             have k526 := True.intro
             go_wp2_with (first
              | (go_at_call 37; clear k526; refine (i_alfilref03_Right.calls k483 a0 LN_a0.out false _ A486.out).mono ?_; rintro e_ w527 ⟨rfl, hb_⟩; replace BKb1 := hid (BKb1.out.below hb_ BKb1.out.lt); replace HL := hid (HL.out.trans (hb_.mono HL.out.size)); clear hb_))
             (try simp only [Act.put, sI, sZ, sS])
             go_ret
             exact ⟨by first | rfl | (simp; done) | (simp [*]; done), HL.out⟩
            | false =>
             rw [if_neg (show ¬ (false = true) by decide)] at H
             have H' := hid H
             clear H
             have k529 := True.intro
             go_wp2_with (first
              | (go_at_call 37; clear k529; refine (i_alfilref03_Right.calls k483 a0 LN_a0.out false _ A486.out).mono ?_; rintro e_ w530 ⟨rfl, hb_⟩; replace BKb1 := hid (BKb1.out.below hb_ BKb1.out.lt); replace HL := hid (HL.out.trans (hb_.mono HL.out.size)); clear hb_)
              | ((with_reducible refine gate_d (N := 67) rfl ?_); refine ag_fix (.agg (bv a0)) (ex_load boardT gb1 0 (bv a0) (bv a0) BKb1.out (av_le LN_a0.out) (av_ex LN_a0.out) _ rfl rfl) rfl ?_))
             (try simp only [Act.put, sI, sZ, sS])
             have H := H'.out
             clear H'
             replace H := Option.bind_eq_some_iff.mp H
             obtain ⟨t131, A528_, H⟩ := H
             have A528 := hid A528_
             clear A528_
             by_cases c531 : t131 = 0
             ·
              rw [if_pos c531] at H
              have c531b0 : (t131 == 0) = true := beq_iff_eq.mpr c531
              have c531b1 : (t131 != 0) = false := bne_eq_false_iff_eq.mpr c531
              have hc531 := hid c531
              clear c531
              have H' := hid H
              clear H
              have k532 := True.intro
              go_wp2_with (first
               | (go_at_call 41; clear k532; refine (i_count_Promoted.calls k483 a0 x49_4 LN_a0.out t131 _ A528.out).mono ?_; rintro e_ w533 ⟨rfl, hb_⟩; replace BKb1 := hid (BKb1.out.below hb_ BKb1.out.lt); replace HL := hid (HL.out.trans (hb_.mono HL.out.size)); clear hb_))
              (try simp only [Act.put, sI, sZ, sS])
              go_roundg k483
              case measure => have := HK482.out; omega
              case rel => exact ⟨wrap64 (x49_4 + 1), (by first | rfl | (simp; done) | (simp [*]; done)), H', (hid (by first | omega | (have := HK482.out; omega))), (hid (by exact BKb1.out)), HL⟩
             ·
              rw [if_neg c531] at H
              have c531b0 : (t131 == 0) = false := beq_eq_false_iff_ne.mpr c531
              have c531b1 : (t131 != 0) = true := bne_iff_ne.mpr c531
              have hc531 := hid c531
              clear c531
              obtain rfl := Option.some.inj H
              clear H
              have k534 := True.intro
              go_wp2_with (first
               | (go_at_call 41; clear k534; refine (i_count_Promoted.calls k483 a0 x49_4 LN_a0.out t131 _ A528.out).mono ?_; rintro e_ w535 ⟨rfl, hb_⟩; replace BKb1 := hid (BKb1.out.below hb_ BKb1.out.lt); replace HL := hid (HL.out.trans (hb_.mono HL.out.size)); clear hb_))
              (try simp only [Act.put, sI, sZ, sS])
              go_ret
              exact ⟨by first | rfl | (simp; done) | (simp [*]; done), HL.out⟩
           ·
            rw [if_neg c524] at H
            have c524b0 : (t123 == 0) = false := beq_eq_false_iff_ne.mpr c524
            have c524b1 : (t123 != 0) = true := bne_iff_ne.mpr c524
            have hc524 := hid c524
            clear c524
            obtain rfl := Option.some.inj H
            clear H
            have k536 := True.intro
            go_wp2_with (first
             | (go_at_call 37; clear k536; refine (i_alfilref03_Right.calls k483 a0 LN_a0.out false _ A486.out).mono ?_; rintro e_ w537 ⟨rfl, hb_⟩; replace BKb1 := hid (BKb1.out.below hb_ BKb1.out.lt); replace HL := hid (HL.out.trans (hb_.mono HL.out.size)); clear hb_))
            (try simp only [Act.put, sI, sZ, sS])
            go_ret
            exact ⟨by first | rfl | (simp; done) | (simp [*]; done), HL.out⟩
         ·
          rw [if_neg c484] at H
          have c484b0 : decide (x49_4 < 2) = false := decide_eq_false c484
          have hc484 := hid c484
          clear c484
          replace H := Option.bind_eq_some_iff.mp H
          obtain ⟨⟨t132, t133⟩, A538_, H⟩ := H
          dsimp only at H
          have A538 := hid A538_
          clear A538_
          by_cases c539 : t132 = 0
          ·
           rw [if_pos c539] at H
           have c539b0 : (t132 == 0) = true := beq_iff_eq.mpr c539
           have c539b1 : (t132 != 0) = false := bne_eq_false_iff_eq.mpr c539
           have hc539 := hid c539
           clear c539
           cases t133 with
           | true =>
            rw [if_pos rfl] at H
            obtain rfl := Option.some.inj H
            clear H
            have k541 := True.intro
            go_wp2_with (first
             | ((with_reducible refine gate_d (N := 96) rfl ?_); refine ag_fix (.agg (bv a0)) (ex_load boardT gb1 0 (bv a0) (bv a0) BKb1.out (av_le LN_a0.out) (av_ex LN_a0.out) _ rfl rfl) rfl ?_)
             | (go_at_call 40; clear k541; refine (i_count_Least.calls k483 a0 2 LN_a0.out t132 true _ A538.out).mono ?_; rintro e_ w542 ⟨rfl, hb_⟩; replace BKb1 := hid (BKb1.out.below hb_ BKb1.out.lt); replace HL := hid (HL.out.trans (hb_.mono HL.out.size)); clear hb_))
            (try simp only [Act.put, sI, sZ, sS])
            go_ret
            exact ⟨by first | rfl | (simp; done) | (simp [*]; done), HL.out⟩
           | false =>
            rw [if_neg (show ¬ (false = true) by decide)] at H
            replace H := Option.bind_eq_some_iff.mp H
            obtain ⟨t134, A543_, H⟩ := H
            have A543 := hid A543_
            clear A543_
            obtain rfl := Option.some.inj H
            clear H
            have k544 := True.intro
            have k546 := True.intro
            go_wp2_with (first
             | ((with_reducible refine gate_d (N := 96) rfl ?_); refine ag_fix (.agg (bv a0)) (ex_load boardT gb1 0 (bv a0) (bv a0) BKb1.out (av_le LN_a0.out) (av_ex LN_a0.out) _ rfl rfl) rfl ?_)
             | (go_at_call 40; clear k544; refine (i_count_Least.calls k483 a0 2 LN_a0.out t132 false _ A538.out).mono ?_; rintro e_ w545 ⟨rfl, hb_⟩; replace BKb1 := hid (BKb1.out.below hb_ BKb1.out.lt); replace HL := hid (HL.out.trans (hb_.mono HL.out.size)); clear hb_)
             | ((with_reducible refine gate_d (N := 107) rfl ?_); refine ag_fix (.agg (bv a0)) (ex_load boardT gb1 0 (bv a0) (bv a0) BKb1.out (av_le LN_a0.out) (av_ex LN_a0.out) _ rfl rfl) rfl ?_)
             | (go_at_call 41; clear k546; refine (i_count_Promoted.calls k483 a0 (-1) LN_a0.out t134 _ A543.out).mono ?_; rintro e_ w547 ⟨rfl, hb_⟩; replace BKb1 := hid (BKb1.out.below hb_ BKb1.out.lt); replace HL := hid (HL.out.trans (hb_.mono HL.out.size)); clear hb_))
            (try simp only [Act.put, sI, sZ, sS])
            go_ret
            exact ⟨by first | rfl | (simp; done) | (simp [*]; done), HL.out⟩
          ·
           rw [if_neg c539] at H
           have c539b0 : (t132 == 0) = false := beq_eq_false_iff_ne.mpr c539
           have c539b1 : (t132 != 0) = true := bne_iff_ne.mpr c539
           have hc539 := hid c539
           clear c539
           obtain rfl := Option.some.inj H
           clear H
           have k548 := True.intro
           go_wp2_with (first
            | ((with_reducible refine gate_d (N := 96) rfl ?_); refine ag_fix (.agg (bv a0)) (ex_load boardT gb1 0 (bv a0) (bv a0) BKb1.out (av_le LN_a0.out) (av_ex LN_a0.out) _ rfl rfl) rfl ?_)
            | (go_at_call 40; clear k548; refine (i_count_Least.calls k483 a0 2 LN_a0.out t132 t133 _ A538.out).mono ?_; rintro e_ w549 ⟨rfl, hb_⟩; replace BKb1 := hid (BKb1.out.below hb_ BKb1.out.lt); replace HL := hid (HL.out.trans (hb_.mono HL.out.size)); clear hb_))
           (try simp only [Act.put, sI, sZ, sS])
           go_ret
           exact ⟨by first | rfl | (simp; done) | (simp [*]; done), HL.out⟩
    ·
     rw [if_neg c470] at H
     have c470b0 : (t3 == t109) = false := beq_eq_false_iff_ne.mpr c470
     have c470b1 : (t3 != t109) = true := bne_iff_ne.mpr c470
     have hc470 := hid c470
     clear c470
     obtain rfl := Option.some.inj H
     clear H
     have k550 := True.intro
     go_wp2_with (first
      | (go_at_call 38; clear k550; refine (i_alfilref24_Why.calls k a0 LN_a0.out t109 _ A467.out).mono ?_; rintro e_ w551 ⟨rfl, hb_⟩; replace BKb1 := hid (BKb1.out.below hb_ BKb1.out.lt); replace HL := hid (HL.out.trans (hb_.mono HL.out.size)); clear hb_))
     (try simp only [Act.put, sI, sZ, sS])
     go_ret
     exact ⟨by first | rfl | (simp; done) | (simp [*]; done), HL.out⟩
 | false =>
  rw [if_neg (show ¬ (false = true) by decide)] at H
  obtain rfl := Option.some.inj H
  clear H
  go_enter Try.func10, Try.ntmps10
  have k553 := True.intro
  go_wp2_with (first
   | ((with_reducible refine gate_d (N := 1) rfl ?_); obtain ⟨gb1, hgb1⟩ : ∃ g_, w.heap.size = g_ := ⟨_, rfl⟩; refine ag_box (bv a0) gb1 hgb1 rfl _ rfl rfl ?_; intro w552 hb_ hB_ hs_; have GEb1 : Hid (w.heap.size ≤ gb1) := hid (by have := HL.out.size; omega); replace HL := hid (HL.out.trans (hb_.mono GEb1.out)); have BKb1 := hid hB_; clear hb_ hB_ hs_ hgb1)
   | (go_at_call 34; clear k553; refine (i_alfillaw24_wakes.calls k false _ A135.out).mono ?_; rintro e_ w554 ⟨rfl, hb_⟩; replace BKb1 := hid (BKb1.out.below hb_ BKb1.out.lt); replace HL := hid (HL.out.trans (hb_.mono HL.out.size)); clear hb_))
  (try simp only [Act.put, sI, sZ, sS])
  go_ret
  exact ⟨by first | rfl | (simp; done) | (simp [*]; done), HL.out⟩
end Go.Proofs.Ytpjocgebnodnoaa
