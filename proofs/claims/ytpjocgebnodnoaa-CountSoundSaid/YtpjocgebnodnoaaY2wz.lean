import Derived.Test.YtpjocgebnodnoaaProg
import Derived.Test.YtpjocgebnodnoaaC3wz
import Derived.Test.YtpjocgebnodnoaaRsz
namespace Go.Proofs.Ytpjocgebnodnoaa
open Go.RowKit
set_option linter.unusedVariables false
set_option linter.unusedSimpArgs false
set_option maxRecDepth 100000
theorem sT27 : ScT Try.prog 27 := ⟨fun w => by kernel_rfl, fun w => by kernel_rfl⟩
theorem eT92_info : (Try.prog.info? 27).map (fun i => (i.zero, i.size, i.bytes)) = some (some (.slice none 0 0), 1, 24) := by kernel_rfl
theorem eT92 : ElemT Try.prog 92 27 24 := ⟨by kernel_rfl, by
  obtain ⟨i, h1, h2, h3, h4⟩ := info_parts eT92_info
  exact ⟨i, _, h1, h2, h3, h4, rfl⟩⟩
theorem us92 : Try.prog.underlying 92 = some (.slice 27) := by kernel_rfl
def i_alfilref01_Step.l0 : Nat → Int → Int → Int → Int → Option (Int)
  | 0, _, _, _, _ => none
  | k + 1, a0, a1, a2, x7_0 => if x7_0 < 64 then ((i_alfilref01_File.f k x7_0).bind fun t6 => ((i_alfilref01_File.f k a0).bind fun t7 => (if (wrap64 (t6 - t7)) = a1 then ((i_alfilref01_Rank.f k x7_0).bind fun t8 => ((i_alfilref01_Rank.f k a0).bind fun t9 => (if (wrap64 (t8 - t9)) = a2 then (some x7_0) else (i_alfilref01_Step.l0 k a0 a1 a2 (wrap64 (x7_0 + 1)))))) else (i_alfilref01_Step.l0 k a0 a1 a2 (wrap64 (x7_0 + 1)))))) else (some (-1))
def i_alfilref01_Step.f (k : Nat) (a0 : Int) (a1 : Int) (a2 : Int) : Option (Int) := (i_alfilref01_Right.f a0).bind fun t1 => (if t1 = true then (i_alfilref01_Step.l0 k a0 a1 a2 0) else (some (-1)))
set_option maxHeartbeats 40000000 in
set_option maxRecDepth 100000 in
theorem i_alfilref01_Step.calls (k : Nat) (a0 : Int) (a1 : Int) (a2 : Int) (r1 : Int) (w : World) (h : i_alfilref01_Step.f k a0 a1 a2 = some r1) :
    Calls Try.prog 54 #[.int .i64 a0, .int .i64 a1, .int .i64 a2] w fun e w' => e = .returned (.int .i64 r1) ∧ w = w' := by
 have H : ((i_alfilref01_Right.f a0).bind fun t1 => (if t1 = true then (i_alfilref01_Step.l0 k a0 a1 a2 0) else (some (-1)))) = some r1 := h
 clear h
 replace H := Option.bind_eq_some_iff.mp H
 obtain ⟨t1, A10_, H⟩ := H
 have A10 := hid A10_
 clear A10_
 cases t1 with
 | true =>
  rw [if_pos rfl] at H
  have H' := hid H
  clear H
  go_enter Try.func54, Try.ntmps54
  have k12 := True.intro
  go_wp2_with (first
   | (go_at_call 94; clear k12; refine (i_alfilref01_Right.calls a0 true _ A10.out).mono ?_; rintro e_ w' ⟨rfl, rfl⟩))
  (try simp only [Act.put, sI, sZ, sS])
  go_loopg [7] k (fun kq v7 w' => ∃ (x7_0 : Int), v7 = .int .i64 x7_0 ∧ Hid (i_alfilref01_Step.l0 kq a0 a1 a2 x7_0 = some r1) ∧ Hid (kq ≤ k) ∧ w = w')
  case atStart => exact ⟨(0 : Int), (by first | rfl | (simp; done) | (simp [*]; done)), H', (hid (by first | omega | (omega))), rfl⟩
  case round =>
   clear H'
   skip
   obtain ⟨x7_0, rfl, HA, HK13, rfl⟩ := hrel
   cases gk with
   | zero => exact absurd HA.out (by simp [i_alfilref01_Step.l0])
   | succ k14 =>
    have H := HA.out
    clear HA
    simp only [i_alfilref01_Step.l0] at H
    by_cases c15 : x7_0 < 64
    ·
     rw [if_pos c15] at H
     have c15b0 : decide (x7_0 < 64) = true := decide_eq_true c15
     have hc15 := hid c15
     clear c15
     replace H := Option.bind_eq_some_iff.mp H
     obtain ⟨t6, A16_, H⟩ := H
     have A16 := hid A16_
     clear A16_
     have H' := hid H
     clear H
     have k18 := True.intro
     go_wp2_with (first
      | (go_at_call 76; clear k18; refine (i_alfilref01_File.calls k14 x7_0 t6 _ A16.out).mono ?_; rintro e_ w' ⟨rfl, rfl⟩))
     (try simp only [Act.put, sI, sZ, sS])
     have H := H'.out
     clear H'
     replace H := Option.bind_eq_some_iff.mp H
     obtain ⟨t7, A17_, H⟩ := H
     have A17 := hid A17_
     clear A17_
     by_cases c19 : (wrap64 (t6 - t7)) = a1
     ·
      rw [if_pos c19] at H
      have c19b0 : ((wrap64 (t6 - t7)) == a1) = true := beq_iff_eq.mpr c19
      have c19b1 : ((wrap64 (t6 - t7)) != a1) = false := bne_eq_false_iff_eq.mpr c19
      have hc19 := hid c19
      clear c19
      have H' := hid H
      clear H
      have k21 := True.intro
      go_wp2_with (first
       | (go_at_call 76; clear k21; refine (i_alfilref01_File.calls k14 a0 t7 _ A17.out).mono ?_; rintro e_ w' ⟨rfl, rfl⟩))
      (try simp only [Act.put, sI, sZ, sS])
      have H := H'.out
      clear H'
      replace H := Option.bind_eq_some_iff.mp H
      obtain ⟨t8, A20_, H⟩ := H
      have A20 := hid A20_
      clear A20_
      have H' := hid H
      clear H
      have k23 := True.intro
      go_wp2_with (first
       | (go_at_call 77; clear k23; refine (i_alfilref01_Rank.calls k14 x7_0 t8 _ A20.out).mono ?_; rintro e_ w' ⟨rfl, rfl⟩))
      (try simp only [Act.put, sI, sZ, sS])
      have H := H'.out
      clear H'
      replace H := Option.bind_eq_some_iff.mp H
      obtain ⟨t9, A22_, H⟩ := H
      have A22 := hid A22_
      clear A22_
      by_cases c24 : (wrap64 (t8 - t9)) = a2
      ·
       rw [if_pos c24] at H
       have c24b0 : ((wrap64 (t8 - t9)) == a2) = true := beq_iff_eq.mpr c24
       have c24b1 : ((wrap64 (t8 - t9)) != a2) = false := bne_eq_false_iff_eq.mpr c24
       have hc24 := hid c24
       clear c24
       obtain rfl := Option.some.inj H
       clear H
       have k25 := True.intro
       go_wp2_with (first
        | (go_at_call 77; clear k25; refine (i_alfilref01_Rank.calls k14 a0 t9 _ A22.out).mono ?_; rintro e_ w' ⟨rfl, rfl⟩))
       (try simp only [Act.put, sI, sZ, sS])
       go_ret
       exact ⟨by first | rfl | (simp; done) | (simp [*]; done), rfl⟩
      ·
       rw [if_neg c24] at H
       have c24b0 : ((wrap64 (t8 - t9)) == a2) = false := beq_eq_false_iff_ne.mpr c24
       have c24b1 : ((wrap64 (t8 - t9)) != a2) = true := bne_iff_ne.mpr c24
       have hc24 := hid c24
       clear c24
       have H' := hid H
       clear H
       have k26 := True.intro
       go_wp2_with (first
        | (go_at_call 77; clear k26; refine (i_alfilref01_Rank.calls k14 a0 t9 _ A22.out).mono ?_; rintro e_ w' ⟨rfl, rfl⟩))
       (try simp only [Act.put, sI, sZ, sS])
       go_roundg k14
       case measure => have := HK13.out; omega
       case rel => exact ⟨wrap64 (x7_0 + 1), (by first | rfl | (simp; done) | (simp [*]; done)), H', (hid (by first | omega | (have := HK13.out; omega))), rfl⟩
     ·
      rw [if_neg c19] at H
      have c19b0 : ((wrap64 (t6 - t7)) == a1) = false := beq_eq_false_iff_ne.mpr c19
      have c19b1 : ((wrap64 (t6 - t7)) != a1) = true := bne_iff_ne.mpr c19
      have hc19 := hid c19
      clear c19
      have H' := hid H
      clear H
      have k27 := True.intro
      go_wp2_with (first
       | (go_at_call 76; clear k27; refine (i_alfilref01_File.calls k14 a0 t7 _ A17.out).mono ?_; rintro e_ w' ⟨rfl, rfl⟩))
      (try simp only [Act.put, sI, sZ, sS])
      go_roundg k14
      case measure => have := HK13.out; omega
      case rel => exact ⟨wrap64 (x7_0 + 1), (by first | rfl | (simp; done) | (simp [*]; done)), H', (hid (by first | omega | (have := HK13.out; omega))), rfl⟩
    ·
     rw [if_neg c15] at H
     have c15b0 : decide (x7_0 < 64) = false := decide_eq_false c15
     have hc15 := hid c15
     clear c15
     obtain rfl := Option.some.inj H
     clear H
     go_wp2_with fail
     (try simp only [Act.put, sI, sZ, sS])
     go_ret
     exact ⟨by first | rfl | (simp; done) | (simp [*]; done), rfl⟩
 | false =>
  rw [if_neg (show ¬ (false = true) by decide)] at H
  obtain rfl := Option.some.inj H
  clear H
  go_enter Try.func54, Try.ntmps54
  have k28 := True.intro
  go_wp2_with (first
   | (go_at_call 94; clear k28; refine (i_alfilref01_Right.calls a0 false _ A10.out).mono ?_; rintro e_ w' ⟨rfl, rfl⟩))
  (try simp only [Act.put, sI, sZ, sS])
  go_ret
  exact ⟨by first | rfl | (simp; done) | (simp [*]; done), rfl⟩
mutual
def i_alfilref06_Ray.l0 : Nat → Int → Int → List Int → Int → Option ((List Int))
  | 0, _, _, _, _ => none
  | k + 1, a1, a2, x7_0, x8_0 => if x8_0 ≥ 0 then (if x7_0.length < 17592186044416 then ((i_alfilref01_Step.f k x8_0 a1 a2).bind fun t7 => (i_alfilref06_Ray.l0 k a1 a2 (x7_0 ++ [x8_0]) t7)) else (none)) else (some x7_0)
def i_alfilref06_Ray.l1 : Nat → Int → Int → List Int → Int → Option ((List Int))
  | 0, _, _, _, _ => none
  | k + 1, a1, a2, x7_1, x8_1 => if x8_1 ≥ 0 then (if x7_1.length < 17592186044416 then ((i_alfilref01_Step.f k x8_1 a1 a2).bind fun t14 => (i_alfilref06_Ray.l1 k a1 a2 (x7_1 ++ [x8_1]) t14)) else (none)) else (some x7_1)
end
def i_alfilref06_Ray.f (k : Nat) (a0 : Int) (a1 : Int) (a2 : Int) : Option ((List Int)) := if a1 = 0 then (if a2 = 0 then (some ([] : List Int)) else ((i_alfilref01_Step.f k a0 a1 a2).bind fun t1 => (i_alfilref06_Ray.l0 k a1 a2 ([] : List Int) t1))) else ((i_alfilref01_Step.f k a0 a1 a2).bind fun t8 => (i_alfilref06_Ray.l1 k a1 a2 ([] : List Int) t8))
def i_alfilref06_Ray.post (r1 : List Int) (w : World) (e : Ending) (w' : World) : Prop := ∃ (u_r1 : Value), e = .returned (u_r1) ∧ Own w' w.heap.size 3 (u_r1) (r1.map (Value.int .i64)) ∧ Below w.heap.size w w'
set_option maxHeartbeats 40000000 in
set_option maxRecDepth 100000 in
theorem i_alfilref06_Ray.calls (k : Nat) (a0 : Int) (a1 : Int) (a2 : Int) (r1 : List Int) (w : World) (h : i_alfilref06_Ray.f k a0 a1 a2 = some r1) :
    Calls Try.prog 20 #[.int .i64 a0, .int .i64 a1, .int .i64 a2] w (i_alfilref06_Ray.post r1 w) := by
 have HL := hid (Below.refl w.heap.size w)
 have H : (if a1 = 0 then (if a2 = 0 then (some ([] : List Int)) else ((i_alfilref01_Step.f k a0 a1 a2).bind fun t1 => (i_alfilref06_Ray.l0 k a1 a2 ([] : List Int) t1))) else ((i_alfilref01_Step.f k a0 a1 a2).bind fun t8 => (i_alfilref06_Ray.l1 k a1 a2 ([] : List Int) t8))) = some r1 := h
 clear h
 by_cases c15 : a1 = 0
 ·
  rw [if_pos c15] at H
  have c15b0 : (a1 == 0) = true := beq_iff_eq.mpr c15
  have c15b1 : (a1 != 0) = false := bne_eq_false_iff_eq.mpr c15
  have hc15 := hid c15
  clear c15
  by_cases c16 : a2 = 0
  ·
   rw [if_pos c16] at H
   have c16b0 : (a2 == 0) = true := beq_iff_eq.mpr c16
   have c16b1 : (a2 != 0) = false := bne_eq_false_iff_eq.mpr c16
   have hc16 := hid c16
   clear c16
   obtain rfl := Option.some.inj H
   clear H
   go_enter Try.func20, Try.ntmps20
   go_wp2_with fail
   (try simp only [Act.put, sI, sZ, sS])
   go_ret
   exact ⟨_, rfl, (Own.nil _ _ _), HL.out⟩
  ·
   rw [if_neg c16] at H
   have c16b0 : (a2 == 0) = false := beq_eq_false_iff_ne.mpr c16
   have c16b1 : (a2 != 0) = true := bne_iff_ne.mpr c16
   have hc16 := hid c16
   clear c16
   replace H := Option.bind_eq_some_iff.mp H
   obtain ⟨t1, A17_, H⟩ := H
   have A17 := hid A17_
   clear A17_
   have H' := hid H
   clear H
   go_enter Try.func20, Try.ntmps20
   have k18 := True.intro
   go_wp2_with (first
    | (go_at_call 54; clear k18; refine (i_alfilref01_Step.calls k a0 a1 a2 t1 _ A17.out).mono ?_; rintro e_ w' ⟨rfl, rfl⟩))
   (try simp only [Act.put, sI, sZ, sS])
   go_loopg [7, 8] k (fun kq v7 v8 w' => ∃ (x7_0 : List Int) (ux7_0 : Value) (x8_0 : Int), ux7_0 = v7 ∧ v8 = .int .i64 x8_0 ∧ Hid (i_alfilref06_Ray.l0 kq a1 a2 x7_0 x8_0 = some r1) ∧ Hid (kq ≤ k) ∧ Hid (Own w' w.heap.size 3 (ux7_0) (x7_0.map (Value.int .i64))) ∧ Hid (Below w.heap.size w w'))
   case atStart => exact ⟨([] : List Int), (.slice none 0 0), t1, (by first | rfl | (simp; done) | (simp [*]; done)), (by first | rfl | (simp; done) | (simp [*]; done)), H', (hid (by first | omega | (omega))), (hid (Own.nil _ _ _)), HL⟩
   case round =>
    clear H'
    clear HL
    obtain ⟨x7_0, ux7_0, x8_0, rfl, rfl, HA, HK19, SWx7_0, HL⟩ := hrel
    cases gk with
    | zero => exact absurd HA.out (by simp [i_alfilref06_Ray.l0])
    | succ k20 =>
     have H := HA.out
     clear HA
     simp only [i_alfilref06_Ray.l0] at H
     by_cases c21 : x8_0 ≥ 0
     ·
      rw [if_pos c21] at H
      have c21b0 : decide (0 ≤ x8_0) = true := decide_eq_true c21
      have hc21 := hid c21
      clear c21
      by_cases c22 : x7_0.length < 17592186044416
      ·
       rw [if_pos c22] at H
       have c22b0 : decide (x7_0.length < 17592186044416) = true := decide_eq_true c22
       have hc22 := hid c22
       clear c22
       replace H := Option.bind_eq_some_iff.mp H
       obtain ⟨t7, A23_, H⟩ := H
       have A23 := hid A23_
       clear A23_
       have H' := hid H
       clear H
       have k26 := True.intro
       have k27 := True.intro
       go_wp2_with (first
        | ((with_reducible refine gate_d (N := 28) rfl ?_); obtain ⟨gb5, hgb5⟩ : ∃ g_, wr.heap.size = g_ := ⟨_, rfl⟩; refine ag_lit sT3 (.int .i64 x8_0) gb5 hgb5 rfl _ rfl rfl (fun w_ => by kernel_rfl) ?_; intro w24 hb_ hB_ hs_; have GEb5 : Hid (w.heap.size ≤ gb5) := hid (by have := HL.out.size; omega); replace SWx7_0 := hid (SWx7_0.out.below (by rw [hgb5]; exact hb_)); replace HL := hid (HL.out.trans (hb_.mono GEb5.out)); have BKb5 := hid hB_; clear hb_ hB_ hs_ hgb5)
        | (at_builtin; clear k26; refine app_one eT27 w.heap.size (ux7_0) (x7_0.map (Value.int .i64)) (.int .i64 x8_0) gb5 1 SWx7_0.out BKb5.out rfl (by have h_ := hc22.out; rw [List.length_map]; omega) (by have h_ := hc22.out; rw [List.length_map]; unfold maxLen; omega) HL.out.size rfl _ _ rfl rfl rfl ?_; intro uo6 w25 ho_ hb_ hk_ hi_; clear SWx7_0; have SWo6 : Hid (Own w25 w.heap.size 3 (uo6) ((x7_0 ++ [x8_0]).map (Value.int .i64))) := hid (by rw [List.map_append]; exact ho_); replace HL := hid (HL.out.trans hb_); clear ho_ hb_ hk_ hi_ BKb5)
        | (go_at_call 54; clear k27; refine (i_alfilref01_Step.calls k20 x8_0 a1 a2 t7 _ A23.out).mono ?_; rintro e_ w' ⟨rfl, rfl⟩))
       (try simp only [Act.put, sI, sZ, sS])
       go_roundg k20
       case measure => have := HK19.out; omega
       case rel => exact ⟨x7_0 ++ [x8_0], (uo6), t7, (by first | rfl | (simp; done) | (simp [*]; done)), (by first | rfl | (simp; done) | (simp [*]; done)), H', (hid (by first | omega | (have := HK19.out; omega))), SWo6, HL⟩
      ·
       rw [if_neg c22] at H
       exact absurd H (by simp)
     ·
      rw [if_neg c21] at H
      have c21b0 : decide (0 ≤ x8_0) = false := decide_eq_false c21
      have hc21 := hid c21
      clear c21
      obtain rfl := Option.some.inj H
      clear H
      go_wp2_with fail
      (try simp only [Act.put, sI, sZ, sS])
      go_ret
      exact ⟨_, rfl, (by exact SWx7_0.out), HL.out⟩
 ·
  rw [if_neg c15] at H
  have c15b0 : (a1 == 0) = false := beq_eq_false_iff_ne.mpr c15
  have c15b1 : (a1 != 0) = true := bne_iff_ne.mpr c15
  have hc15 := hid c15
  clear c15
  replace H := Option.bind_eq_some_iff.mp H
  obtain ⟨t8, A28_, H⟩ := H
  have A28 := hid A28_
  clear A28_
  have H' := hid H
  clear H
  go_enter Try.func20, Try.ntmps20
  have k29 := True.intro
  go_wp2_with (first
   | (go_at_call 54; clear k29; refine (i_alfilref01_Step.calls k a0 a1 a2 t8 _ A28.out).mono ?_; rintro e_ w' ⟨rfl, rfl⟩))
  (try simp only [Act.put, sI, sZ, sS])
  go_loopg [7, 8] k (fun kq v7 v8 w' => ∃ (x7_1 : List Int) (ux7_1 : Value) (x8_1 : Int), ux7_1 = v7 ∧ v8 = .int .i64 x8_1 ∧ Hid (i_alfilref06_Ray.l1 kq a1 a2 x7_1 x8_1 = some r1) ∧ Hid (kq ≤ k) ∧ Hid (Own w' w.heap.size 3 (ux7_1) (x7_1.map (Value.int .i64))) ∧ Hid (Below w.heap.size w w'))
  case atStart => exact ⟨([] : List Int), (.slice none 0 0), t8, (by first | rfl | (simp; done) | (simp [*]; done)), (by first | rfl | (simp; done) | (simp [*]; done)), H', (hid (by first | omega | (omega))), (hid (Own.nil _ _ _)), HL⟩
  case round =>
   clear H'
   clear HL
   obtain ⟨x7_1, ux7_1, x8_1, rfl, rfl, HA, HK30, SWx7_1, HL⟩ := hrel
   cases gk with
   | zero => exact absurd HA.out (by simp [i_alfilref06_Ray.l1])
   | succ k31 =>
    have H := HA.out
    clear HA
    simp only [i_alfilref06_Ray.l1] at H
    by_cases c32 : x8_1 ≥ 0
    ·
     rw [if_pos c32] at H
     have c32b0 : decide (0 ≤ x8_1) = true := decide_eq_true c32
     have hc32 := hid c32
     clear c32
     by_cases c33 : x7_1.length < 17592186044416
     ·
      rw [if_pos c33] at H
      have c33b0 : decide (x7_1.length < 17592186044416) = true := decide_eq_true c33
      have hc33 := hid c33
      clear c33
      replace H := Option.bind_eq_some_iff.mp H
      obtain ⟨t14, A34_, H⟩ := H
      have A34 := hid A34_
      clear A34_
      have H' := hid H
      clear H
      have k37 := True.intro
      have k38 := True.intro
      go_wp2_with (first
       | ((with_reducible refine gate_d (N := 28) rfl ?_); obtain ⟨gb12, hgb12⟩ : ∃ g_, wr.heap.size = g_ := ⟨_, rfl⟩; refine ag_lit sT3 (.int .i64 x8_1) gb12 hgb12 rfl _ rfl rfl (fun w_ => by kernel_rfl) ?_; intro w35 hb_ hB_ hs_; have GEb12 : Hid (w.heap.size ≤ gb12) := hid (by have := HL.out.size; omega); replace SWx7_1 := hid (SWx7_1.out.below (by rw [hgb12]; exact hb_)); replace HL := hid (HL.out.trans (hb_.mono GEb12.out)); have BKb12 := hid hB_; clear hb_ hB_ hs_ hgb12)
       | (at_builtin; clear k37; refine app_one eT27 w.heap.size (ux7_1) (x7_1.map (Value.int .i64)) (.int .i64 x8_1) gb12 1 SWx7_1.out BKb12.out rfl (by have h_ := hc33.out; rw [List.length_map]; omega) (by have h_ := hc33.out; rw [List.length_map]; unfold maxLen; omega) HL.out.size rfl _ _ rfl rfl rfl ?_; intro uo13 w36 ho_ hb_ hk_ hi_; clear SWx7_1; have SWo13 : Hid (Own w36 w.heap.size 3 (uo13) ((x7_1 ++ [x8_1]).map (Value.int .i64))) := hid (by rw [List.map_append]; exact ho_); replace HL := hid (HL.out.trans hb_); clear ho_ hb_ hk_ hi_ BKb12)
       | (go_at_call 54; clear k38; refine (i_alfilref01_Step.calls k31 x8_1 a1 a2 t14 _ A34.out).mono ?_; rintro e_ w' ⟨rfl, rfl⟩))
      (try simp only [Act.put, sI, sZ, sS])
      go_roundg k31
      case measure => have := HK30.out; omega
      case rel => exact ⟨x7_1 ++ [x8_1], (uo13), t14, (by first | rfl | (simp; done) | (simp [*]; done)), (by first | rfl | (simp; done) | (simp [*]; done)), H', (hid (by first | omega | (have := HK30.out; omega))), SWo13, HL⟩
     ·
      rw [if_neg c33] at H
      exact absurd H (by simp)
    ·
     rw [if_neg c32] at H
     have c32b0 : decide (0 ≤ x8_1) = false := decide_eq_false c32
     have hc32 := hid c32
     clear c32
     obtain rfl := Option.some.inj H
     clear H
     go_wp2_with fail
     (try simp only [Act.put, sI, sZ, sS])
     go_ret
     exact ⟨_, rfl, (by exact SWx7_1.out), HL.out⟩
def i_alfilref06_Steps.f (k : Nat) (a0 : Int) : Option ((List Int)) := (i_alfilref02_Kind.f k a0).bind fun t3 => (if t3 = 1 then (if 0 < [1, a0, (-1), a0].length then (if [1, a0, (-1), a0].length < 17592186044416 then (some [1, a0, (-1), a0]) else (none)) else (none)) else (if t3 = 2 then (if 0 < [1, 2, 2, 1, 2, (-1), 1, (-2)].length then (if [1, 2, 2, 1, 2, (-1), 1, (-2)].length < 17592186044416 then (if 0 < [(-1), (-2), (-2), (-1), (-2), 1, (-1), 2].length then (if [1, 2, 2, 1, 2, (-1), 1, (-2)].length + [(-1), (-2), (-2), (-1), (-2), 1, (-1), 2].length < 17592186044416 then (some ([1, 2, 2, 1, 2, (-1), 1, (-2)] ++ [(-1), (-2), (-2), (-1), (-2), 1, (-1), 2])) else (none)) else (none)) else (none)) else (none)) else (if t3 = 3 then (if 0 < [1, 1, 1, (-1), (-1), (-1), (-1), 1].length then (if [1, 1, 1, (-1), (-1), (-1), (-1), 1].length < 17592186044416 then (some [1, 1, 1, (-1), (-1), (-1), (-1), 1]) else (none)) else (none)) else (if t3 = 4 then (if 0 < [0, 1, 1, 0, 0, (-1), (-1), 0].length then (if [0, 1, 1, 0, 0, (-1), (-1), 0].length < 17592186044416 then (some [0, 1, 1, 0, 0, (-1), (-1), 0]) else (none)) else (none)) else (if t3 = 5 then (if 0 < [0, 1, 1, 0, 0, (-1), (-1), 0].length then (if [0, 1, 1, 0, 0, (-1), (-1), 0].length < 17592186044416 then (if 0 < [1, 1, 1, (-1), (-1), (-1), (-1), 1].length then (if [0, 1, 1, 0, 0, (-1), (-1), 0].length + [1, 1, 1, (-1), (-1), (-1), (-1), 1].length < 17592186044416 then (some ([0, 1, 1, 0, 0, (-1), (-1), 0] ++ [1, 1, 1, (-1), (-1), (-1), (-1), 1])) else (none)) else (none)) else (none)) else (none)) else (if t3 = 6 then (if 0 < [0, 1, 1, 0, 0, (-1), (-1), 0].length then (if [0, 1, 1, 0, 0, (-1), (-1), 0].length < 17592186044416 then (if 0 < [1, 1, 1, (-1), (-1), (-1), (-1), 1].length then (if [0, 1, 1, 0, 0, (-1), (-1), 0].length + [1, 1, 1, (-1), (-1), (-1), (-1), 1].length < 17592186044416 then (some ([0, 1, 1, 0, 0, (-1), (-1), 0] ++ [1, 1, 1, (-1), (-1), (-1), (-1), 1])) else (none)) else (none)) else (none)) else (none)) else (some ([] : List Int))))))))
def i_alfilref06_Steps.post (r1 : List Int) (w : World) (e : Ending) (w' : World) : Prop := ∃ (u_r1 : Value), e = .returned (u_r1) ∧ Own w' w.heap.size 3 (u_r1) (r1.map (Value.int .i64)) ∧ Below w.heap.size w w'
set_option maxHeartbeats 40000000 in
set_option maxRecDepth 100000 in
theorem i_alfilref06_Steps.calls (k : Nat) (a0 : Int) (r1 : List Int) (w : World) (h : i_alfilref06_Steps.f k a0 = some r1) :
    Calls Try.prog 95 #[.int .i64 a0] w (i_alfilref06_Steps.post r1 w) := by
 have HL := hid (Below.refl w.heap.size w)
 have H : ((i_alfilref02_Kind.f k a0).bind fun t3 => (if t3 = 1 then (if 0 < [1, a0, (-1), a0].length then (if [1, a0, (-1), a0].length < 17592186044416 then (some [1, a0, (-1), a0]) else (none)) else (none)) else (if t3 = 2 then (if 0 < [1, 2, 2, 1, 2, (-1), 1, (-2)].length then (if [1, 2, 2, 1, 2, (-1), 1, (-2)].length < 17592186044416 then (if 0 < [(-1), (-2), (-2), (-1), (-2), 1, (-1), 2].length then (if [1, 2, 2, 1, 2, (-1), 1, (-2)].length + [(-1), (-2), (-2), (-1), (-2), 1, (-1), 2].length < 17592186044416 then (some ([1, 2, 2, 1, 2, (-1), 1, (-2)] ++ [(-1), (-2), (-2), (-1), (-2), 1, (-1), 2])) else (none)) else (none)) else (none)) else (none)) else (if t3 = 3 then (if 0 < [1, 1, 1, (-1), (-1), (-1), (-1), 1].length then (if [1, 1, 1, (-1), (-1), (-1), (-1), 1].length < 17592186044416 then (some [1, 1, 1, (-1), (-1), (-1), (-1), 1]) else (none)) else (none)) else (if t3 = 4 then (if 0 < [0, 1, 1, 0, 0, (-1), (-1), 0].length then (if [0, 1, 1, 0, 0, (-1), (-1), 0].length < 17592186044416 then (some [0, 1, 1, 0, 0, (-1), (-1), 0]) else (none)) else (none)) else (if t3 = 5 then (if 0 < [0, 1, 1, 0, 0, (-1), (-1), 0].length then (if [0, 1, 1, 0, 0, (-1), (-1), 0].length < 17592186044416 then (if 0 < [1, 1, 1, (-1), (-1), (-1), (-1), 1].length then (if [0, 1, 1, 0, 0, (-1), (-1), 0].length + [1, 1, 1, (-1), (-1), (-1), (-1), 1].length < 17592186044416 then (some ([0, 1, 1, 0, 0, (-1), (-1), 0] ++ [1, 1, 1, (-1), (-1), (-1), (-1), 1])) else (none)) else (none)) else (none)) else (none)) else (if t3 = 6 then (if 0 < [0, 1, 1, 0, 0, (-1), (-1), 0].length then (if [0, 1, 1, 0, 0, (-1), (-1), 0].length < 17592186044416 then (if 0 < [1, 1, 1, (-1), (-1), (-1), (-1), 1].length then (if [0, 1, 1, 0, 0, (-1), (-1), 0].length + [1, 1, 1, (-1), (-1), (-1), (-1), 1].length < 17592186044416 then (some ([0, 1, 1, 0, 0, (-1), (-1), 0] ++ [1, 1, 1, (-1), (-1), (-1), (-1), 1])) else (none)) else (none)) else (none)) else (none)) else (some ([] : List Int))))))))) = some r1 := h
 clear h
 replace H := Option.bind_eq_some_iff.mp H
 obtain ⟨t3, A16_, H⟩ := H
 have A16 := hid A16_
 clear A16_
 by_cases c17 : t3 = 1
 ·
  rw [if_pos c17] at H
  have c17b0 : (t3 == 1) = true := beq_iff_eq.mpr c17
  have c17b1 : (t3 != 1) = false := bne_eq_false_iff_eq.mpr c17
  have hc17 := hid c17
  clear c17
  by_cases c18 : 0 < [1, a0, (-1), a0].length
  ·
   rw [if_pos c18] at H
   have c18b0 : decide (0 < [1, a0, (-1), a0].length) = true := decide_eq_true c18
   have hc18 := hid c18
   clear c18
   by_cases c19 : [1, a0, (-1), a0].length < 17592186044416
   ·
    rw [if_pos c19] at H
    have c19b0 : decide ([1, a0, (-1), a0].length < 17592186044416) = true := decide_eq_true c19
    have hc19 := hid c19
    clear c19
    obtain rfl := Option.some.inj H
    clear H
    go_enter Try.func95, Try.ntmps95
    have k22 := True.intro
    have k25 := True.intro
    go_wp2_with (first
     | ((with_reducible refine gate_d (N := 6) rfl ?_); obtain ⟨go1, hgo1⟩ : ∃ g_, w.heap.size = g_ := ⟨_, rfl⟩; refine ag_litn (e := 3) 8 #[.int .i64 0, .int .i64 1, .int .i64 1, .int .i64 0, .int .i64 0, .int .i64 (-1), .int .i64 (-1), .int .i64 0] go1 hgo1 rfl _ rfl (fun w_ => by (try simp only [List.map_toArray, List.map_cons, List.map_nil]); kernel_rfl) ?_; intro w20 hb_ hB_ hs_; have GEo1 : Hid (w.heap.size ≤ go1) := hid (by have := HL.out.size; omega); replace HL := hid (HL.out.trans (hb_.mono GEo1.out)); have BKo1 := hid hB_; clear hb_ hB_ hs_ hgo1; obtain ⟨uo1, hu_⟩ : ∃ u_, u_ = (Value.slice (some ⟨go1, 0, none⟩) 8 8) := ⟨_, rfl⟩; have SWo1 : Hid (Own w20 w.heap.size 3 (uo1) ([0, 1, 1, 0, 0, (-1), (-1), 0].map (Value.int .i64))) := hid (by rw [hu_]; exact Own.lit GEo1.out BKo1.out rfl (by simp [maxLen])); rw [← hu_]; clear hu_ BKo1)
     | ((with_reducible refine gate_d (N := 7) rfl ?_); obtain ⟨go2, hgo2⟩ : ∃ g_, w20.heap.size = g_ := ⟨_, rfl⟩; refine ag_litn (e := 3) 8 #[.int .i64 1, .int .i64 1, .int .i64 1, .int .i64 (-1), .int .i64 (-1), .int .i64 (-1), .int .i64 (-1), .int .i64 1] go2 hgo2 rfl _ rfl (fun w_ => by (try simp only [List.map_toArray, List.map_cons, List.map_nil]); kernel_rfl) ?_; intro w21 hb_ hB_ hs_; have GEo2 : Hid (w.heap.size ≤ go2) := hid (by have := HL.out.size; omega); replace SWo1 := hid (SWo1.out.below (by rw [hgo2]; exact hb_)); replace HL := hid (HL.out.trans (hb_.mono GEo2.out)); have BKo2 := hid hB_; clear hb_ hB_ hs_ hgo2; obtain ⟨uo2, hu_⟩ : ∃ u_, u_ = (Value.slice (some ⟨go2, 0, none⟩) 8 8) := ⟨_, rfl⟩; have SWo2 : Hid (Own w21 w.heap.size 3 (uo2) ([1, 1, 1, (-1), (-1), (-1), (-1), 1].map (Value.int .i64))) := hid (by rw [hu_]; exact Own.lit GEo2.out BKo2.out rfl (by simp [maxLen])); rw [← hu_]; clear hu_ BKo2)
     | (go_at_call 64; clear k22; refine (i_alfilref02_Kind.calls k a0 t3 _ A16.out).mono ?_; rintro e_ w' ⟨rfl, rfl⟩)
     | ((with_reducible refine gate_d (N := 15) rfl ?_); obtain ⟨go4, hgo4⟩ : ∃ g_, w21.heap.size = g_ := ⟨_, rfl⟩; refine ag_litn (e := 3) 4 #[.int .i64 1, .int .i64 a0, .int .i64 (-1), .int .i64 a0] go4 hgo4 rfl _ rfl (fun w_ => by (try simp only [List.map_toArray, List.map_cons, List.map_nil]); kernel_rfl) ?_; intro w23 hb_ hB_ hs_; have GEo4 : Hid (w.heap.size ≤ go4) := hid (by have := HL.out.size; omega); replace SWo1 := hid (SWo1.out.below (by rw [hgo4]; exact hb_)); replace SWo2 := hid (SWo2.out.below (by rw [hgo4]; exact hb_)); replace HL := hid (HL.out.trans (hb_.mono GEo4.out)); have BKo4 := hid hB_; clear hb_ hB_ hs_ hgo4; obtain ⟨uo4, hu_⟩ : ∃ u_, u_ = (Value.slice (some ⟨go4, 0, none⟩) 4 4) := ⟨_, rfl⟩; have SWo4 : Hid (Own w23 w.heap.size 3 (uo4) ([1, a0, (-1), a0].map (Value.int .i64))) := hid (by rw [hu_]; exact Own.lit GEo4.out BKo4.out rfl (by simp [maxLen])); rw [← hu_]; clear hu_ BKo4)
     | (at_builtin; clear k25; refine app_src eT27 w23.heap.size (.slice none 0 0) (uo4) [] ([1, a0, (-1), a0].map (Value.int .i64)) (Own.nil _ _ _) SWo4.out.sl (by have h1_ := hc18.out; rw [List.length_map]; omega) (by intro u_ hu_; rw [List.mem_map] at hu_; obtain ⟨_, _, rfl⟩ := hu_; rfl) (by have h1_ := hc18.out; have h2_ := hc19.out; simp only [List.length_map, List.length_nil]; omega) (by have h1_ := hc18.out; have h2_ := hc19.out; simp only [List.length_map, List.length_nil]; unfold maxLen; omega) (Nat.le_refl _) rfl _ _ rfl rfl rfl ?_; intro uo5 w24 ho_ hb_ hk_ hi_; replace ho_ := ho_.mono HL.out.size; have SWo5 : Hid (Own w24 w.heap.size 3 (uo5) ([1, a0, (-1), a0].map (Value.int .i64))) := hid (by rw [List.nil_append] at ho_; exact ho_); replace SWo1 := hid (SWo1.out.below hb_); replace SWo2 := hid (SWo2.out.below hb_); replace SWo4 := hid (SWo4.out.below hb_); replace HL := hid (HL.out.trans (hb_.mono HL.out.size)); clear ho_ hb_ hk_ hi_))
    (try simp only [Act.put, sI, sZ, sS])
    go_ret
    exact ⟨_, rfl, (by exact SWo5.out), HL.out⟩
   ·
    rw [if_neg c19] at H
    exact absurd H (by simp)
  ·
   rw [if_neg c18] at H
   exact absurd H (by simp)
 ·
  rw [if_neg c17] at H
  have c17b0 : (t3 == 1) = false := beq_eq_false_iff_ne.mpr c17
  have c17b1 : (t3 != 1) = true := bne_iff_ne.mpr c17
  have hc17 := hid c17
  clear c17
  by_cases c26 : t3 = 2
  ·
   rw [if_pos c26] at H
   have c26b0 : (t3 == 2) = true := beq_iff_eq.mpr c26
   have c26b1 : (t3 != 2) = false := bne_eq_false_iff_eq.mpr c26
   have hc26 := hid c26
   clear c26
   by_cases c27 : 0 < [1, 2, 2, 1, 2, (-1), 1, (-2)].length
   ·
    rw [if_pos c27] at H
    have c27b0 : decide (0 < [1, 2, 2, 1, 2, (-1), 1, (-2)].length) = true := decide_eq_true c27
    have hc27 := hid c27
    clear c27
    by_cases c28 : [1, 2, 2, 1, 2, (-1), 1, (-2)].length < 17592186044416
    ·
     rw [if_pos c28] at H
     have c28b0 : decide ([1, 2, 2, 1, 2, (-1), 1, (-2)].length < 17592186044416) = true := decide_eq_true c28
     have hc28 := hid c28
     clear c28
     by_cases c29 : 0 < [(-1), (-2), (-2), (-1), (-2), 1, (-1), 2].length
     ·
      rw [if_pos c29] at H
      have c29b0 : decide (0 < [(-1), (-2), (-2), (-1), (-2), 1, (-1), 2].length) = true := decide_eq_true c29
      have hc29 := hid c29
      clear c29
      by_cases c30 : [1, 2, 2, 1, 2, (-1), 1, (-2)].length + [(-1), (-2), (-2), (-1), (-2), 1, (-1), 2].length < 17592186044416
      ·
       rw [if_pos c30] at H
       have c30b0 : decide ([1, 2, 2, 1, 2, (-1), 1, (-2)].length + [(-1), (-2), (-2), (-1), (-2), 1, (-1), 2].length < 17592186044416) = true := decide_eq_true c30
       have hc30 := hid c30
       clear c30
       obtain rfl := Option.some.inj H
       clear H
       go_enter Try.func95, Try.ntmps95
       have k33 := True.intro
       have k36 := True.intro
       have k39 := True.intro
       go_wp2_with (first
        | ((with_reducible refine gate_d (N := 6) rfl ?_); obtain ⟨go1, hgo1⟩ : ∃ g_, w.heap.size = g_ := ⟨_, rfl⟩; refine ag_litn (e := 3) 8 #[.int .i64 0, .int .i64 1, .int .i64 1, .int .i64 0, .int .i64 0, .int .i64 (-1), .int .i64 (-1), .int .i64 0] go1 hgo1 rfl _ rfl (fun w_ => by (try simp only [List.map_toArray, List.map_cons, List.map_nil]); kernel_rfl) ?_; intro w31 hb_ hB_ hs_; have GEo1 : Hid (w.heap.size ≤ go1) := hid (by have := HL.out.size; omega); replace HL := hid (HL.out.trans (hb_.mono GEo1.out)); have BKo1 := hid hB_; clear hb_ hB_ hs_ hgo1; obtain ⟨uo1, hu_⟩ : ∃ u_, u_ = (Value.slice (some ⟨go1, 0, none⟩) 8 8) := ⟨_, rfl⟩; have SWo1 : Hid (Own w31 w.heap.size 3 (uo1) ([0, 1, 1, 0, 0, (-1), (-1), 0].map (Value.int .i64))) := hid (by rw [hu_]; exact Own.lit GEo1.out BKo1.out rfl (by simp [maxLen])); rw [← hu_]; clear hu_ BKo1)
        | ((with_reducible refine gate_d (N := 7) rfl ?_); obtain ⟨go2, hgo2⟩ : ∃ g_, w31.heap.size = g_ := ⟨_, rfl⟩; refine ag_litn (e := 3) 8 #[.int .i64 1, .int .i64 1, .int .i64 1, .int .i64 (-1), .int .i64 (-1), .int .i64 (-1), .int .i64 (-1), .int .i64 1] go2 hgo2 rfl _ rfl (fun w_ => by (try simp only [List.map_toArray, List.map_cons, List.map_nil]); kernel_rfl) ?_; intro w32 hb_ hB_ hs_; have GEo2 : Hid (w.heap.size ≤ go2) := hid (by have := HL.out.size; omega); replace SWo1 := hid (SWo1.out.below (by rw [hgo2]; exact hb_)); replace HL := hid (HL.out.trans (hb_.mono GEo2.out)); have BKo2 := hid hB_; clear hb_ hB_ hs_ hgo2; obtain ⟨uo2, hu_⟩ : ∃ u_, u_ = (Value.slice (some ⟨go2, 0, none⟩) 8 8) := ⟨_, rfl⟩; have SWo2 : Hid (Own w32 w.heap.size 3 (uo2) ([1, 1, 1, (-1), (-1), (-1), (-1), 1].map (Value.int .i64))) := hid (by rw [hu_]; exact Own.lit GEo2.out BKo2.out rfl (by simp [maxLen])); rw [← hu_]; clear hu_ BKo2)
        | (go_at_call 64; clear k33; refine (i_alfilref02_Kind.calls k a0 t3 _ A16.out).mono ?_; rintro e_ w' ⟨rfl, rfl⟩)
        | ((with_reducible refine gate_d (N := 20) rfl ?_); obtain ⟨go6, hgo6⟩ : ∃ g_, w32.heap.size = g_ := ⟨_, rfl⟩; refine ag_litn (e := 3) 8 #[.int .i64 1, .int .i64 2, .int .i64 2, .int .i64 1, .int .i64 2, .int .i64 (-1), .int .i64 1, .int .i64 (-2)] go6 hgo6 rfl _ rfl (fun w_ => by (try simp only [List.map_toArray, List.map_cons, List.map_nil]); kernel_rfl) ?_; intro w34 hb_ hB_ hs_; have GEo6 : Hid (w.heap.size ≤ go6) := hid (by have := HL.out.size; omega); replace SWo1 := hid (SWo1.out.below (by rw [hgo6]; exact hb_)); replace SWo2 := hid (SWo2.out.below (by rw [hgo6]; exact hb_)); replace HL := hid (HL.out.trans (hb_.mono GEo6.out)); have BKo6 := hid hB_; clear hb_ hB_ hs_ hgo6; obtain ⟨uo6, hu_⟩ : ∃ u_, u_ = (Value.slice (some ⟨go6, 0, none⟩) 8 8) := ⟨_, rfl⟩; have SWo6 : Hid (Own w34 w.heap.size 3 (uo6) ([1, 2, 2, 1, 2, (-1), 1, (-2)].map (Value.int .i64))) := hid (by rw [hu_]; exact Own.lit GEo6.out BKo6.out rfl (by simp [maxLen])); rw [← hu_]; clear hu_ BKo6)
        | (at_builtin; clear k36; refine app_src eT27 w34.heap.size (.slice none 0 0) (uo6) [] ([1, 2, 2, 1, 2, (-1), 1, (-2)].map (Value.int .i64)) (Own.nil _ _ _) SWo6.out.sl (by have h1_ := hc27.out; rw [List.length_map]; omega) (by intro u_ hu_; rw [List.mem_map] at hu_; obtain ⟨_, _, rfl⟩ := hu_; rfl) (by have h1_ := hc27.out; have h2_ := hc28.out; simp only [List.length_map, List.length_nil]; omega) (by have h1_ := hc27.out; have h2_ := hc28.out; simp only [List.length_map, List.length_nil]; unfold maxLen; omega) (Nat.le_refl _) rfl _ _ rfl rfl rfl ?_; intro uo7 w35 ho_ hb_ hk_ hi_; replace ho_ := ho_.mono HL.out.size; have SWo7 : Hid (Own w35 w.heap.size 3 (uo7) ([1, 2, 2, 1, 2, (-1), 1, (-2)].map (Value.int .i64))) := hid (by rw [List.nil_append] at ho_; exact ho_); replace SWo1 := hid (SWo1.out.below hb_); replace SWo2 := hid (SWo2.out.below hb_); replace SWo6 := hid (SWo6.out.below hb_); replace HL := hid (HL.out.trans (hb_.mono HL.out.size)); clear ho_ hb_ hk_ hi_)
        | ((with_reducible refine gate_d (N := 23) rfl ?_); obtain ⟨go8, hgo8⟩ : ∃ g_, w35.heap.size = g_ := ⟨_, rfl⟩; refine ag_litn (e := 3) 8 #[.int .i64 (-1), .int .i64 (-2), .int .i64 (-2), .int .i64 (-1), .int .i64 (-2), .int .i64 1, .int .i64 (-1), .int .i64 2] go8 hgo8 rfl _ rfl (fun w_ => by (try simp only [List.map_toArray, List.map_cons, List.map_nil]); kernel_rfl) ?_; intro w37 hb_ hB_ hs_; have GEo8 : Hid (w.heap.size ≤ go8) := hid (by have := HL.out.size; omega); replace SWo1 := hid (SWo1.out.below (by rw [hgo8]; exact hb_)); replace SWo2 := hid (SWo2.out.below (by rw [hgo8]; exact hb_)); replace SWo6 := hid (SWo6.out.below (by rw [hgo8]; exact hb_)); replace SWo7 := hid (SWo7.out.below (by rw [hgo8]; exact hb_)); replace HL := hid (HL.out.trans (hb_.mono GEo8.out)); have BKo8 := hid hB_; clear hb_ hB_ hs_ hgo8; obtain ⟨uo8, hu_⟩ : ∃ u_, u_ = (Value.slice (some ⟨go8, 0, none⟩) 8 8) := ⟨_, rfl⟩; have SWo8 : Hid (Own w37 w.heap.size 3 (uo8) ([(-1), (-2), (-2), (-1), (-2), 1, (-1), 2].map (Value.int .i64))) := hid (by rw [hu_]; exact Own.lit GEo8.out BKo8.out rfl (by simp [maxLen])); rw [← hu_]; clear hu_ BKo8)
        | (at_builtin; clear k39; refine app_src eT27 w.heap.size (uo7) (uo8) ([1, 2, 2, 1, 2, (-1), 1, (-2)].map (Value.int .i64)) ([(-1), (-2), (-2), (-1), (-2), 1, (-1), 2].map (Value.int .i64)) SWo7.out SWo8.out.sl (by have h1_ := hc29.out; rw [List.length_map]; omega) (by intro u_ hu_; rw [List.mem_map] at hu_; obtain ⟨_, _, rfl⟩ := hu_; rfl) (by have h1_ := hc29.out; have h2_ := hc30.out; simp only [List.length_map]; omega) (by have h1_ := hc29.out; have h2_ := hc30.out; simp only [List.length_map]; unfold maxLen; omega) HL.out.size rfl _ _ rfl rfl rfl ?_; intro uo9 w38 ho_ hb_ hk_ hi_; clear SWo7; have SWo9 : Hid (Own w38 w.heap.size 3 (uo9) (([1, 2, 2, 1, 2, (-1), 1, (-2)] ++ [(-1), (-2), (-2), (-1), (-2), 1, (-1), 2]).map (Value.int .i64))) := hid (by rw [List.map_append]; exact ho_); clear SWo1; clear SWo2; clear SWo6; clear SWo8; replace HL := hid (HL.out.trans hb_); clear ho_ hb_ hk_ hi_))
       (try simp only [Act.put, sI, sZ, sS])
       go_ret
       exact ⟨_, rfl, (by exact SWo9.out), HL.out⟩
      ·
       rw [if_neg c30] at H
       exact absurd H (by simp)
     ·
      rw [if_neg c29] at H
      exact absurd H (by simp)
    ·
     rw [if_neg c28] at H
     exact absurd H (by simp)
   ·
    rw [if_neg c27] at H
    exact absurd H (by simp)
  ·
   rw [if_neg c26] at H
   have c26b0 : (t3 == 2) = false := beq_eq_false_iff_ne.mpr c26
   have c26b1 : (t3 != 2) = true := bne_iff_ne.mpr c26
   have hc26 := hid c26
   clear c26
   by_cases c40 : t3 = 3
   ·
    rw [if_pos c40] at H
    have c40b0 : (t3 == 3) = true := beq_iff_eq.mpr c40
    have c40b1 : (t3 != 3) = false := bne_eq_false_iff_eq.mpr c40
    have hc40 := hid c40
    clear c40
    by_cases c41 : 0 < [1, 1, 1, (-1), (-1), (-1), (-1), 1].length
    ·
     rw [if_pos c41] at H
     have c41b0 : decide (0 < [1, 1, 1, (-1), (-1), (-1), (-1), 1].length) = true := decide_eq_true c41
     have hc41 := hid c41
     clear c41
     by_cases c42 : [1, 1, 1, (-1), (-1), (-1), (-1), 1].length < 17592186044416
     ·
      rw [if_pos c42] at H
      have c42b0 : decide ([1, 1, 1, (-1), (-1), (-1), (-1), 1].length < 17592186044416) = true := decide_eq_true c42
      have hc42 := hid c42
      clear c42
      obtain rfl := Option.some.inj H
      clear H
      go_enter Try.func95, Try.ntmps95
      have k45 := True.intro
      have k47 := True.intro
      go_wp2_with (first
       | ((with_reducible refine gate_d (N := 6) rfl ?_); obtain ⟨go1, hgo1⟩ : ∃ g_, w.heap.size = g_ := ⟨_, rfl⟩; refine ag_litn (e := 3) 8 #[.int .i64 0, .int .i64 1, .int .i64 1, .int .i64 0, .int .i64 0, .int .i64 (-1), .int .i64 (-1), .int .i64 0] go1 hgo1 rfl _ rfl (fun w_ => by (try simp only [List.map_toArray, List.map_cons, List.map_nil]); kernel_rfl) ?_; intro w43 hb_ hB_ hs_; have GEo1 : Hid (w.heap.size ≤ go1) := hid (by have := HL.out.size; omega); replace HL := hid (HL.out.trans (hb_.mono GEo1.out)); have BKo1 := hid hB_; clear hb_ hB_ hs_ hgo1; obtain ⟨uo1, hu_⟩ : ∃ u_, u_ = (Value.slice (some ⟨go1, 0, none⟩) 8 8) := ⟨_, rfl⟩; have SWo1 : Hid (Own w43 w.heap.size 3 (uo1) ([0, 1, 1, 0, 0, (-1), (-1), 0].map (Value.int .i64))) := hid (by rw [hu_]; exact Own.lit GEo1.out BKo1.out rfl (by simp [maxLen])); rw [← hu_]; clear hu_ BKo1)
       | ((with_reducible refine gate_d (N := 7) rfl ?_); obtain ⟨go2, hgo2⟩ : ∃ g_, w43.heap.size = g_ := ⟨_, rfl⟩; refine ag_litn (e := 3) 8 #[.int .i64 1, .int .i64 1, .int .i64 1, .int .i64 (-1), .int .i64 (-1), .int .i64 (-1), .int .i64 (-1), .int .i64 1] go2 hgo2 rfl _ rfl (fun w_ => by (try simp only [List.map_toArray, List.map_cons, List.map_nil]); kernel_rfl) ?_; intro w44 hb_ hB_ hs_; have GEo2 : Hid (w.heap.size ≤ go2) := hid (by have := HL.out.size; omega); replace SWo1 := hid (SWo1.out.below (by rw [hgo2]; exact hb_)); replace HL := hid (HL.out.trans (hb_.mono GEo2.out)); have BKo2 := hid hB_; clear hb_ hB_ hs_ hgo2; obtain ⟨uo2, hu_⟩ : ∃ u_, u_ = (Value.slice (some ⟨go2, 0, none⟩) 8 8) := ⟨_, rfl⟩; have SWo2 : Hid (Own w44 w.heap.size 3 (uo2) ([1, 1, 1, (-1), (-1), (-1), (-1), 1].map (Value.int .i64))) := hid (by rw [hu_]; exact Own.lit GEo2.out BKo2.out rfl (by simp [maxLen])); rw [← hu_]; clear hu_ BKo2)
       | (go_at_call 64; clear k45; refine (i_alfilref02_Kind.calls k a0 t3 _ A16.out).mono ?_; rintro e_ w' ⟨rfl, rfl⟩)
       | (at_builtin; clear k47; refine app_src eT27 w44.heap.size (.slice none 0 0) (uo2) [] ([1, 1, 1, (-1), (-1), (-1), (-1), 1].map (Value.int .i64)) (Own.nil _ _ _) SWo2.out.sl (by have h1_ := hc41.out; rw [List.length_map]; omega) (by intro u_ hu_; rw [List.mem_map] at hu_; obtain ⟨_, _, rfl⟩ := hu_; rfl) (by have h1_ := hc41.out; have h2_ := hc42.out; simp only [List.length_map, List.length_nil]; omega) (by have h1_ := hc41.out; have h2_ := hc42.out; simp only [List.length_map, List.length_nil]; unfold maxLen; omega) (Nat.le_refl _) rfl _ _ rfl rfl rfl ?_; intro uo10 w46 ho_ hb_ hk_ hi_; replace ho_ := ho_.mono HL.out.size; have SWo10 : Hid (Own w46 w.heap.size 3 (uo10) ([1, 1, 1, (-1), (-1), (-1), (-1), 1].map (Value.int .i64))) := hid (by rw [List.nil_append] at ho_; exact ho_); replace SWo1 := hid (SWo1.out.below hb_); replace SWo2 := hid (SWo2.out.below hb_); replace HL := hid (HL.out.trans (hb_.mono HL.out.size)); clear ho_ hb_ hk_ hi_))
      (try simp only [Act.put, sI, sZ, sS])
      go_ret
      exact ⟨_, rfl, (by exact SWo10.out), HL.out⟩
     ·
      rw [if_neg c42] at H
      exact absurd H (by simp)
    ·
     rw [if_neg c41] at H
     exact absurd H (by simp)
   ·
    rw [if_neg c40] at H
    have c40b0 : (t3 == 3) = false := beq_eq_false_iff_ne.mpr c40
    have c40b1 : (t3 != 3) = true := bne_iff_ne.mpr c40
    have hc40 := hid c40
    clear c40
    by_cases c48 : t3 = 4
    ·
     rw [if_pos c48] at H
     have c48b0 : (t3 == 4) = true := beq_iff_eq.mpr c48
     have c48b1 : (t3 != 4) = false := bne_eq_false_iff_eq.mpr c48
     have hc48 := hid c48
     clear c48
     by_cases c49 : 0 < [0, 1, 1, 0, 0, (-1), (-1), 0].length
     ·
      rw [if_pos c49] at H
      have c49b0 : decide (0 < [0, 1, 1, 0, 0, (-1), (-1), 0].length) = true := decide_eq_true c49
      have hc49 := hid c49
      clear c49
      by_cases c50 : [0, 1, 1, 0, 0, (-1), (-1), 0].length < 17592186044416
      ·
       rw [if_pos c50] at H
       have c50b0 : decide ([0, 1, 1, 0, 0, (-1), (-1), 0].length < 17592186044416) = true := decide_eq_true c50
       have hc50 := hid c50
       clear c50
       obtain rfl := Option.some.inj H
       clear H
       go_enter Try.func95, Try.ntmps95
       have k53 := True.intro
       have k55 := True.intro
       go_wp2_with (first
        | ((with_reducible refine gate_d (N := 6) rfl ?_); obtain ⟨go1, hgo1⟩ : ∃ g_, w.heap.size = g_ := ⟨_, rfl⟩; refine ag_litn (e := 3) 8 #[.int .i64 0, .int .i64 1, .int .i64 1, .int .i64 0, .int .i64 0, .int .i64 (-1), .int .i64 (-1), .int .i64 0] go1 hgo1 rfl _ rfl (fun w_ => by (try simp only [List.map_toArray, List.map_cons, List.map_nil]); kernel_rfl) ?_; intro w51 hb_ hB_ hs_; have GEo1 : Hid (w.heap.size ≤ go1) := hid (by have := HL.out.size; omega); replace HL := hid (HL.out.trans (hb_.mono GEo1.out)); have BKo1 := hid hB_; clear hb_ hB_ hs_ hgo1; obtain ⟨uo1, hu_⟩ : ∃ u_, u_ = (Value.slice (some ⟨go1, 0, none⟩) 8 8) := ⟨_, rfl⟩; have SWo1 : Hid (Own w51 w.heap.size 3 (uo1) ([0, 1, 1, 0, 0, (-1), (-1), 0].map (Value.int .i64))) := hid (by rw [hu_]; exact Own.lit GEo1.out BKo1.out rfl (by simp [maxLen])); rw [← hu_]; clear hu_ BKo1)
        | ((with_reducible refine gate_d (N := 7) rfl ?_); obtain ⟨go2, hgo2⟩ : ∃ g_, w51.heap.size = g_ := ⟨_, rfl⟩; refine ag_litn (e := 3) 8 #[.int .i64 1, .int .i64 1, .int .i64 1, .int .i64 (-1), .int .i64 (-1), .int .i64 (-1), .int .i64 (-1), .int .i64 1] go2 hgo2 rfl _ rfl (fun w_ => by (try simp only [List.map_toArray, List.map_cons, List.map_nil]); kernel_rfl) ?_; intro w52 hb_ hB_ hs_; have GEo2 : Hid (w.heap.size ≤ go2) := hid (by have := HL.out.size; omega); replace SWo1 := hid (SWo1.out.below (by rw [hgo2]; exact hb_)); replace HL := hid (HL.out.trans (hb_.mono GEo2.out)); have BKo2 := hid hB_; clear hb_ hB_ hs_ hgo2; obtain ⟨uo2, hu_⟩ : ∃ u_, u_ = (Value.slice (some ⟨go2, 0, none⟩) 8 8) := ⟨_, rfl⟩; have SWo2 : Hid (Own w52 w.heap.size 3 (uo2) ([1, 1, 1, (-1), (-1), (-1), (-1), 1].map (Value.int .i64))) := hid (by rw [hu_]; exact Own.lit GEo2.out BKo2.out rfl (by simp [maxLen])); rw [← hu_]; clear hu_ BKo2)
        | (go_at_call 64; clear k53; refine (i_alfilref02_Kind.calls k a0 t3 _ A16.out).mono ?_; rintro e_ w' ⟨rfl, rfl⟩)
        | (at_builtin; clear k55; refine app_src eT27 w52.heap.size (.slice none 0 0) (uo1) [] ([0, 1, 1, 0, 0, (-1), (-1), 0].map (Value.int .i64)) (Own.nil _ _ _) SWo1.out.sl (by have h1_ := hc49.out; rw [List.length_map]; omega) (by intro u_ hu_; rw [List.mem_map] at hu_; obtain ⟨_, _, rfl⟩ := hu_; rfl) (by have h1_ := hc49.out; have h2_ := hc50.out; simp only [List.length_map, List.length_nil]; omega) (by have h1_ := hc49.out; have h2_ := hc50.out; simp only [List.length_map, List.length_nil]; unfold maxLen; omega) (Nat.le_refl _) rfl _ _ rfl rfl rfl ?_; intro uo11 w54 ho_ hb_ hk_ hi_; replace ho_ := ho_.mono HL.out.size; have SWo11 : Hid (Own w54 w.heap.size 3 (uo11) ([0, 1, 1, 0, 0, (-1), (-1), 0].map (Value.int .i64))) := hid (by rw [List.nil_append] at ho_; exact ho_); replace SWo1 := hid (SWo1.out.below hb_); replace SWo2 := hid (SWo2.out.below hb_); replace HL := hid (HL.out.trans (hb_.mono HL.out.size)); clear ho_ hb_ hk_ hi_))
       (try simp only [Act.put, sI, sZ, sS])
       go_ret
       exact ⟨_, rfl, (by exact SWo11.out), HL.out⟩
      ·
       rw [if_neg c50] at H
       exact absurd H (by simp)
     ·
      rw [if_neg c49] at H
      exact absurd H (by simp)
    ·
     rw [if_neg c48] at H
     have c48b0 : (t3 == 4) = false := beq_eq_false_iff_ne.mpr c48
     have c48b1 : (t3 != 4) = true := bne_iff_ne.mpr c48
     have hc48 := hid c48
     clear c48
     by_cases c56 : t3 = 5
     ·
      rw [if_pos c56] at H
      have c56b0 : (t3 == 5) = true := beq_iff_eq.mpr c56
      have c56b1 : (t3 != 5) = false := bne_eq_false_iff_eq.mpr c56
      have hc56 := hid c56
      clear c56
      by_cases c57 : 0 < [0, 1, 1, 0, 0, (-1), (-1), 0].length
      ·
       rw [if_pos c57] at H
       have c57b0 : decide (0 < [0, 1, 1, 0, 0, (-1), (-1), 0].length) = true := decide_eq_true c57
       have hc57 := hid c57
       clear c57
       by_cases c58 : [0, 1, 1, 0, 0, (-1), (-1), 0].length < 17592186044416
       ·
        rw [if_pos c58] at H
        have c58b0 : decide ([0, 1, 1, 0, 0, (-1), (-1), 0].length < 17592186044416) = true := decide_eq_true c58
        have hc58 := hid c58
        clear c58
        by_cases c59 : 0 < [1, 1, 1, (-1), (-1), (-1), (-1), 1].length
        ·
         rw [if_pos c59] at H
         have c59b0 : decide (0 < [1, 1, 1, (-1), (-1), (-1), (-1), 1].length) = true := decide_eq_true c59
         have hc59 := hid c59
         clear c59
         by_cases c60 : [0, 1, 1, 0, 0, (-1), (-1), 0].length + [1, 1, 1, (-1), (-1), (-1), (-1), 1].length < 17592186044416
         ·
          rw [if_pos c60] at H
          have c60b0 : decide ([0, 1, 1, 0, 0, (-1), (-1), 0].length + [1, 1, 1, (-1), (-1), (-1), (-1), 1].length < 17592186044416) = true := decide_eq_true c60
          have hc60 := hid c60
          clear c60
          obtain rfl := Option.some.inj H
          clear H
          go_enter Try.func95, Try.ntmps95
          have k63 := True.intro
          have k65 := True.intro
          have k67 := True.intro
          go_wp2_with (first
           | ((with_reducible refine gate_d (N := 6) rfl ?_); obtain ⟨go1, hgo1⟩ : ∃ g_, w.heap.size = g_ := ⟨_, rfl⟩; refine ag_litn (e := 3) 8 #[.int .i64 0, .int .i64 1, .int .i64 1, .int .i64 0, .int .i64 0, .int .i64 (-1), .int .i64 (-1), .int .i64 0] go1 hgo1 rfl _ rfl (fun w_ => by (try simp only [List.map_toArray, List.map_cons, List.map_nil]); kernel_rfl) ?_; intro w61 hb_ hB_ hs_; have GEo1 : Hid (w.heap.size ≤ go1) := hid (by have := HL.out.size; omega); replace HL := hid (HL.out.trans (hb_.mono GEo1.out)); have BKo1 := hid hB_; clear hb_ hB_ hs_ hgo1; obtain ⟨uo1, hu_⟩ : ∃ u_, u_ = (Value.slice (some ⟨go1, 0, none⟩) 8 8) := ⟨_, rfl⟩; have SWo1 : Hid (Own w61 w.heap.size 3 (uo1) ([0, 1, 1, 0, 0, (-1), (-1), 0].map (Value.int .i64))) := hid (by rw [hu_]; exact Own.lit GEo1.out BKo1.out rfl (by simp [maxLen])); rw [← hu_]; clear hu_ BKo1)
           | ((with_reducible refine gate_d (N := 7) rfl ?_); obtain ⟨go2, hgo2⟩ : ∃ g_, w61.heap.size = g_ := ⟨_, rfl⟩; refine ag_litn (e := 3) 8 #[.int .i64 1, .int .i64 1, .int .i64 1, .int .i64 (-1), .int .i64 (-1), .int .i64 (-1), .int .i64 (-1), .int .i64 1] go2 hgo2 rfl _ rfl (fun w_ => by (try simp only [List.map_toArray, List.map_cons, List.map_nil]); kernel_rfl) ?_; intro w62 hb_ hB_ hs_; have GEo2 : Hid (w.heap.size ≤ go2) := hid (by have := HL.out.size; omega); replace SWo1 := hid (SWo1.out.below (by rw [hgo2]; exact hb_)); replace HL := hid (HL.out.trans (hb_.mono GEo2.out)); have BKo2 := hid hB_; clear hb_ hB_ hs_ hgo2; obtain ⟨uo2, hu_⟩ : ∃ u_, u_ = (Value.slice (some ⟨go2, 0, none⟩) 8 8) := ⟨_, rfl⟩; have SWo2 : Hid (Own w62 w.heap.size 3 (uo2) ([1, 1, 1, (-1), (-1), (-1), (-1), 1].map (Value.int .i64))) := hid (by rw [hu_]; exact Own.lit GEo2.out BKo2.out rfl (by simp [maxLen])); rw [← hu_]; clear hu_ BKo2)
           | (go_at_call 64; clear k63; refine (i_alfilref02_Kind.calls k a0 t3 _ A16.out).mono ?_; rintro e_ w' ⟨rfl, rfl⟩)
           | (at_builtin; clear k65; refine app_src eT27 w62.heap.size (.slice none 0 0) (uo1) [] ([0, 1, 1, 0, 0, (-1), (-1), 0].map (Value.int .i64)) (Own.nil _ _ _) SWo1.out.sl (by have h1_ := hc57.out; rw [List.length_map]; omega) (by intro u_ hu_; rw [List.mem_map] at hu_; obtain ⟨_, _, rfl⟩ := hu_; rfl) (by have h1_ := hc57.out; have h2_ := hc58.out; simp only [List.length_map, List.length_nil]; omega) (by have h1_ := hc57.out; have h2_ := hc58.out; simp only [List.length_map, List.length_nil]; unfold maxLen; omega) (Nat.le_refl _) rfl _ _ rfl rfl rfl ?_; intro uo12 w64 ho_ hb_ hk_ hi_; replace ho_ := ho_.mono HL.out.size; have SWo12 : Hid (Own w64 w.heap.size 3 (uo12) ([0, 1, 1, 0, 0, (-1), (-1), 0].map (Value.int .i64))) := hid (by rw [List.nil_append] at ho_; exact ho_); replace SWo1 := hid (SWo1.out.below hb_); replace SWo2 := hid (SWo2.out.below hb_); replace HL := hid (HL.out.trans (hb_.mono HL.out.size)); clear ho_ hb_ hk_ hi_)
           | (at_builtin; clear k67; refine app_src eT27 w.heap.size (uo12) (uo2) ([0, 1, 1, 0, 0, (-1), (-1), 0].map (Value.int .i64)) ([1, 1, 1, (-1), (-1), (-1), (-1), 1].map (Value.int .i64)) SWo12.out SWo2.out.sl (by have h1_ := hc59.out; rw [List.length_map]; omega) (by intro u_ hu_; rw [List.mem_map] at hu_; obtain ⟨_, _, rfl⟩ := hu_; rfl) (by have h1_ := hc59.out; have h2_ := hc60.out; simp only [List.length_map]; omega) (by have h1_ := hc59.out; have h2_ := hc60.out; simp only [List.length_map]; unfold maxLen; omega) HL.out.size rfl _ _ rfl rfl rfl ?_; intro uo13 w66 ho_ hb_ hk_ hi_; clear SWo12; have SWo13 : Hid (Own w66 w.heap.size 3 (uo13) (([0, 1, 1, 0, 0, (-1), (-1), 0] ++ [1, 1, 1, (-1), (-1), (-1), (-1), 1]).map (Value.int .i64))) := hid (by rw [List.map_append]; exact ho_); clear SWo1; clear SWo2; replace HL := hid (HL.out.trans hb_); clear ho_ hb_ hk_ hi_))
          (try simp only [Act.put, sI, sZ, sS])
          go_ret
          exact ⟨_, rfl, (by exact SWo13.out), HL.out⟩
         ·
          rw [if_neg c60] at H
          exact absurd H (by simp)
        ·
         rw [if_neg c59] at H
         exact absurd H (by simp)
       ·
        rw [if_neg c58] at H
        exact absurd H (by simp)
      ·
       rw [if_neg c57] at H
       exact absurd H (by simp)
     ·
      rw [if_neg c56] at H
      have c56b0 : (t3 == 5) = false := beq_eq_false_iff_ne.mpr c56
      have c56b1 : (t3 != 5) = true := bne_iff_ne.mpr c56
      have hc56 := hid c56
      clear c56
      by_cases c68 : t3 = 6
      ·
       rw [if_pos c68] at H
       have c68b0 : (t3 == 6) = true := beq_iff_eq.mpr c68
       have c68b1 : (t3 != 6) = false := bne_eq_false_iff_eq.mpr c68
       have hc68 := hid c68
       clear c68
       by_cases c69 : 0 < [0, 1, 1, 0, 0, (-1), (-1), 0].length
       ·
        rw [if_pos c69] at H
        have c69b0 : decide (0 < [0, 1, 1, 0, 0, (-1), (-1), 0].length) = true := decide_eq_true c69
        have hc69 := hid c69
        clear c69
        by_cases c70 : [0, 1, 1, 0, 0, (-1), (-1), 0].length < 17592186044416
        ·
         rw [if_pos c70] at H
         have c70b0 : decide ([0, 1, 1, 0, 0, (-1), (-1), 0].length < 17592186044416) = true := decide_eq_true c70
         have hc70 := hid c70
         clear c70
         by_cases c71 : 0 < [1, 1, 1, (-1), (-1), (-1), (-1), 1].length
         ·
          rw [if_pos c71] at H
          have c71b0 : decide (0 < [1, 1, 1, (-1), (-1), (-1), (-1), 1].length) = true := decide_eq_true c71
          have hc71 := hid c71
          clear c71
          by_cases c72 : [0, 1, 1, 0, 0, (-1), (-1), 0].length + [1, 1, 1, (-1), (-1), (-1), (-1), 1].length < 17592186044416
          ·
           rw [if_pos c72] at H
           have c72b0 : decide ([0, 1, 1, 0, 0, (-1), (-1), 0].length + [1, 1, 1, (-1), (-1), (-1), (-1), 1].length < 17592186044416) = true := decide_eq_true c72
           have hc72 := hid c72
           clear c72
           obtain rfl := Option.some.inj H
           clear H
           go_enter Try.func95, Try.ntmps95
           have k75 := True.intro
           have k77 := True.intro
           have k79 := True.intro
           go_wp2_with (first
            | ((with_reducible refine gate_d (N := 6) rfl ?_); obtain ⟨go1, hgo1⟩ : ∃ g_, w.heap.size = g_ := ⟨_, rfl⟩; refine ag_litn (e := 3) 8 #[.int .i64 0, .int .i64 1, .int .i64 1, .int .i64 0, .int .i64 0, .int .i64 (-1), .int .i64 (-1), .int .i64 0] go1 hgo1 rfl _ rfl (fun w_ => by (try simp only [List.map_toArray, List.map_cons, List.map_nil]); kernel_rfl) ?_; intro w73 hb_ hB_ hs_; have GEo1 : Hid (w.heap.size ≤ go1) := hid (by have := HL.out.size; omega); replace HL := hid (HL.out.trans (hb_.mono GEo1.out)); have BKo1 := hid hB_; clear hb_ hB_ hs_ hgo1; obtain ⟨uo1, hu_⟩ : ∃ u_, u_ = (Value.slice (some ⟨go1, 0, none⟩) 8 8) := ⟨_, rfl⟩; have SWo1 : Hid (Own w73 w.heap.size 3 (uo1) ([0, 1, 1, 0, 0, (-1), (-1), 0].map (Value.int .i64))) := hid (by rw [hu_]; exact Own.lit GEo1.out BKo1.out rfl (by simp [maxLen])); rw [← hu_]; clear hu_ BKo1)
            | ((with_reducible refine gate_d (N := 7) rfl ?_); obtain ⟨go2, hgo2⟩ : ∃ g_, w73.heap.size = g_ := ⟨_, rfl⟩; refine ag_litn (e := 3) 8 #[.int .i64 1, .int .i64 1, .int .i64 1, .int .i64 (-1), .int .i64 (-1), .int .i64 (-1), .int .i64 (-1), .int .i64 1] go2 hgo2 rfl _ rfl (fun w_ => by (try simp only [List.map_toArray, List.map_cons, List.map_nil]); kernel_rfl) ?_; intro w74 hb_ hB_ hs_; have GEo2 : Hid (w.heap.size ≤ go2) := hid (by have := HL.out.size; omega); replace SWo1 := hid (SWo1.out.below (by rw [hgo2]; exact hb_)); replace HL := hid (HL.out.trans (hb_.mono GEo2.out)); have BKo2 := hid hB_; clear hb_ hB_ hs_ hgo2; obtain ⟨uo2, hu_⟩ : ∃ u_, u_ = (Value.slice (some ⟨go2, 0, none⟩) 8 8) := ⟨_, rfl⟩; have SWo2 : Hid (Own w74 w.heap.size 3 (uo2) ([1, 1, 1, (-1), (-1), (-1), (-1), 1].map (Value.int .i64))) := hid (by rw [hu_]; exact Own.lit GEo2.out BKo2.out rfl (by simp [maxLen])); rw [← hu_]; clear hu_ BKo2)
            | (go_at_call 64; clear k75; refine (i_alfilref02_Kind.calls k a0 t3 _ A16.out).mono ?_; rintro e_ w' ⟨rfl, rfl⟩)
            | (at_builtin; clear k77; refine app_src eT27 w74.heap.size (.slice none 0 0) (uo1) [] ([0, 1, 1, 0, 0, (-1), (-1), 0].map (Value.int .i64)) (Own.nil _ _ _) SWo1.out.sl (by have h1_ := hc69.out; rw [List.length_map]; omega) (by intro u_ hu_; rw [List.mem_map] at hu_; obtain ⟨_, _, rfl⟩ := hu_; rfl) (by have h1_ := hc69.out; have h2_ := hc70.out; simp only [List.length_map, List.length_nil]; omega) (by have h1_ := hc69.out; have h2_ := hc70.out; simp only [List.length_map, List.length_nil]; unfold maxLen; omega) (Nat.le_refl _) rfl _ _ rfl rfl rfl ?_; intro uo14 w76 ho_ hb_ hk_ hi_; replace ho_ := ho_.mono HL.out.size; have SWo14 : Hid (Own w76 w.heap.size 3 (uo14) ([0, 1, 1, 0, 0, (-1), (-1), 0].map (Value.int .i64))) := hid (by rw [List.nil_append] at ho_; exact ho_); replace SWo1 := hid (SWo1.out.below hb_); replace SWo2 := hid (SWo2.out.below hb_); replace HL := hid (HL.out.trans (hb_.mono HL.out.size)); clear ho_ hb_ hk_ hi_)
            | (at_builtin; clear k79; refine app_src eT27 w.heap.size (uo14) (uo2) ([0, 1, 1, 0, 0, (-1), (-1), 0].map (Value.int .i64)) ([1, 1, 1, (-1), (-1), (-1), (-1), 1].map (Value.int .i64)) SWo14.out SWo2.out.sl (by have h1_ := hc71.out; rw [List.length_map]; omega) (by intro u_ hu_; rw [List.mem_map] at hu_; obtain ⟨_, _, rfl⟩ := hu_; rfl) (by have h1_ := hc71.out; have h2_ := hc72.out; simp only [List.length_map]; omega) (by have h1_ := hc71.out; have h2_ := hc72.out; simp only [List.length_map]; unfold maxLen; omega) HL.out.size rfl _ _ rfl rfl rfl ?_; intro uo15 w78 ho_ hb_ hk_ hi_; clear SWo14; have SWo15 : Hid (Own w78 w.heap.size 3 (uo15) (([0, 1, 1, 0, 0, (-1), (-1), 0] ++ [1, 1, 1, (-1), (-1), (-1), (-1), 1]).map (Value.int .i64))) := hid (by rw [List.map_append]; exact ho_); clear SWo1; clear SWo2; replace HL := hid (HL.out.trans hb_); clear ho_ hb_ hk_ hi_))
           (try simp only [Act.put, sI, sZ, sS])
           go_ret
           exact ⟨_, rfl, (by exact SWo15.out), HL.out⟩
          ·
           rw [if_neg c72] at H
           exact absurd H (by simp)
         ·
          rw [if_neg c71] at H
          exact absurd H (by simp)
        ·
         rw [if_neg c70] at H
         exact absurd H (by simp)
       ·
        rw [if_neg c69] at H
        exact absurd H (by simp)
      ·
       rw [if_neg c68] at H
       have c68b0 : (t3 == 6) = false := beq_eq_false_iff_ne.mpr c68
       have c68b1 : (t3 != 6) = true := bne_iff_ne.mpr c68
       have hc68 := hid c68
       clear c68
       obtain rfl := Option.some.inj H
       clear H
       go_enter Try.func95, Try.ntmps95
       have k82 := True.intro
       go_wp2_with (first
        | ((with_reducible refine gate_d (N := 6) rfl ?_); obtain ⟨go1, hgo1⟩ : ∃ g_, w.heap.size = g_ := ⟨_, rfl⟩; refine ag_litn (e := 3) 8 #[.int .i64 0, .int .i64 1, .int .i64 1, .int .i64 0, .int .i64 0, .int .i64 (-1), .int .i64 (-1), .int .i64 0] go1 hgo1 rfl _ rfl (fun w_ => by (try simp only [List.map_toArray, List.map_cons, List.map_nil]); kernel_rfl) ?_; intro w80 hb_ hB_ hs_; have GEo1 : Hid (w.heap.size ≤ go1) := hid (by have := HL.out.size; omega); replace HL := hid (HL.out.trans (hb_.mono GEo1.out)); have BKo1 := hid hB_; clear hb_ hB_ hs_ hgo1; obtain ⟨uo1, hu_⟩ : ∃ u_, u_ = (Value.slice (some ⟨go1, 0, none⟩) 8 8) := ⟨_, rfl⟩; have SWo1 : Hid (Own w80 w.heap.size 3 (uo1) ([0, 1, 1, 0, 0, (-1), (-1), 0].map (Value.int .i64))) := hid (by rw [hu_]; exact Own.lit GEo1.out BKo1.out rfl (by simp [maxLen])); rw [← hu_]; clear hu_ BKo1)
        | ((with_reducible refine gate_d (N := 7) rfl ?_); obtain ⟨go2, hgo2⟩ : ∃ g_, w80.heap.size = g_ := ⟨_, rfl⟩; refine ag_litn (e := 3) 8 #[.int .i64 1, .int .i64 1, .int .i64 1, .int .i64 (-1), .int .i64 (-1), .int .i64 (-1), .int .i64 (-1), .int .i64 1] go2 hgo2 rfl _ rfl (fun w_ => by (try simp only [List.map_toArray, List.map_cons, List.map_nil]); kernel_rfl) ?_; intro w81 hb_ hB_ hs_; have GEo2 : Hid (w.heap.size ≤ go2) := hid (by have := HL.out.size; omega); replace SWo1 := hid (SWo1.out.below (by rw [hgo2]; exact hb_)); replace HL := hid (HL.out.trans (hb_.mono GEo2.out)); have BKo2 := hid hB_; clear hb_ hB_ hs_ hgo2; obtain ⟨uo2, hu_⟩ : ∃ u_, u_ = (Value.slice (some ⟨go2, 0, none⟩) 8 8) := ⟨_, rfl⟩; have SWo2 : Hid (Own w81 w.heap.size 3 (uo2) ([1, 1, 1, (-1), (-1), (-1), (-1), 1].map (Value.int .i64))) := hid (by rw [hu_]; exact Own.lit GEo2.out BKo2.out rfl (by simp [maxLen])); rw [← hu_]; clear hu_ BKo2)
        | (go_at_call 64; clear k82; refine (i_alfilref02_Kind.calls k a0 t3 _ A16.out).mono ?_; rintro e_ w' ⟨rfl, rfl⟩))
       (try simp only [Act.put, sI, sZ, sS])
       go_ret
       exact ⟨_, rfl, (Own.nil _ _ _), HL.out⟩
def i_alfilref06_Slides.f (k : Nat) (a0 : Int) : Option (Bool) := (i_alfilref02_Kind.f k a0).bind fun t1 => (if t1 = 3 then (some true) else (if t1 = 4 then (some true) else (some (t1 == 5))))
set_option maxHeartbeats 40000000 in
set_option maxRecDepth 100000 in
theorem i_alfilref06_Slides.calls (k : Nat) (a0 : Int) (r1 : Bool) (w : World) (h : i_alfilref06_Slides.f k a0 = some r1) :
    Calls Try.prog 96 #[.int .i64 a0] w fun e w' => e = .returned (.bool r1) ∧ w = w' := by
 have H : ((i_alfilref02_Kind.f k a0).bind fun t1 => (if t1 = 3 then (some true) else (if t1 = 4 then (some true) else (some (t1 == 5))))) = some r1 := h
 clear h
 replace H := Option.bind_eq_some_iff.mp H
 obtain ⟨t1, A2_, H⟩ := H
 have A2 := hid A2_
 clear A2_
 by_cases c3 : t1 = 3
 ·
  rw [if_pos c3] at H
  have c3b0 : (t1 == 3) = true := beq_iff_eq.mpr c3
  have c3b1 : (t1 != 3) = false := bne_eq_false_iff_eq.mpr c3
  have hc3 := hid c3
  clear c3
  obtain rfl := Option.some.inj H
  clear H
  go_enter Try.func96, Try.ntmps96
  have k4 := True.intro
  go_wp2_with (first
   | (go_at_call 64; clear k4; refine (i_alfilref02_Kind.calls k a0 t1 _ A2.out).mono ?_; rintro e_ w' ⟨rfl, rfl⟩))
  (try simp only [Act.put, sI, sZ, sS])
  go_ret
  exact ⟨by first | rfl | (simp; done) | (simp [*]; done), rfl⟩
 ·
  rw [if_neg c3] at H
  have c3b0 : (t1 == 3) = false := beq_eq_false_iff_ne.mpr c3
  have c3b1 : (t1 != 3) = true := bne_iff_ne.mpr c3
  have hc3 := hid c3
  clear c3
  by_cases c5 : t1 = 4
  ·
   rw [if_pos c5] at H
   have c5b0 : (t1 == 4) = true := beq_iff_eq.mpr c5
   have c5b1 : (t1 != 4) = false := bne_eq_false_iff_eq.mpr c5
   have hc5 := hid c5
   clear c5
   obtain rfl := Option.some.inj H
   clear H
   go_enter Try.func96, Try.ntmps96
   have k6 := True.intro
   go_wp2_with (first
    | (go_at_call 64; clear k6; refine (i_alfilref02_Kind.calls k a0 t1 _ A2.out).mono ?_; rintro e_ w' ⟨rfl, rfl⟩))
   (try simp only [Act.put, sI, sZ, sS])
   go_ret
   exact ⟨by first | rfl | (simp; done) | (simp [*]; done), rfl⟩
  ·
   rw [if_neg c5] at H
   have c5b0 : (t1 == 4) = false := beq_eq_false_iff_ne.mpr c5
   have c5b1 : (t1 != 4) = true := bne_iff_ne.mpr c5
   have hc5 := hid c5
   clear c5
   obtain rfl := Option.some.inj H
   clear H
   go_enter Try.func96, Try.ntmps96
   have k7 := True.intro
   go_wp2_with (first
    | (go_at_call 64; clear k7; refine (i_alfilref02_Kind.calls k a0 t1 _ A2.out).mono ?_; rintro e_ w' ⟨rfl, rfl⟩))
   (try simp only [Act.put, sI, sZ, sS])
   go_ret
   exact ⟨by first | rfl | (simp; done) | (simp [*]; done), rfl⟩
def i_alfilref06_Of.l0 : Nat → Int → Int → List Int → List (List Int) → Int → Option ((List (List Int)))
  | 0, _, _, _, _, _ => none
  | k + 1, a0, a1, t1, x5_0, x7_0 => if x7_0 < (t1.length : Int) then (if 0 ≤ x7_0 then (if 0 ≤ (wrap64 (x7_0 + 1)) then (if (wrap64 (x7_0 + 1)) < (t1.length : Int) then ((i_alfilref06_Ray.f k a1 (nt t1 x7_0.toNat 0) (nt t1 ((wrap64 (x7_0 + 1)).toNat) 0)).bind fun t16 => (if (t16.length : Int) > 1 then ((i_alfilref06_Slides.f k a0).bind fun t17 => (if t17 = true then (if (t16.length : Int) > 0 then (if x5_0.length < 5864062014805 then (i_alfilref06_Of.l0 k a0 a1 t1 (x5_0 ++ [t16]) (wrap64 (x7_0 + 2))) else (none)) else (i_alfilref06_Of.l0 k a0 a1 t1 x5_0 (wrap64 (x7_0 + 2)))) else (if 1 ≤ (t16.length : Int) then ((some (t16.take 1)).bind fun s21 => (if (s21.length : Int) > 0 then (if x5_0.length < 5864062014805 then (i_alfilref06_Of.l0 k a0 a1 t1 (x5_0 ++ [s21]) (wrap64 (x7_0 + 2))) else (none)) else (i_alfilref06_Of.l0 k a0 a1 t1 x5_0 (wrap64 (x7_0 + 2))))) else (none)))) else (if (t16.length : Int) > 0 then (if x5_0.length < 5864062014805 then (i_alfilref06_Of.l0 k a0 a1 t1 (x5_0 ++ [t16]) (wrap64 (x7_0 + 2))) else (none)) else (i_alfilref06_Of.l0 k a0 a1 t1 x5_0 (wrap64 (x7_0 + 2)))))) else (none)) else (none)) else (none)) else (some x5_0)
def i_alfilref06_Of.f (k : Nat) (a0 : Int) (a1 : Int) : Option ((List (List Int))) := (i_alfilref06_Steps.f k a0).bind fun t1 => (i_alfilref06_Of.l0 k a0 a1 t1 ([] : List (List Int)) 0)
def i_alfilref06_Of.post (r1 : List (List Int)) (w : World) (e : Ending) (w' : World) : Prop := ∃ (u_r1 : Value), e = .returned (u_r1) ∧ OwnS w' w.heap.size 27 3 (Value.int .i64) u_r1 r1 ∧ Below w.heap.size w w'
set_option maxHeartbeats 40000000 in
set_option maxRecDepth 100000 in
theorem i_alfilref06_Of.calls (k : Nat) (a0 : Int) (a1 : Int) (r1 : List (List Int)) (w : World) (h : i_alfilref06_Of.f k a0 a1 = some r1) :
    Calls Try.prog 55 #[.int .i64 a0, .int .i64 a1] w (i_alfilref06_Of.post r1 w) := by
 have HL := hid (Below.refl w.heap.size w)
 have H : ((i_alfilref06_Steps.f k a0).bind fun t1 => (i_alfilref06_Of.l0 k a0 a1 t1 ([] : List (List Int)) 0)) = some r1 := h
 clear h
 replace H := Option.bind_eq_some_iff.mp H
 obtain ⟨t1, A26_, H⟩ := H
 have A26 := hid A26_
 clear A26_
 have H' := hid H
 clear H
 go_enter Try.func55, Try.ntmps55
 have k27 := True.intro
 go_wp2_with (first
  | (go_at_call 95; clear k27; refine (i_alfilref06_Steps.calls k a0 t1 _ A26.out).mono ?_; rintro e_ w28 ⟨ut1, rfl, so_t1, hb_⟩; replace so_t1 := so_t1.mono HL.out.size; have SWn_t1 := hid so_t1; clear so_t1; replace HL := hid (HL.out.trans (hb_.mono HL.out.size)); clear hb_; have SWt1 := SWn_t1; clear SWn_t1))
 (try simp only [Act.put, sI, sZ, sS])
 go_loopg [5, 7] k (fun kq v5 v7 w' => ∃ (x5_0 : List (List Int)) (ux5_0 : Value) (x7_0 : Int), ux5_0 = v5 ∧ v7 = .int .i64 x7_0 ∧ Hid (i_alfilref06_Of.l0 kq a0 a1 t1 x5_0 x7_0 = some r1) ∧ Hid (kq ≤ k) ∧ Hid (Own w' w.heap.size 3 (ut1) (t1.map (Value.int .i64))) ∧ Hid (OwnS w' w.heap.size 27 3 (Value.int .i64) ux5_0 x5_0) ∧ Hid (Below w.heap.size w w'))
 case atStart => exact ⟨([] : List (List Int)), (.slice none 0 0), (0 : Int), (by first | rfl | (simp; done) | (simp [*]; done)), (by first | rfl | (simp; done) | (simp [*]; done)), H', (hid (by first | omega | (omega))), SWt1, (hid (OwnS.nil _ _ _ _ _)), HL⟩
 case round =>
  clear H'
  clear HL SWt1
  obtain ⟨x5_0, ux5_0, x7_0, rfl, rfl, HA, HK29, SWt1, SWx5_0, HL⟩ := hrel
  cases gk with
  | zero => exact absurd HA.out (by simp [i_alfilref06_Of.l0])
  | succ k30 =>
   have H := HA.out
   clear HA
   simp only [i_alfilref06_Of.l0] at H
   by_cases c31 : x7_0 < (t1.length : Int)
   ·
    rw [if_pos c31] at H
    have c31b0 : decide (x7_0 < (t1.length : Int)) = true := decide_eq_true c31
    have hc31 := hid c31
    clear c31
    by_cases c32 : 0 ≤ x7_0
    ·
     rw [if_pos c32] at H
     have c32b0 : decide (0 ≤ x7_0) = true := decide_eq_true c32
     have hc32 := hid c32
     clear c32
     by_cases c33 : 0 ≤ (wrap64 (x7_0 + 1))
     ·
      rw [if_pos c33] at H
      have c33b0 : decide (0 ≤ (wrap64 (x7_0 + 1))) = true := decide_eq_true c33
      have hc33 := hid c33
      clear c33
      by_cases c34 : (wrap64 (x7_0 + 1)) < (t1.length : Int)
      ·
       rw [if_pos c34] at H
       have c34b0 : decide ((wrap64 (x7_0 + 1)) < (t1.length : Int)) = true := decide_eq_true c34
       have hc34 := hid c34
       clear c34
       replace H := Option.bind_eq_some_iff.mp H
       obtain ⟨t16, A35_, H⟩ := H
       have A35 := hid A35_
       clear A35_
       by_cases c36 : (t16.length : Int) > 1
       ·
        rw [if_pos c36] at H
        have c36b0 : decide (1 < (t16.length : Int)) = true := decide_eq_true c36
        have c36b1 : decide (1 < t16.length) = true := decide_eq_true (by omega)
        have hc36 := hid c36
        clear c36
        have H' := hid H
        clear H
        go_wp2_with (first
         | ((with_reducible refine gate_d (N := 13) rfl ?_); obtain ⟨A38, c39, hv40⟩ := SWt1.out.sl.shape; rw [List.length_map] at hv40; refine ag_fix (.int .i64 (t1.length : Int)) (ex_len us27 _ _ _ _ hv40 _ rfl rfl) rfl ?_; clear hv40))
        (try simp only [Act.put, sI, sZ, sS])
        have WR64 := i64_w
        have WR32 := i32_w
        have WR8 := u8_w
        have WRU := u32_w
        refine sq_region (fun w'_ => Below w.heap.size w w'_ ∧ Own w'_ w.heap.size 3 (ut1) (t1.map (Value.int .i64)) ∧ OwnS w'_ w.heap.size 27 3 (Value.int .i64) ux5_0 x5_0 ∧ True) [10] [(0, 2), (1, 2), (2, 2), (3, 2), (4, 1), (5, 2), (6, 2), (7, 2), (8, 2), (9, 1), (10, 0), (11, 2)] (by kernel_rfl) (by kernel_rfl) (by kernel_rfl) rfl ?_
        intro w41 hb_
        replace SWt1 := hid (SWt1.out.below hb_)
        replace SWx5_0 := hid (SWx5_0.out.below hb_)
        replace HL := hid (HL.out.trans (hb_.mono HL.out.size))
        clear hb_
        refine sq_pure (.int .i64 a1) rfl (fun w'_ => ex_mv (.tmp 1) (.inl rfl) _ rfl) rfl rfl ?_
        intro ts_ ht_; simp only [sI, sZ, sS] at ht_; subst ht_
        refine sq_pure (ut1) rfl (fun w'_ => ex_mv (.tmp 6) (.inl rfl) _ rfl) rfl rfl ?_
        intro ts_ ht_; simp only [sI, sZ, sS] at ht_; subst ht_
        refine sq_pure (.int .i64 x7_0) rfl (fun w'_ => ex_mv (.tmp 7) (.inl rfl) _ rfl) rfl rfl ?_
        intro ts_ ht_; simp only [sI, sZ, sS] at ht_; subst ht_
        obtain ⟨ad14, c_20, hv_20, _⟩ := Sl.get (l := t1) (f := (Value.int .i64)) SWt1.out.sl 0 (i := x7_0) hc32.out hc31.out
        have HV_20 := hid hv_20
        clear hv_20
        refine sq_pure (.pointer (some (ad14.add x7_0.toNat))) rfl (fun w'_ => ex_sat _ _ x7_0 _ _ HV_20.out hc32.out hc31.out us27 sT3 _ _ rfl rfl rfl) rfl rfl ?_
        intro ts_ ht_; simp only [sI, sZ, sS] at ht_; subst ht_
        refine sq_take (.int .i64 (nt t1 x7_0.toNat 0)) ⟨HL.out, SWt1.out, SWx5_0.out, trivial⟩ rfl (fun w'_ hS_ => ex_scell sT3 _ _ (Sl.at_ (l := t1) (f := (Value.int .i64)) hS_.2.1.sl 0 HV_20.out (i := x7_0) hc32.out hc31.out) _ rfl rfl) rfl rfl ?_
        intro ts_ ht_; simp only [sI, sZ, sS] at ht_; subst ht_
        refine sq_pure (ut1) rfl (fun w'_ => ex_mv (.tmp 6) (.inl rfl) _ rfl) rfl rfl ?_
        intro ts_ ht_; simp only [sI, sZ, sS] at ht_; subst ht_
        refine sq_pure (.int .i64 x7_0) rfl (fun w'_ => ex_mv (.tmp 7) (.inl rfl) _ rfl) rfl rfl ?_
        intro ts_ ht_; simp only [sI, sZ, sS] at ht_; subst ht_
        refine sq_pure (.int .i64 (wrap64 (x7_0 + 1))) rfl (fun w'_ => by go_simp <;> (unfold wrap64; omega)) rfl rfl ?_
        intro ts_ ht_; simp only [sI, sZ, sS] at ht_; subst ht_
        obtain ⟨ad15, c_25, hv_25, _⟩ := Sl.get (l := t1) (f := (Value.int .i64)) SWt1.out.sl 0 (i := (wrap64 (x7_0 + 1))) hc33.out hc34.out
        have HV_25 := hid hv_25
        clear hv_25
        refine sq_pure (.pointer (some (ad15.add (wrap64 (x7_0 + 1)).toNat))) rfl (fun w'_ => ex_sat _ _ (wrap64 (x7_0 + 1)) _ _ HV_25.out hc33.out hc34.out us27 sT3 _ _ rfl rfl rfl) rfl rfl ?_
        intro ts_ ht_; simp only [sI, sZ, sS] at ht_; subst ht_
        refine sq_take (.int .i64 (nt t1 ((wrap64 (x7_0 + 1)).toNat) 0)) ⟨HL.out, SWt1.out, SWx5_0.out, trivial⟩ rfl (fun w'_ hS_ => ex_scell sT3 _ _ (Sl.at_ (l := t1) (f := (Value.int .i64)) hS_.2.1.sl 0 HV_25.out (i := (wrap64 (x7_0 + 1))) hc33.out hc34.out) _ rfl rfl) rfl rfl ?_
        intro ts_ ht_; simp only [sI, sZ, sS] at ht_; subst ht_
        refine sq_act rfl (fun Q'_ hQ_ => ?_)
        refine wl_call 20 #[.int .i64 a1, .int .i64 (nt t1 x7_0.toNat 0), .int .i64 (nt t1 ((wrap64 (x7_0 + 1)).toNat) 0)] (by go_simp) rfl ((i_alfilref06_Ray.calls k30 a1 (nt t1 x7_0.toNat 0) (nt t1 ((wrap64 (x7_0 + 1)).toNat) 0) t16 _ A35.out).mono ?_)
        rintro e_ w43 ⟨ut16, rfl, so_t16, hb_⟩
        replace so_t16 := so_t16.mono HL.out.size
        have SWn_t16 := hid so_t16
        clear so_t16
        replace SWt1 := hid (SWt1.out.below hb_)
        replace SWx5_0 := hid (SWx5_0.out.below hb_)
        replace HL := hid (HL.out.trans (hb_.mono HL.out.size))
        clear hb_
        have SWt16 := SWn_t16
        clear SWn_t16
        refine ⟨_, rfl, ?_⟩
        refine hQ_ _ _ (fun h_ => absurd h_ (by decide)) ?_
        clear hQ_ Q'_
        simp only [Act.put, sI, sZ, sS]
        refine sq_pure (ut16) rfl (fun w'_ => ex_mv (.tmp 27) (.inr rfl) _ rfl) rfl rfl ?_
        intro ts_ ht_; simp only [sI, sZ, sS] at ht_; subst ht_
        refine sq_end ?_
        clear WR64 WR32 WR8 WRU
        go_wp2_with (first
         | ((with_reducible refine gate_d (N := 29) rfl ?_); obtain ⟨A44, c45, hv46⟩ := SWt16.out.sl.shape; rw [List.length_map] at hv46; refine ag_fix (.int .i64 (t16.length : Int)) (ex_len us27 _ _ _ _ hv46 _ rfl rfl) rfl ?_; clear hv46))
        (try simp only [Act.put, sI, sZ, sS])
        have H := H'.out
        clear H'
        replace H := Option.bind_eq_some_iff.mp H
        obtain ⟨t17, A37_, H⟩ := H
        have A37 := hid A37_
        clear A37_
        cases t17 with
        | true =>
         rw [if_pos rfl] at H
         by_cases c48 : (t16.length : Int) > 0
         ·
          rw [if_pos c48] at H
          have c48b0 : decide (0 < (t16.length : Int)) = true := decide_eq_true c48
          have c48b1 : decide (0 < t16.length) = true := decide_eq_true (by omega)
          have hc48 := hid c48
          clear c48
          by_cases c49 : x5_0.length < 5864062014805
          ·
           rw [if_pos c49] at H
           have c49b0 : decide (x5_0.length < 5864062014805) = true := decide_eq_true c49
           have hc49 := hid c49
           clear c49
           have H' := hid H
           clear H
           have k50 := True.intro
           have k56 := True.intro
           go_wp2_with (first
            | (go_at_call 96; clear k50; refine (i_alfilref06_Slides.calls k30 a0 true _ A37.out).mono ?_; rintro e_ w' ⟨rfl, rfl⟩)
            | ((with_reducible refine gate_d (N := 39) rfl ?_); obtain ⟨A51, c52, hv53⟩ := SWt16.out.sl.shape; rw [List.length_map] at hv53; refine ag_fix (.int .i64 (t16.length : Int)) (ex_len us27 _ _ _ _ hv53 _ rfl rfl) rfl ?_; clear hv53)
            | ((with_reducible refine gate_d (N := 43) rfl ?_); obtain ⟨gb18, hgb18⟩ : ∃ g_, w43.heap.size = g_ := ⟨_, rfl⟩; refine ag_lit sT27 (ut16) gb18 hgb18 rfl _ rfl rfl (fun w_ => by obtain ⟨A_, c_, h_⟩ := SWt16.out.shape; rw [h_]; kernel_rfl) ?_; intro w54 hb_ hB_ hs_; have GEb18 : Hid (w.heap.size ≤ gb18) := hid (by have := HL.out.size; omega); replace SWt1 := hid (SWt1.out.below (by rw [hgb18]; exact hb_)); replace SWx5_0 := hid (SWx5_0.out.below (by rw [hgb18]; exact hb_)); replace SWt16 := hid (SWt16.out.below (by rw [hgb18]; exact hb_)); replace HL := hid (HL.out.trans (hb_.mono GEb18.out)); have BKb18 := hid hB_; clear hb_ hB_ hs_ hgb18)
            | (at_builtin; clear k56; refine app_sl eT92 w.heap.size (ux5_0) x5_0 t16 (ut16) gb18 1 SWx5_0.out (by decide) SWt16.out.slT BKb18.out (by have h_ := hc49.out; omega) (by have h_ := hc49.out; unfold maxLen; omega) HL.out.size rfl _ _ rfl rfl rfl ?_; intro uo19 w55 ho_ hb_ hk_ hi_; clear SWx5_0; have SWo19 : Hid (OwnS w55 w.heap.size 27 3 (Value.int .i64) uo19 (x5_0 ++ [t16])) := hid ho_; replace SWt1 := hid (SWt1.out.move fun g_ cs_ _ hh_ => hk_ g_ _ cs_ (by decide) hh_); replace SWt16 := hid (SWt16.out.move fun g_ cs_ _ hh_ => hk_ g_ _ cs_ (by decide) hh_); replace HL := hid (HL.out.trans hb_); clear ho_ hb_ hk_ hi_ BKb18))
           (try simp only [Act.put, sI, sZ, sS])
           go_roundg k30
           case measure => have := HK29.out; omega
           case rel => exact ⟨x5_0 ++ [t16], (uo19), wrap64 (x7_0 + 2), (by first | rfl | (simp; done) | (simp [*]; done)), (by first | rfl | (simp; done) | (simp [*]; done)), H', (hid (by first | omega | (have := HK29.out; omega))), SWt1, SWo19, HL⟩
          ·
           rw [if_neg c49] at H
           exact absurd H (by simp)
         ·
          rw [if_neg c48] at H
          exfalso
          clear H
          have := hc36.out; omega
        | false =>
         rw [if_neg (show ¬ (false = true) by decide)] at H
         by_cases c57 : 1 ≤ (t16.length : Int)
         ·
          rw [if_pos c57] at H
          have c57b0 : decide (1 ≤ (t16.length : Int)) = true := decide_eq_true c57
          have c57b1 : decide (1 ≤ t16.length) = true := decide_eq_true (by omega)
          have hc57 := hid c57
          clear c57
          replace H := Option.bind_eq_some_iff.mp H
          obtain ⟨s21, A58_, H⟩ := H
          have A58 := hid A58_
          clear A58_
          by_cases c59 : (s21.length : Int) > 0
          ·
           rw [if_pos c59] at H
           have c59b0 : decide (0 < (s21.length : Int)) = true := decide_eq_true c59
           have c59b1 : decide (0 < s21.length) = true := decide_eq_true (by omega)
           have hc59 := hid c59
           clear c59
           by_cases c60 : x5_0.length < 5864062014805
           ·
            rw [if_pos c60] at H
            have c60b0 : decide (x5_0.length < 5864062014805) = true := decide_eq_true c60
            have hc60 := hid c60
            clear c60
            have H' := hid H
            clear H
            have k61 := True.intro
            have k68 := True.intro
            go_wp2_with (first
             | (go_at_call 96; clear k61; refine (i_alfilref06_Slides.calls k30 a0 false _ A37.out).mono ?_; rintro e_ w' ⟨rfl, rfl⟩)
             | ((with_reducible refine gate_d (N := 37) rfl ?_); obtain ⟨Am62, nm62, cm62, hvm62, hnm62, hcm62, ham62, hbm62⟩ := SlT.upto (l := t16) (f := (Value.int .i64)) SWt16.out.slT (i := 1) (by omega) hc57.out; refine ag_fix (.slice Am62 (1 : Int).toNat cm62) (ex_slh us27 ⟨_, sT3.size⟩ _ _ _ _ hvm62 1 (by omega) hnm62 hcm62 _ _ rfl rfl rfl) rfl ?_; obtain ⟨uo20, hu_⟩ : ∃ u_, u_ = (Value.slice Am62 (1 : Int).toNat cm62) := ⟨_, rfl⟩; have SWo20 : Hid (SlT w43 3 uo20 (s21.map (Value.int .i64))) := hid (by rw [hu_, ← Option.some.inj A58.out]; exact ham62); rw [← hu_]; clear hu_ hvm62 hnm62 hcm62 ham62 hbm62)
             | ((with_reducible refine gate_d (N := 39) rfl ?_); obtain ⟨A63, c64, hv65⟩ := SWo20.out.sl.shape; rw [List.length_map] at hv65; refine ag_fix (.int .i64 (s21.length : Int)) (ex_len us27 _ _ _ _ hv65 _ rfl rfl) rfl ?_; clear hv65)
             | ((with_reducible refine gate_d (N := 43) rfl ?_); obtain ⟨gb22, hgb22⟩ : ∃ g_, w43.heap.size = g_ := ⟨_, rfl⟩; refine ag_lit sT27 (uo20) gb22 hgb22 rfl _ rfl rfl (fun w_ => by obtain ⟨A_, c_, h_⟩ := SWo20.out.shape; rw [h_]; kernel_rfl) ?_; intro w66 hb_ hB_ hs_; have GEb22 : Hid (w.heap.size ≤ gb22) := hid (by have := HL.out.size; omega); replace SWt1 := hid (SWt1.out.below (by rw [hgb22]; exact hb_)); replace SWx5_0 := hid (SWx5_0.out.below (by rw [hgb22]; exact hb_)); replace SWt16 := hid (SWt16.out.below (by rw [hgb22]; exact hb_)); replace SWo20 := hid (SWo20.out.below (by rw [hgb22]; exact hb_)); replace HL := hid (HL.out.trans (hb_.mono GEb22.out)); have BKb22 := hid hB_; clear hb_ hB_ hs_ hgb22)
             | (at_builtin; clear k68; refine app_sl eT92 w.heap.size (ux5_0) x5_0 s21 (uo20) gb22 1 SWx5_0.out (by decide) SWo20.out.slT BKb22.out (by have h_ := hc60.out; omega) (by have h_ := hc60.out; unfold maxLen; omega) HL.out.size rfl _ _ rfl rfl rfl ?_; intro uo23 w67 ho_ hb_ hk_ hi_; clear SWx5_0; have SWo23 : Hid (OwnS w67 w.heap.size 27 3 (Value.int .i64) uo23 (x5_0 ++ [s21])) := hid ho_; replace SWt1 := hid (SWt1.out.move fun g_ cs_ _ hh_ => hk_ g_ _ cs_ (by decide) hh_); replace SWt16 := hid (SWt16.out.move fun g_ cs_ _ hh_ => hk_ g_ _ cs_ (by decide) hh_); replace SWo20 := hid (SWo20.out.move fun g_ cs_ hh_ => hk_ g_ _ cs_ (by decide) hh_); replace HL := hid (HL.out.trans hb_); clear ho_ hb_ hk_ hi_ BKb22))
            (try simp only [Act.put, sI, sZ, sS])
            go_roundg k30
            case measure => have := HK29.out; omega
            case rel => exact ⟨x5_0 ++ [s21], (uo23), wrap64 (x7_0 + 2), (by first | rfl | (simp; done) | (simp [*]; done)), (by first | rfl | (simp; done) | (simp [*]; done)), H', (hid (by first | omega | (have := HK29.out; omega))), SWt1, SWo23, HL⟩
           ·
            rw [if_neg c60] at H
            exact absurd H (by simp)
          ·
           rw [if_neg c59] at H
           have c59b0 : decide (0 < (s21.length : Int)) = false := decide_eq_false c59
           have c59b1 : decide (0 < s21.length) = false := decide_eq_false (by omega)
           have hc59 := hid c59
           clear c59
           have H' := hid H
           clear H
           have k69 := True.intro
           go_wp2_with (first
            | (go_at_call 96; clear k69; refine (i_alfilref06_Slides.calls k30 a0 false _ A37.out).mono ?_; rintro e_ w' ⟨rfl, rfl⟩)
            | ((with_reducible refine gate_d (N := 37) rfl ?_); obtain ⟨Am70, nm70, cm70, hvm70, hnm70, hcm70, ham70, hbm70⟩ := SlT.upto (l := t16) (f := (Value.int .i64)) SWt16.out.slT (i := 1) (by omega) hc57.out; refine ag_fix (.slice Am70 (1 : Int).toNat cm70) (ex_slh us27 ⟨_, sT3.size⟩ _ _ _ _ hvm70 1 (by omega) hnm70 hcm70 _ _ rfl rfl rfl) rfl ?_; obtain ⟨uo20, hu_⟩ : ∃ u_, u_ = (Value.slice Am70 (1 : Int).toNat cm70) := ⟨_, rfl⟩; have SWo20 : Hid (SlT w43 3 uo20 (s21.map (Value.int .i64))) := hid (by rw [hu_, ← Option.some.inj A58.out]; exact ham70); rw [← hu_]; clear hu_ hvm70 hnm70 hcm70 ham70 hbm70)
            | ((with_reducible refine gate_d (N := 39) rfl ?_); obtain ⟨A71, c72, hv73⟩ := SWo20.out.sl.shape; rw [List.length_map] at hv73; refine ag_fix (.int .i64 (s21.length : Int)) (ex_len us27 _ _ _ _ hv73 _ rfl rfl) rfl ?_; clear hv73))
           (try simp only [Act.put, sI, sZ, sS])
           go_roundg k30
           case measure => have := HK29.out; omega
           case rel => exact ⟨x5_0, (ux5_0), wrap64 (x7_0 + 2), (by first | rfl | (simp; done) | (simp [*]; done)), (by first | rfl | (simp; done) | (simp [*]; done)), H', (hid (by first | omega | (have := HK29.out; omega))), SWt1, SWx5_0, HL⟩
         ·
          rw [if_neg c57] at H
          exact absurd H (by simp)
       ·
        rw [if_neg c36] at H
        have c36b0 : decide (1 < (t16.length : Int)) = false := decide_eq_false c36
        have c36b1 : decide (1 < t16.length) = false := decide_eq_false (by omega)
        have hc36 := hid c36
        clear c36
        by_cases c74 : (t16.length : Int) > 0
        ·
         rw [if_pos c74] at H
         have c74b0 : decide (0 < (t16.length : Int)) = true := decide_eq_true c74
         have c74b1 : decide (0 < t16.length) = true := decide_eq_true (by omega)
         have hc74 := hid c74
         clear c74
         by_cases c75 : x5_0.length < 5864062014805
         ·
          rw [if_pos c75] at H
          have c75b0 : decide (x5_0.length < 5864062014805) = true := decide_eq_true c75
          have hc75 := hid c75
          clear c75
          have H' := hid H
          clear H
          go_wp2_with (first
           | ((with_reducible refine gate_d (N := 13) rfl ?_); obtain ⟨A76, c77, hv78⟩ := SWt1.out.sl.shape; rw [List.length_map] at hv78; refine ag_fix (.int .i64 (t1.length : Int)) (ex_len us27 _ _ _ _ hv78 _ rfl rfl) rfl ?_; clear hv78))
          (try simp only [Act.put, sI, sZ, sS])
          have WR64 := i64_w
          have WR32 := i32_w
          have WR8 := u8_w
          have WRU := u32_w
          refine sq_region (fun w'_ => Below w.heap.size w w'_ ∧ Own w'_ w.heap.size 3 (ut1) (t1.map (Value.int .i64)) ∧ OwnS w'_ w.heap.size 27 3 (Value.int .i64) ux5_0 x5_0 ∧ True) [10] [(0, 2), (1, 2), (2, 2), (3, 2), (4, 1), (5, 2), (6, 2), (7, 2), (8, 2), (9, 1), (10, 0), (11, 2)] (by kernel_rfl) (by kernel_rfl) (by kernel_rfl) rfl ?_
          intro w79 hb_
          replace SWt1 := hid (SWt1.out.below hb_)
          replace SWx5_0 := hid (SWx5_0.out.below hb_)
          replace HL := hid (HL.out.trans (hb_.mono HL.out.size))
          clear hb_
          refine sq_pure (.int .i64 a1) rfl (fun w'_ => ex_mv (.tmp 1) (.inl rfl) _ rfl) rfl rfl ?_
          intro ts_ ht_; simp only [sI, sZ, sS] at ht_; subst ht_
          refine sq_pure (ut1) rfl (fun w'_ => ex_mv (.tmp 6) (.inl rfl) _ rfl) rfl rfl ?_
          intro ts_ ht_; simp only [sI, sZ, sS] at ht_; subst ht_
          refine sq_pure (.int .i64 x7_0) rfl (fun w'_ => ex_mv (.tmp 7) (.inl rfl) _ rfl) rfl rfl ?_
          intro ts_ ht_; simp only [sI, sZ, sS] at ht_; subst ht_
          obtain ⟨ad14, c_20, hv_20, _⟩ := Sl.get (l := t1) (f := (Value.int .i64)) SWt1.out.sl 0 (i := x7_0) hc32.out hc31.out
          have HV_20 := hid hv_20
          clear hv_20
          refine sq_pure (.pointer (some (ad14.add x7_0.toNat))) rfl (fun w'_ => ex_sat _ _ x7_0 _ _ HV_20.out hc32.out hc31.out us27 sT3 _ _ rfl rfl rfl) rfl rfl ?_
          intro ts_ ht_; simp only [sI, sZ, sS] at ht_; subst ht_
          refine sq_take (.int .i64 (nt t1 x7_0.toNat 0)) ⟨HL.out, SWt1.out, SWx5_0.out, trivial⟩ rfl (fun w'_ hS_ => ex_scell sT3 _ _ (Sl.at_ (l := t1) (f := (Value.int .i64)) hS_.2.1.sl 0 HV_20.out (i := x7_0) hc32.out hc31.out) _ rfl rfl) rfl rfl ?_
          intro ts_ ht_; simp only [sI, sZ, sS] at ht_; subst ht_
          refine sq_pure (ut1) rfl (fun w'_ => ex_mv (.tmp 6) (.inl rfl) _ rfl) rfl rfl ?_
          intro ts_ ht_; simp only [sI, sZ, sS] at ht_; subst ht_
          refine sq_pure (.int .i64 x7_0) rfl (fun w'_ => ex_mv (.tmp 7) (.inl rfl) _ rfl) rfl rfl ?_
          intro ts_ ht_; simp only [sI, sZ, sS] at ht_; subst ht_
          refine sq_pure (.int .i64 (wrap64 (x7_0 + 1))) rfl (fun w'_ => by go_simp <;> (unfold wrap64; omega)) rfl rfl ?_
          intro ts_ ht_; simp only [sI, sZ, sS] at ht_; subst ht_
          obtain ⟨ad15, c_25, hv_25, _⟩ := Sl.get (l := t1) (f := (Value.int .i64)) SWt1.out.sl 0 (i := (wrap64 (x7_0 + 1))) hc33.out hc34.out
          have HV_25 := hid hv_25
          clear hv_25
          refine sq_pure (.pointer (some (ad15.add (wrap64 (x7_0 + 1)).toNat))) rfl (fun w'_ => ex_sat _ _ (wrap64 (x7_0 + 1)) _ _ HV_25.out hc33.out hc34.out us27 sT3 _ _ rfl rfl rfl) rfl rfl ?_
          intro ts_ ht_; simp only [sI, sZ, sS] at ht_; subst ht_
          refine sq_take (.int .i64 (nt t1 ((wrap64 (x7_0 + 1)).toNat) 0)) ⟨HL.out, SWt1.out, SWx5_0.out, trivial⟩ rfl (fun w'_ hS_ => ex_scell sT3 _ _ (Sl.at_ (l := t1) (f := (Value.int .i64)) hS_.2.1.sl 0 HV_25.out (i := (wrap64 (x7_0 + 1))) hc33.out hc34.out) _ rfl rfl) rfl rfl ?_
          intro ts_ ht_; simp only [sI, sZ, sS] at ht_; subst ht_
          refine sq_act rfl (fun Q'_ hQ_ => ?_)
          refine wl_call 20 #[.int .i64 a1, .int .i64 (nt t1 x7_0.toNat 0), .int .i64 (nt t1 ((wrap64 (x7_0 + 1)).toNat) 0)] (by go_simp) rfl ((i_alfilref06_Ray.calls k30 a1 (nt t1 x7_0.toNat 0) (nt t1 ((wrap64 (x7_0 + 1)).toNat) 0) t16 _ A35.out).mono ?_)
          rintro e_ w81 ⟨ut16, rfl, so_t16, hb_⟩
          replace so_t16 := so_t16.mono HL.out.size
          have SWn_t16 := hid so_t16
          clear so_t16
          replace SWt1 := hid (SWt1.out.below hb_)
          replace SWx5_0 := hid (SWx5_0.out.below hb_)
          replace HL := hid (HL.out.trans (hb_.mono HL.out.size))
          clear hb_
          have SWt16 := SWn_t16
          clear SWn_t16
          refine ⟨_, rfl, ?_⟩
          refine hQ_ _ _ (fun h_ => absurd h_ (by decide)) ?_
          clear hQ_ Q'_
          simp only [Act.put, sI, sZ, sS]
          refine sq_pure (ut16) rfl (fun w'_ => ex_mv (.tmp 27) (.inr rfl) _ rfl) rfl rfl ?_
          intro ts_ ht_; simp only [sI, sZ, sS] at ht_; subst ht_
          refine sq_end ?_
          clear WR64 WR32 WR8 WRU
          have k90 := True.intro
          go_wp2_with (first
           | ((with_reducible refine gate_d (N := 29) rfl ?_); obtain ⟨A82, c83, hv84⟩ := SWt16.out.sl.shape; rw [List.length_map] at hv84; refine ag_fix (.int .i64 (t16.length : Int)) (ex_len us27 _ _ _ _ hv84 _ rfl rfl) rfl ?_; clear hv84)
           | ((with_reducible refine gate_d (N := 39) rfl ?_); obtain ⟨A85, c86, hv87⟩ := SWt16.out.sl.shape; rw [List.length_map] at hv87; refine ag_fix (.int .i64 (t16.length : Int)) (ex_len us27 _ _ _ _ hv87 _ rfl rfl) rfl ?_; clear hv87)
           | ((with_reducible refine gate_d (N := 43) rfl ?_); obtain ⟨gb24, hgb24⟩ : ∃ g_, w81.heap.size = g_ := ⟨_, rfl⟩; refine ag_lit sT27 (ut16) gb24 hgb24 rfl _ rfl rfl (fun w_ => by obtain ⟨A_, c_, h_⟩ := SWt16.out.shape; rw [h_]; kernel_rfl) ?_; intro w88 hb_ hB_ hs_; have GEb24 : Hid (w.heap.size ≤ gb24) := hid (by have := HL.out.size; omega); replace SWt1 := hid (SWt1.out.below (by rw [hgb24]; exact hb_)); replace SWx5_0 := hid (SWx5_0.out.below (by rw [hgb24]; exact hb_)); replace SWt16 := hid (SWt16.out.below (by rw [hgb24]; exact hb_)); replace HL := hid (HL.out.trans (hb_.mono GEb24.out)); have BKb24 := hid hB_; clear hb_ hB_ hs_ hgb24)
           | (at_builtin; clear k90; refine app_sl eT92 w.heap.size (ux5_0) x5_0 t16 (ut16) gb24 1 SWx5_0.out (by decide) SWt16.out.slT BKb24.out (by have h_ := hc75.out; omega) (by have h_ := hc75.out; unfold maxLen; omega) HL.out.size rfl _ _ rfl rfl rfl ?_; intro uo25 w89 ho_ hb_ hk_ hi_; clear SWx5_0; have SWo25 : Hid (OwnS w89 w.heap.size 27 3 (Value.int .i64) uo25 (x5_0 ++ [t16])) := hid ho_; replace SWt1 := hid (SWt1.out.move fun g_ cs_ _ hh_ => hk_ g_ _ cs_ (by decide) hh_); replace SWt16 := hid (SWt16.out.move fun g_ cs_ _ hh_ => hk_ g_ _ cs_ (by decide) hh_); replace HL := hid (HL.out.trans hb_); clear ho_ hb_ hk_ hi_ BKb24))
          (try simp only [Act.put, sI, sZ, sS])
          go_roundg k30
          case measure => have := HK29.out; omega
          case rel => exact ⟨x5_0 ++ [t16], (uo25), wrap64 (x7_0 + 2), (by first | rfl | (simp; done) | (simp [*]; done)), (by first | rfl | (simp; done) | (simp [*]; done)), H', (hid (by first | omega | (have := HK29.out; omega))), SWt1, SWo25, HL⟩
         ·
          rw [if_neg c75] at H
          exact absurd H (by simp)
        ·
         rw [if_neg c74] at H
         have c74b0 : decide (0 < (t16.length : Int)) = false := decide_eq_false c74
         have c74b1 : decide (0 < t16.length) = false := decide_eq_false (by omega)
         have hc74 := hid c74
         clear c74
         have H' := hid H
         clear H
         go_wp2_with (first
          | ((with_reducible refine gate_d (N := 13) rfl ?_); obtain ⟨A91, c92, hv93⟩ := SWt1.out.sl.shape; rw [List.length_map] at hv93; refine ag_fix (.int .i64 (t1.length : Int)) (ex_len us27 _ _ _ _ hv93 _ rfl rfl) rfl ?_; clear hv93))
         (try simp only [Act.put, sI, sZ, sS])
         have WR64 := i64_w
         have WR32 := i32_w
         have WR8 := u8_w
         have WRU := u32_w
         refine sq_region (fun w'_ => Below w.heap.size w w'_ ∧ Own w'_ w.heap.size 3 (ut1) (t1.map (Value.int .i64)) ∧ OwnS w'_ w.heap.size 27 3 (Value.int .i64) ux5_0 x5_0 ∧ True) [10] [(0, 2), (1, 2), (2, 2), (3, 2), (4, 1), (5, 2), (6, 2), (7, 2), (8, 2), (9, 1), (10, 0), (11, 2)] (by kernel_rfl) (by kernel_rfl) (by kernel_rfl) rfl ?_
         intro w94 hb_
         replace SWt1 := hid (SWt1.out.below hb_)
         replace SWx5_0 := hid (SWx5_0.out.below hb_)
         replace HL := hid (HL.out.trans (hb_.mono HL.out.size))
         clear hb_
         refine sq_pure (.int .i64 a1) rfl (fun w'_ => ex_mv (.tmp 1) (.inl rfl) _ rfl) rfl rfl ?_
         intro ts_ ht_; simp only [sI, sZ, sS] at ht_; subst ht_
         refine sq_pure (ut1) rfl (fun w'_ => ex_mv (.tmp 6) (.inl rfl) _ rfl) rfl rfl ?_
         intro ts_ ht_; simp only [sI, sZ, sS] at ht_; subst ht_
         refine sq_pure (.int .i64 x7_0) rfl (fun w'_ => ex_mv (.tmp 7) (.inl rfl) _ rfl) rfl rfl ?_
         intro ts_ ht_; simp only [sI, sZ, sS] at ht_; subst ht_
         obtain ⟨ad14, c_20, hv_20, _⟩ := Sl.get (l := t1) (f := (Value.int .i64)) SWt1.out.sl 0 (i := x7_0) hc32.out hc31.out
         have HV_20 := hid hv_20
         clear hv_20
         refine sq_pure (.pointer (some (ad14.add x7_0.toNat))) rfl (fun w'_ => ex_sat _ _ x7_0 _ _ HV_20.out hc32.out hc31.out us27 sT3 _ _ rfl rfl rfl) rfl rfl ?_
         intro ts_ ht_; simp only [sI, sZ, sS] at ht_; subst ht_
         refine sq_take (.int .i64 (nt t1 x7_0.toNat 0)) ⟨HL.out, SWt1.out, SWx5_0.out, trivial⟩ rfl (fun w'_ hS_ => ex_scell sT3 _ _ (Sl.at_ (l := t1) (f := (Value.int .i64)) hS_.2.1.sl 0 HV_20.out (i := x7_0) hc32.out hc31.out) _ rfl rfl) rfl rfl ?_
         intro ts_ ht_; simp only [sI, sZ, sS] at ht_; subst ht_
         refine sq_pure (ut1) rfl (fun w'_ => ex_mv (.tmp 6) (.inl rfl) _ rfl) rfl rfl ?_
         intro ts_ ht_; simp only [sI, sZ, sS] at ht_; subst ht_
         refine sq_pure (.int .i64 x7_0) rfl (fun w'_ => ex_mv (.tmp 7) (.inl rfl) _ rfl) rfl rfl ?_
         intro ts_ ht_; simp only [sI, sZ, sS] at ht_; subst ht_
         refine sq_pure (.int .i64 (wrap64 (x7_0 + 1))) rfl (fun w'_ => by go_simp <;> (unfold wrap64; omega)) rfl rfl ?_
         intro ts_ ht_; simp only [sI, sZ, sS] at ht_; subst ht_
         obtain ⟨ad15, c_25, hv_25, _⟩ := Sl.get (l := t1) (f := (Value.int .i64)) SWt1.out.sl 0 (i := (wrap64 (x7_0 + 1))) hc33.out hc34.out
         have HV_25 := hid hv_25
         clear hv_25
         refine sq_pure (.pointer (some (ad15.add (wrap64 (x7_0 + 1)).toNat))) rfl (fun w'_ => ex_sat _ _ (wrap64 (x7_0 + 1)) _ _ HV_25.out hc33.out hc34.out us27 sT3 _ _ rfl rfl rfl) rfl rfl ?_
         intro ts_ ht_; simp only [sI, sZ, sS] at ht_; subst ht_
         refine sq_take (.int .i64 (nt t1 ((wrap64 (x7_0 + 1)).toNat) 0)) ⟨HL.out, SWt1.out, SWx5_0.out, trivial⟩ rfl (fun w'_ hS_ => ex_scell sT3 _ _ (Sl.at_ (l := t1) (f := (Value.int .i64)) hS_.2.1.sl 0 HV_25.out (i := (wrap64 (x7_0 + 1))) hc33.out hc34.out) _ rfl rfl) rfl rfl ?_
         intro ts_ ht_; simp only [sI, sZ, sS] at ht_; subst ht_
         refine sq_act rfl (fun Q'_ hQ_ => ?_)
         refine wl_call 20 #[.int .i64 a1, .int .i64 (nt t1 x7_0.toNat 0), .int .i64 (nt t1 ((wrap64 (x7_0 + 1)).toNat) 0)] (by go_simp) rfl ((i_alfilref06_Ray.calls k30 a1 (nt t1 x7_0.toNat 0) (nt t1 ((wrap64 (x7_0 + 1)).toNat) 0) t16 _ A35.out).mono ?_)
         rintro e_ w96 ⟨ut16, rfl, so_t16, hb_⟩
         replace so_t16 := so_t16.mono HL.out.size
         have SWn_t16 := hid so_t16
         clear so_t16
         replace SWt1 := hid (SWt1.out.below hb_)
         replace SWx5_0 := hid (SWx5_0.out.below hb_)
         replace HL := hid (HL.out.trans (hb_.mono HL.out.size))
         clear hb_
         have SWt16 := SWn_t16
         clear SWn_t16
         refine ⟨_, rfl, ?_⟩
         refine hQ_ _ _ (fun h_ => absurd h_ (by decide)) ?_
         clear hQ_ Q'_
         simp only [Act.put, sI, sZ, sS]
         refine sq_pure (ut16) rfl (fun w'_ => ex_mv (.tmp 27) (.inr rfl) _ rfl) rfl rfl ?_
         intro ts_ ht_; simp only [sI, sZ, sS] at ht_; subst ht_
         refine sq_end ?_
         clear WR64 WR32 WR8 WRU
         go_wp2_with (first
          | ((with_reducible refine gate_d (N := 29) rfl ?_); obtain ⟨A97, c98, hv99⟩ := SWt16.out.sl.shape; rw [List.length_map] at hv99; refine ag_fix (.int .i64 (t16.length : Int)) (ex_len us27 _ _ _ _ hv99 _ rfl rfl) rfl ?_; clear hv99)
          | ((with_reducible refine gate_d (N := 39) rfl ?_); obtain ⟨A100, c101, hv102⟩ := SWt16.out.sl.shape; rw [List.length_map] at hv102; refine ag_fix (.int .i64 (t16.length : Int)) (ex_len us27 _ _ _ _ hv102 _ rfl rfl) rfl ?_; clear hv102))
         (try simp only [Act.put, sI, sZ, sS])
         go_roundg k30
         case measure => have := HK29.out; omega
         case rel => exact ⟨x5_0, (ux5_0), wrap64 (x7_0 + 2), (by first | rfl | (simp; done) | (simp [*]; done)), (by first | rfl | (simp; done) | (simp [*]; done)), H', (hid (by first | omega | (have := HK29.out; omega))), SWt1, SWx5_0, HL⟩
      ·
       rw [if_neg c34] at H
       exact absurd H (by simp)
     ·
      rw [if_neg c33] at H
      exact absurd H (by simp)
    ·
     rw [if_neg c32] at H
     exact absurd H (by simp)
   ·
    rw [if_neg c31] at H
    have c31b0 : decide (x7_0 < (t1.length : Int)) = false := decide_eq_false c31
    have hc31 := hid c31
    clear c31
    obtain rfl := Option.some.inj H
    clear H
    go_wp2_with (first
     | ((with_reducible refine gate_d (N := 13) rfl ?_); obtain ⟨A103, c104, hv105⟩ := SWt1.out.sl.shape; rw [List.length_map] at hv105; refine ag_fix (.int .i64 (t1.length : Int)) (ex_len us27 _ _ _ _ hv105 _ rfl rfl) rfl ?_; clear hv105))
    (try simp only [Act.put, sI, sZ, sS])
    go_ret
    exact ⟨_, rfl, (by exact SWx5_0.out), HL.out⟩
end Go.Proofs.Ytpjocgebnodnoaa
