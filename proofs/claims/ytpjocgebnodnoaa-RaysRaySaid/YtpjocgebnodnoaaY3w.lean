/- The walks of the laws of rays. -/
import Derived.Test.YtpjocgebnodnoaaProg
import Derived.Test.YtpjocgebnodnoaaYo
import Derived.Test.YtpjocgebnodnoaaY2w
namespace Go.Proofs.Ytpjocgebnodnoaa
open Go.RowKit
set_option linter.unusedVariables false
set_option linter.unusedSimpArgs false
set_option maxRecDepth 100000
theorem us25 : Try.prog.underlying 25 = some (.slice 29) := by kernel_rfl
theorem aT29_agg (w : World) : (isAgg 29).run Try.prog w = .ok true w := by kernel_rfl
theorem aT29_size (w : World) : (sizeOf 29).run Try.prog w = .ok 1 w := by kernel_rfl
theorem aT29_zero (w : World) : (zeroValue 29).run Try.prog w = .ok (.agg #[.slice none 0 0]) w := by kernel_rfl
theorem aT29 : AggT Try.prog 29 1 #[.slice none 0 0] := ⟨aT29_agg, aT29_size, aT29_zero, by first | rfl | decide⟩
theorem fa29_0_0 (g : Nat) (w : World) : (Instr.fieldAt 29 (.pointer (some ⟨g, 0, none⟩)) 0).run Try.prog w = .ok (.pointer (some ⟨g, 0, none⟩)) w := by kernel_rfl
theorem fz29_0 (b : Addr) (w : World) : (Instr.fieldAt 29 (.pointer (some b)) 0).run Try.prog w = .ok (.pointer (some b)) w := by kernel_rfl
/-! i_rays_Table_Line: function 17 -/
mutual
def i_rays_Table_Line.l0 : Nat → Int → List ((List Int)) → Int → Option ((List Int))
  | 0, _, _, _ => none
  | k + 1, a2, t1, x15_0 => if x15_0 < (t1.length : Int) then (if 0 ≤ x15_0 then (i_rays_Table_Line.l1 k a2 x15_0 t1 0) else (none)) else (some ([] : List Int))
def i_rays_Table_Line.l1 : Nat → Int → Int → List ((List Int)) → Int → Option ((List Int))
  | 0, _, _, _, _ => none
  | k + 1, a2, x15_0, t1, x22_1 => if x22_1 < ((nt t1 x15_0.toNat []).length : Int) then (if 0 ≤ x22_1 then (if (nt (nt t1 x15_0.toNat []) x22_1.toNat 0) = a2 then (if x22_1 ≤ ((nt t1 x15_0.toNat []).length : Int) then ((some ((nt t1 x15_0.toNat []).take x22_1.toNat)).bind fun s19 => (some s19)) else (none)) else (i_rays_Table_Line.l1 k a2 x15_0 t1 (wrap64 (x22_1 + 1)))) else (none)) else (i_rays_Table_Line.l0 k a2 t1 (wrap64 (x15_0 + 1)))
end
def i_rays_Table_Line.f (k : Nat) (a0 : Bool) (a1 : Int) (a2 : Int) : Option ((List Int)) := (i_rays_Table_Of.f k a0 5 a1).bind fun t1 => (i_rays_Table_Line.l0 k a2 t1 0)
def i_rays_Table_Line.post (r1 : List Int) (w : World) (e : Ending) (w' : World) : Prop := ∃ (u_r1 : Value), e = .returned (u_r1) ∧ SlT w' 3 u_r1 (r1.map (Value.int .i64)) ∧ Below w.heap.size w w'
set_option maxHeartbeats 40000000 in
set_option maxRecDepth 100000 in
theorem i_rays_Table_Line.calls (k : Nat) (v0_ : Value) (a0 : Bool) (a1 : Int) (a2 : Int) (r1 : List Int) (w : World) (hs0 : RTb w v0_ a0) (h : i_rays_Table_Line.f k a0 a1 a2 = some r1) :
    Calls Try.prog 17 #[v0_, .int .i64 a1, .int .i64 a2] w (i_rays_Table_Line.post r1 w) := by
 have HL := hid (Below.refl w.heap.size w)
 have SP0 := hid hs0
 clear hs0
 have H : ((i_rays_Table_Of.f k a0 5 a1).bind fun t1 => (i_rays_Table_Line.l0 k a2 t1 0)) = some r1 := h
 clear h
 replace H := Option.bind_eq_some_iff.mp H
 obtain ⟨t1, A20_, H⟩ := H
 have A20 := hid A20_
 clear A20_
 have H' := hid H
 clear H
 go_enter Try.func17, Try.ntmps17
 have k21 := True.intro
 go_wp2_with (first
  | (go_at_call 15; clear k21; refine (i_rays_Table_Of.calls k (v0_) a0 5 a1 t1 _ (SP0.out.below HL.out) A20.out).mono ?_; rintro e_ w22 ⟨ut1, rfl, so_t1, hb_⟩; replace so_t1 := so_t1.mono HL.out.size; have SWn_t1 := hid so_t1; clear so_t1; replace HL := hid (HL.out.trans (hb_.mono HL.out.size)); clear hb_; have SWt1 := SWn_t1; clear SWn_t1)
  | ((with_reducible refine gate_d (N := 14) rfl ?_); obtain ⟨A23, c24, hv25⟩ := SWt1.out.slS.shape; skip; refine ag_fix (.int .i64 (t1.length : Int)) (ex_len us25 _ _ _ _ hv25 _ rfl rfl) rfl ?_; clear hv25))
 (try simp only [Act.put, sI, sZ, sS])
 go_loopg [15] k (fun kq v15 w' => ∃ (x15_0 : Int), v15 = .int .i64 x15_0 ∧ Hid (i_rays_Table_Line.l0 kq a2 t1 x15_0 = some r1) ∧ Hid (kq ≤ k) ∧ Hid (OwnS w' w.heap.size 29 3 (Value.int .i64) ut1 t1) ∧ Hid (Below w.heap.size w w'))
 case atStart => exact ⟨(0 : Int), (by first | rfl | (simp; done) | (simp [*]; done)), H', (hid (by first | omega | (omega))), SWt1, HL⟩
 case round =>
  clear H'
  clear HL SWt1
  obtain ⟨x15_0, rfl, HA, HK26, SWt1, HL⟩ := hrel
  cases gk with
  | zero => exact absurd HA.out (by simp [i_rays_Table_Line.l0])
  | succ k27 =>
   have H := HA.out
   clear HA
   simp only [i_rays_Table_Line.l0] at H
   by_cases c28 : x15_0 < (t1.length : Int)
   ·
    rw [if_pos c28] at H
    have c28b0 : decide (x15_0 < (t1.length : Int)) = true := decide_eq_true c28
    have hc28 := hid c28
    clear c28
    by_cases c29 : 0 ≤ x15_0
    ·
     rw [if_pos c29] at H
     have c29b0 : decide (0 ≤ x15_0) = true := decide_eq_true c29
     have hc29 := hid c29
     clear c29
     have H' := hid H
     clear H
     go_wp2_with (first
      | ((with_reducible refine gate_d (N := 17) rfl ?_); obtain ⟨ad11, c30, uead11, hv31, HCad11_, HEad11_⟩ := SlS.get SWt1.out.slS (i := x15_0) hc29.out hc28.out; have HCad11 := hid HCad11_; have HEad11 := hid HEad11_; clear HCad11_ HEad11_; refine ag_fix (.pointer (some (ad11.add x15_0.toNat))) ((ex_satN _ _ x15_0 _ _ hv31 hc29.out hc28.out us25 aT29.size _ _ rfl rfl rfl).trans (by rw [Nat.mul_one])) rfl ?_; clear hv31)
      | ((with_reducible refine gate_d (N := 18) rfl ?_); have SWo12 : Hid (SlT wr 3 uead11 ((nt t1 x15_0.toNat []).map (Value.int .i64))) := hid HEad11.out; refine ag_fix (.agg #[uead11]) (ex_ldN aT29 _ [uead11] rfl (by intro j_ hj_; obtain rfl : j_ = 0 := (by omega); exact HCad11.out) _ rfl rfl) rfl ?_)
      | ((with_reducible refine gate_d (N := 8) rfl ?_); obtain ⟨gb13, hgb13⟩ : ∃ g_, wr.heap.size = g_ := ⟨_, rfl⟩; refine ag_alst aT29 #[uead11] gb13 hgb13 rfl (by intro v_ hv_; simp at hv_; rcases hv_ with rfl <;> first | rfl | exact SWo12.out.one) rfl rfl 8 rfl _ _ rfl (fun _ => rfl) (fun _ => rfl) rfl ?_; intro w32 hb_ hB_ hs_; have GEb13 : Hid (w.heap.size ≤ gb13) := hid (by have := HL.out.size; omega); replace SWt1 := hid (SWt1.out.below (by rw [hgb13]; exact hb_)); replace SWo12 := hid (SWo12.out.below (by rw [hgb13]; exact hb_)); replace HL := hid (HL.out.trans (hb_.mono GEb13.out)); have BKb13 := hid hB_; clear hb_ hB_ hs_ hgb13)
      | ((with_reducible refine gate_d (N := 19) rfl ?_); refine ag_fix (.pointer (some ⟨gb13, 0, none⟩)) (ex_field 29 0 (.pointer (some ⟨gb13, 0, none⟩)) (.pointer (some ⟨gb13, 0, none⟩)) (fa29_0_0 gb13) _ rfl rfl) rfl ?_)
      | ((with_reducible refine gate_d (N := 20) rfl ?_); refine ag_fix (uead11) (ex_get sT27 gb13 (0) (uead11) (#[uead11]) BKb13.out rfl _ rfl rfl) rfl ?_)
      | ((with_reducible refine gate_d (N := 21) rfl ?_); obtain ⟨A33, c34, hv35⟩ := SWo12.out.sl.shape; rw [List.length_map] at hv35; refine ag_fix (.int .i64 ((nt t1 x15_0.toNat []).length : Int)) (ex_len us27 _ _ _ _ hv35 _ rfl rfl) rfl ?_; clear hv35))
     (try simp only [Act.put, sI, sZ, sS])
     go_loopg [22] k27 (fun kq v22 w' => ∃ (x22_1 : Int), v22 = .int .i64 x22_1 ∧ Hid (i_rays_Table_Line.l1 kq a2 x15_0 t1 x22_1 = some r1) ∧ Hid (kq ≤ k27) ∧ Hid (Blk w' gb13 29 #[uead11]) ∧ Hid (OwnS w' w.heap.size 29 3 (Value.int .i64) ut1 t1) ∧ Hid (SlT w' 3 uead11 ((nt t1 x15_0.toNat []).map (Value.int .i64))) ∧ Hid (Below w.heap.size w w'))
     case atStart => exact ⟨(0 : Int), (by first | rfl | (simp; done) | (simp [*]; done)), H', (hid (by first | omega | (have := HK26.out; omega))), (hid (by exact BKb13.out)), SWt1, SWo12, HL⟩
     case round =>
      clear H'
      clear HL BKb13 SWt1 SWo12
      obtain ⟨x22_1, rfl, HA, HK36, BKb13, SWt1, SWo12, HL⟩ := hrel
      cases gk with
      | zero => exact absurd HA.out (by simp [i_rays_Table_Line.l1])
      | succ k37 =>
       have H := HA.out
       clear HA
       simp only [i_rays_Table_Line.l1] at H
       by_cases c38 : x22_1 < ((nt t1 x15_0.toNat []).length : Int)
       ·
        rw [if_pos c38] at H
        have c38b0 : decide (x22_1 < ((nt t1 x15_0.toNat []).length : Int)) = true := decide_eq_true c38
        have hc38 := hid c38
        clear c38
        by_cases c39 : 0 ≤ x22_1
        ·
         rw [if_pos c39] at H
         have c39b0 : decide (0 ≤ x22_1) = true := decide_eq_true c39
         have hc39 := hid c39
         clear c39
         by_cases c40 : (nt (nt t1 x15_0.toNat []) x22_1.toNat 0) = a2
         ·
          rw [if_pos c40] at H
          have c40b0 : ((nt (nt t1 x15_0.toNat []) x22_1.toNat 0) == a2) = true := beq_iff_eq.mpr c40
          have c40b1 : ((nt (nt t1 x15_0.toNat []) x22_1.toNat 0) != a2) = false := bne_eq_false_iff_eq.mpr c40
          have hc40 := hid c40
          clear c40
          by_cases c41 : x22_1 ≤ ((nt t1 x15_0.toNat []).length : Int)
          ·
           rw [if_pos c41] at H
           have c41b0 : decide (x22_1 ≤ ((nt t1 x15_0.toNat []).length : Int)) = true := decide_eq_true c41
           have hc41 := hid c41
           clear c41
           replace H := Option.bind_eq_some_iff.mp H
           obtain ⟨s19, A42_, H⟩ := H
           have A42 := hid A42_
           clear A42_
           obtain rfl := Option.some.inj H
           clear H
           go_wp2_with (first
            | ((with_reducible refine gate_d (N := 25) rfl ?_); obtain ⟨ad17, c43, hv44, HCad17_⟩ := Sl.get (l := nt t1 x15_0.toNat []) (f := (Value.int .i64)) SWo12.out.sl 0 (i := x22_1) hc39.out hc38.out; have HCad17 := hid HCad17_; clear HCad17_; refine ag_fix (.pointer (some (ad17.add x22_1.toNat))) (ex_sat _ _ x22_1 _ _ hv44 hc39.out hc38.out us27 sT3 _ _ rfl rfl rfl) rfl ?_; have HVAad17 := hid hv44; clear hv44)
            | ((with_reducible refine gate_d (N := 26) rfl ?_); refine ag_fix (.int .i64 (nt (nt t1 x15_0.toNat []) x22_1.toNat 0)) (ex_scell sT3 _ _ HCad17.out _ rfl rfl) rfl ?_)
            | ((with_reducible refine gate_d (N := 30) rfl ?_); refine ag_fix (.pointer (some ⟨gb13, 0, none⟩)) (ex_field 29 0 (.pointer (some ⟨gb13, 0, none⟩)) (.pointer (some ⟨gb13, 0, none⟩)) (fa29_0_0 gb13) _ rfl rfl) rfl ?_)
            | ((with_reducible refine gate_d (N := 31) rfl ?_); refine ag_fix (uead11) (ex_get sT27 gb13 (0) (uead11) (#[uead11]) BKb13.out rfl _ rfl rfl) rfl ?_)
            | ((with_reducible refine gate_d (N := 34) rfl ?_); obtain ⟨Am45, nm45, cm45, hvm45, hnm45, hcm45, ham45, hbm45⟩ := SlT.upto (l := (nt t1 x15_0.toNat [])) (f := (Value.int .i64)) SWo12.out.slT (i := x22_1) hc39.out hc41.out; refine ag_fix (.slice Am45 x22_1.toNat x22_1.toNat) (ex_slhm us27 ⟨_, sT3.size⟩ _ _ _ _ hvm45 x22_1 hc39.out hnm45 hcm45 _ _ _ rfl rfl rfl rfl) rfl ?_; obtain ⟨uo18, hu_⟩ : ∃ u_, u_ = (Value.slice Am45 x22_1.toNat x22_1.toNat) := ⟨_, rfl⟩; have SWo18 : Hid (SlT wr 3 uo18 (s19.map (Value.int .i64))) := hid (by rw [hu_, ← Option.some.inj A42.out]; exact hbm45); rw [← hu_]; clear hu_ hvm45 hnm45 hcm45 ham45 hbm45))
           (try simp only [Act.put, sI, sZ, sS])
           go_ret
           exact ⟨_, rfl, (by exact SWo18.out), HL.out⟩
          ·
           rw [if_neg c41] at H
           exact absurd H (by simp)
         ·
          rw [if_neg c40] at H
          have c40b0 : ((nt (nt t1 x15_0.toNat []) x22_1.toNat 0) == a2) = false := beq_eq_false_iff_ne.mpr c40
          have c40b1 : ((nt (nt t1 x15_0.toNat []) x22_1.toNat 0) != a2) = true := bne_iff_ne.mpr c40
          have hc40 := hid c40
          clear c40
          have H' := hid H
          clear H
          go_wp2_with (first
           | ((with_reducible refine gate_d (N := 25) rfl ?_); obtain ⟨ad17, c46, hv47, HCad17_⟩ := Sl.get (l := nt t1 x15_0.toNat []) (f := (Value.int .i64)) SWo12.out.sl 0 (i := x22_1) hc39.out hc38.out; have HCad17 := hid HCad17_; clear HCad17_; refine ag_fix (.pointer (some (ad17.add x22_1.toNat))) (ex_sat _ _ x22_1 _ _ hv47 hc39.out hc38.out us27 sT3 _ _ rfl rfl rfl) rfl ?_; have HVAad17 := hid hv47; clear hv47)
           | ((with_reducible refine gate_d (N := 26) rfl ?_); refine ag_fix (.int .i64 (nt (nt t1 x15_0.toNat []) x22_1.toNat 0)) (ex_scell sT3 _ _ HCad17.out _ rfl rfl) rfl ?_))
          (try simp only [Act.put, sI, sZ, sS])
          go_roundg k37
          case measure => have := HK26.out; have := HK36.out; omega
          case rel => exact ⟨wrap64 (x22_1 + 1), (by first | rfl | (simp; done) | (simp [*]; done)), H', (hid (by first | omega | (have := HK26.out; have := HK36.out; omega))), (hid (by exact BKb13.out)), SWt1, SWo12, HL⟩
        ·
         rw [if_neg c39] at H
         exact absurd H (by simp)
       ·
        rw [if_neg c38] at H
        have c38b0 : decide (x22_1 < ((nt t1 x15_0.toNat []).length : Int)) = false := decide_eq_false c38
        have hc38 := hid c38
        clear c38
        have H' := hid H
        clear H
        go_wp2_with fail
        (try simp only [Act.put, sI, sZ, sS])
        go_roundg k37
        case measure => have := HK26.out; have := HK36.out; omega
        case rel => exact ⟨wrap64 (x15_0 + 1), (by first | rfl | (simp; done) | (simp [*]; done)), H', (hid (by first | omega | (have := HK26.out; have := HK36.out; omega))), SWt1, HL⟩
    ·
     rw [if_neg c29] at H
     exact absurd H (by simp)
   ·
    rw [if_neg c28] at H
    have c28b0 : decide (x15_0 < (t1.length : Int)) = false := decide_eq_false c28
    have hc28 := hid c28
    clear c28
    obtain rfl := Option.some.inj H
    clear H
    go_wp2_with fail
    (try simp only [Act.put, sI, sZ, sS])
    go_ret
    exact ⟨_, rfl, (SlT.nil _ _), HL.out⟩
/-! i_alfillaw06_wakes: function 13 -/
def i_alfillaw06_wakes.f (k : Nat)  : Option (Bool) := (i_rays_Make.f k).bind fun t1 => ((i_rays_Table_Of.f k t1 4 0).bind fun t2 => (if (t2.length : Int) = 2 then (if 0 < (t2.length : Int) then ((i_alfilref01_Same.f k (nt t2 0 []) [8, 16, 24, 32, 40, 48, 56]).bind fun t6 => (if t6 = true then ((i_rays_Table_Line.f k t1 0 63).bind fun t7 => ((i_alfilref01_Same.f k t7 [9, 18, 27, 36, 45, 54]).bind fun t9 => (some t9))) else (some false))) else (none)) else (some false)))
set_option maxHeartbeats 40000000 in
set_option maxRecDepth 100000 in
theorem i_alfillaw06_wakes.calls (k : Nat) (r1 : Bool) (w : World) (h : i_alfillaw06_wakes.f k = some r1) :
    Calls Try.prog 13 #[] w fun e w' => e = .returned (.bool r1) ∧ Below w.heap.size w w' := by
 have HL := hid (Below.refl w.heap.size w)
 have H : ((i_rays_Make.f k).bind fun t1 => ((i_rays_Table_Of.f k t1 4 0).bind fun t2 => (if (t2.length : Int) = 2 then (if 0 < (t2.length : Int) then ((i_alfilref01_Same.f k (nt t2 0 []) [8, 16, 24, 32, 40, 48, 56]).bind fun t6 => (if t6 = true then ((i_rays_Table_Line.f k t1 0 63).bind fun t7 => ((i_alfilref01_Same.f k t7 [9, 18, 27, 36, 45, 54]).bind fun t9 => (some t9))) else (some false))) else (none)) else (some false)))) = some r1 := h
 clear h
 replace H := Option.bind_eq_some_iff.mp H
 obtain ⟨t1, A10_, H⟩ := H
 have A10 := hid A10_
 clear A10_
 have H' := hid H
 clear H
 go_enter Try.func13, Try.ntmps13
 have k12 := True.intro
 go_wp2_with (first
  | (go_at_call 14; clear k12; refine (i_rays_Make.calls k t1 _ A10.out).mono ?_; rintro e_ w13 ⟨ut1, rfl, so_t1, hb_⟩; have SWn_t1 := hid so_t1; clear so_t1; replace HL := hid (HL.out.trans (hb_.mono HL.out.size)); clear hb_; have SWt1 := SWn_t1; clear SWn_t1))
 (try simp only [Act.put, sI, sZ, sS])
 have H := H'.out
 clear H'
 replace H := Option.bind_eq_some_iff.mp H
 obtain ⟨t2, A11_, H⟩ := H
 have A11 := hid A11_
 clear A11_
 by_cases c14 : (t2.length : Int) = 2
 ·
  rw [if_pos c14] at H
  have c14b0 : ((t2.length : Int) == 2) = true := beq_iff_eq.mpr c14
  have c14b1 : ((t2.length : Int) != 2) = false := bne_eq_false_iff_eq.mpr c14
  have hc14 := hid c14
  clear c14
  by_cases c15 : 0 < (t2.length : Int)
  ·
   rw [if_pos c15] at H
   have c15b0 : decide (0 < (t2.length : Int)) = true := decide_eq_true c15
   have c15b1 : decide (0 < t2.length) = true := decide_eq_true (by omega)
   have hc15 := hid c15
   clear c15
   have H' := hid H
   clear H
   have k17 := True.intro
   go_wp2_with (first
    | (go_at_call 15; clear k17; refine (i_rays_Table_Of.calls k (ut1) t1 4 0 t2 _ SWt1.out A11.out).mono ?_; rintro e_ w18 ⟨ut2, rfl, so_t2, hb_⟩; replace so_t2 := so_t2.mono HL.out.size; have SWn_t2 := hid so_t2; clear so_t2; replace SWt1 := hid (SWt1.out.below hb_); replace HL := hid (HL.out.trans (hb_.mono HL.out.size)); clear hb_; have SWt2 := SWn_t2; clear SWn_t2)
    | ((with_reducible refine gate_d (N := 7) rfl ?_); obtain ⟨A19, c20, hv21⟩ := SWt2.out.slS.shape; skip; refine ag_fix (.int .i64 (t2.length : Int)) (ex_len us25 _ _ _ _ hv21 _ rfl rfl) rfl ?_; clear hv21)
    | ((with_reducible refine gate_d (N := 11) rfl ?_); obtain ⟨ad3, c22, uead3, hv23, HCad3_, HEad3_⟩ := SlS.get SWt2.out.slS (i := 0) (by omega) hc15.out; have HCad3 := hid HCad3_; have HEad3 := hid HEad3_; clear HCad3_ HEad3_; refine ag_fix (.pointer (some (ad3.add (0 : Int).toNat))) ((ex_satN _ _ 0 _ _ hv23 (by omega) hc15.out us25 aT29.size _ _ rfl rfl rfl).trans (by rw [Nat.mul_one])) rfl ?_; clear hv23)
    | ((with_reducible refine gate_d (N := 12) rfl ?_); refine ag_fix (.pointer (some (ad3.add (0 : Int).toNat))) (ex_field 29 0 (.pointer (some (ad3.add (0 : Int).toNat))) (.pointer (some (ad3.add (0 : Int).toNat))) (fz29_0 _) _ rfl rfl) rfl ?_)
    | ((with_reducible refine gate_d (N := 13) rfl ?_); have SWo4 : Hid (SlT w18 3 uead3 ((nt t2 0 []).map (Value.int .i64))) := hid HEad3.out; refine ag_fix (uead3) (ex_scell sT27 _ _ HCad3.out _ rfl rfl) rfl ?_)
    | ((with_reducible refine gate_d (N := 14) rfl ?_); obtain ⟨go5, hgo5⟩ : ∃ g_, w18.heap.size = g_ := ⟨_, rfl⟩; refine ag_litn (e := 3) 7 #[.int .i64 8, .int .i64 16, .int .i64 24, .int .i64 32, .int .i64 40, .int .i64 48, .int .i64 56] go5 hgo5 rfl _ rfl (fun w_ => by (try simp only [List.map_toArray, List.map_cons, List.map_nil]); kernel_rfl) ?_; intro w24 hb_ hB_ hs_; have GEo5 : Hid (w.heap.size ≤ go5) := hid (by have := HL.out.size; omega); replace SWt1 := hid (SWt1.out.below (by rw [hgo5]; exact hb_)); replace SWt2 := hid (SWt2.out.below (by rw [hgo5]; exact hb_)); replace SWo4 := hid (SWo4.out.below (by rw [hgo5]; exact hb_)); replace HL := hid (HL.out.trans (hb_.mono GEo5.out)); have BKo5 := hid hB_; clear hb_ hB_ hs_ hgo5; obtain ⟨uo5, hu_⟩ : ∃ u_, u_ = (Value.slice (some ⟨go5, 0, none⟩) 7 7) := ⟨_, rfl⟩; have SWo5 : Hid (Own w24 w.heap.size 3 (uo5) ([8, 16, 24, 32, 40, 48, 56].map (Value.int .i64))) := hid (by rw [hu_]; exact Own.lit GEo5.out BKo5.out rfl (by simp [maxLen])); rw [← hu_]; clear hu_ BKo5))
   (try simp only [Act.put, sI, sZ, sS])
   have H := H'.out
   clear H'
   replace H := Option.bind_eq_some_iff.mp H
   obtain ⟨t6, A16_, H⟩ := H
   have A16 := hid A16_
   clear A16_
   cases t6 with
   | true =>
    rw [if_pos rfl] at H
    replace H := Option.bind_eq_some_iff.mp H
    obtain ⟨t7, A26_, H⟩ := H
    have A26 := hid A26_
    clear A26_
    replace H := Option.bind_eq_some_iff.mp H
    obtain ⟨t9, A27_, H⟩ := H
    have A27 := hid A27_
    clear A27_
    obtain rfl := Option.some.inj H
    clear H
    have k28 := True.intro
    have k30 := True.intro
    have k33 := True.intro
    go_wp2_with (first
     | (go_at_call 18; clear k28; refine (i_alfilref01_Same.calls k (uead3) (nt t2 0 []) (uo5) [8, 16, 24, 32, 40, 48, 56] true _ SWo4.out.sl SWo5.out.sl A16.out).mono ?_; rintro e_ w29 ⟨rfl, hb_⟩; replace SWt1 := hid (SWt1.out.below hb_); replace SWt2 := hid (SWt2.out.below hb_); replace SWo4 := hid (SWo4.out.below hb_); replace SWo5 := hid (SWo5.out.below hb_); replace HL := hid (HL.out.trans (hb_.mono HL.out.size)); clear hb_)
     | (go_at_call 17; clear k30; refine (i_rays_Table_Line.calls k (ut1) t1 0 63 t7 _ SWt1.out A26.out).mono ?_; rintro e_ w31 ⟨ut7, rfl, so_t7, hb_⟩; have SWn_t7 := hid so_t7; clear so_t7; replace SWt1 := hid (SWt1.out.below hb_); replace SWt2 := hid (SWt2.out.below hb_); replace SWo4 := hid (SWo4.out.below hb_); replace SWo5 := hid (SWo5.out.below hb_); replace HL := hid (HL.out.trans (hb_.mono HL.out.size)); clear hb_; have SWt7 := SWn_t7; clear SWn_t7)
     | ((with_reducible refine gate_d (N := 20) rfl ?_); obtain ⟨go8, hgo8⟩ : ∃ g_, w31.heap.size = g_ := ⟨_, rfl⟩; refine ag_litn (e := 3) 6 #[.int .i64 9, .int .i64 18, .int .i64 27, .int .i64 36, .int .i64 45, .int .i64 54] go8 hgo8 rfl _ rfl (fun w_ => by (try simp only [List.map_toArray, List.map_cons, List.map_nil]); kernel_rfl) ?_; intro w32 hb_ hB_ hs_; have GEo8 : Hid (w.heap.size ≤ go8) := hid (by have := HL.out.size; omega); replace SWt1 := hid (SWt1.out.below (by rw [hgo8]; exact hb_)); replace SWt2 := hid (SWt2.out.below (by rw [hgo8]; exact hb_)); replace SWo4 := hid (SWo4.out.below (by rw [hgo8]; exact hb_)); replace SWo5 := hid (SWo5.out.below (by rw [hgo8]; exact hb_)); replace SWt7 := hid (SWt7.out.below (by rw [hgo8]; exact hb_)); replace HL := hid (HL.out.trans (hb_.mono GEo8.out)); have BKo8 := hid hB_; clear hb_ hB_ hs_ hgo8; obtain ⟨uo8, hu_⟩ : ∃ u_, u_ = (Value.slice (some ⟨go8, 0, none⟩) 6 6) := ⟨_, rfl⟩; have SWo8 : Hid (Own w32 w.heap.size 3 (uo8) ([9, 18, 27, 36, 45, 54].map (Value.int .i64))) := hid (by rw [hu_]; exact Own.lit GEo8.out BKo8.out rfl (by simp [maxLen])); rw [← hu_]; clear hu_ BKo8)
     | (go_at_call 18; clear k33; refine (i_alfilref01_Same.calls k (ut7) t7 (uo8) [9, 18, 27, 36, 45, 54] t9 _ SWt7.out.sl SWo8.out.sl A27.out).mono ?_; rintro e_ w34 ⟨rfl, hb_⟩; replace SWt1 := hid (SWt1.out.below hb_); replace SWt2 := hid (SWt2.out.below hb_); replace SWo4 := hid (SWo4.out.below hb_); replace SWo5 := hid (SWo5.out.below hb_); replace SWt7 := hid (SWt7.out.below hb_); replace SWo8 := hid (SWo8.out.below hb_); replace HL := hid (HL.out.trans (hb_.mono HL.out.size)); clear hb_))
    (try simp only [Act.put, sI, sZ, sS])
    go_ret
    exact ⟨by first | rfl | (simp; done) | (simp [*]; done), HL.out⟩
   | false =>
    rw [if_neg (show ¬ (false = true) by decide)] at H
    obtain rfl := Option.some.inj H
    clear H
    have k35 := True.intro
    go_wp2_with (first
     | (go_at_call 18; clear k35; refine (i_alfilref01_Same.calls k (uead3) (nt t2 0 []) (uo5) [8, 16, 24, 32, 40, 48, 56] false _ SWo4.out.sl SWo5.out.sl A16.out).mono ?_; rintro e_ w36 ⟨rfl, hb_⟩; replace SWt1 := hid (SWt1.out.below hb_); replace SWt2 := hid (SWt2.out.below hb_); replace SWo4 := hid (SWo4.out.below hb_); replace SWo5 := hid (SWo5.out.below hb_); replace HL := hid (HL.out.trans (hb_.mono HL.out.size)); clear hb_))
    (try simp only [Act.put, sI, sZ, sS])
    go_ret
    exact ⟨by first | rfl | (simp; done) | (simp [*]; done), HL.out⟩
  ·
   rw [if_neg c15] at H
   exact absurd H (by simp)
 ·
  rw [if_neg c14] at H
  have c14b0 : ((t2.length : Int) == 2) = false := beq_eq_false_iff_ne.mpr c14
  have c14b1 : ((t2.length : Int) != 2) = true := bne_iff_ne.mpr c14
  have hc14 := hid c14
  clear c14
  obtain rfl := Option.some.inj H
  clear H
  have k37 := True.intro
  go_wp2_with (first
   | (go_at_call 15; clear k37; refine (i_rays_Table_Of.calls k (ut1) t1 4 0 t2 _ SWt1.out A11.out).mono ?_; rintro e_ w38 ⟨ut2, rfl, so_t2, hb_⟩; replace so_t2 := so_t2.mono HL.out.size; have SWn_t2 := hid so_t2; clear so_t2; replace SWt1 := hid (SWt1.out.below hb_); replace HL := hid (HL.out.trans (hb_.mono HL.out.size)); clear hb_; have SWt2 := SWn_t2; clear SWn_t2)
   | ((with_reducible refine gate_d (N := 7) rfl ?_); obtain ⟨A39, c40, hv41⟩ := SWt2.out.slS.shape; skip; refine ag_fix (.int .i64 (t2.length : Int)) (ex_len us25 _ _ _ _ hv41 _ rfl rfl) rfl ?_; clear hv41))
  (try simp only [Act.put, sI, sZ, sS])
  go_ret
  exact ⟨by first | rfl | (simp; done) | (simp [*]; done), HL.out⟩
/-! i_alfillaw06_RaysNil: function 4 -/
def i_alfillaw06_RaysNil.f (k : Nat) (a0 : Int) (a1 : Int) : Option (Bool) := (i_alfillaw06_wakes.f k).bind fun t1 => (if t1 = true then ((i_rays_Table_Of.f k false a0 a1).bind fun t2 => (if (t2.length : Int) = 0 then ((i_rays_Table_Line.f k false a0 a1).bind fun t3 => (some ((t3.length : Int) == 0))) else (some false))) else (some false))
set_option maxHeartbeats 40000000 in
set_option maxRecDepth 100000 in
theorem i_alfillaw06_RaysNil.calls (k : Nat) (a0 : Int) (a1 : Int) (r1 : Bool) (w : World) (h : i_alfillaw06_RaysNil.f k a0 a1 = some r1) :
    Calls Try.prog 4 #[.int .i64 a0, .int .i64 a1] w fun e w' => e = .returned (.bool r1) ∧ Below w.heap.size w w' := by
 have HL := hid (Below.refl w.heap.size w)
 have H : ((i_alfillaw06_wakes.f k).bind fun t1 => (if t1 = true then ((i_rays_Table_Of.f k false a0 a1).bind fun t2 => (if (t2.length : Int) = 0 then ((i_rays_Table_Line.f k false a0 a1).bind fun t3 => (some ((t3.length : Int) == 0))) else (some false))) else (some false))) = some r1 := h
 clear h
 replace H := Option.bind_eq_some_iff.mp H
 obtain ⟨t1, A4_, H⟩ := H
 have A4 := hid A4_
 clear A4_
 cases t1 with
 | true =>
  rw [if_pos rfl] at H
  have H' := hid H
  clear H
  go_enter Try.func4, Try.ntmps4
  have k7 := True.intro
  go_wp2_with (first
   | (go_at_call 13; clear k7; refine (i_alfillaw06_wakes.calls k true _ A4.out).mono ?_; rintro e_ w8 ⟨rfl, hb_⟩; replace HL := hid (HL.out.trans (hb_.mono HL.out.size)); clear hb_))
  (try simp only [Act.put, sI, sZ, sS])
  have H := H'.out
  clear H'
  replace H := Option.bind_eq_some_iff.mp H
  obtain ⟨t2, A6_, H⟩ := H
  have A6 := hid A6_
  clear A6_
  by_cases c9 : (t2.length : Int) = 0
  ·
   rw [if_pos c9] at H
   have c9b0 : ((t2.length : Int) == 0) = true := beq_iff_eq.mpr c9
   have c9b1 : ((t2.length : Int) != 0) = false := bne_eq_false_iff_eq.mpr c9
   have hc9 := hid c9
   clear c9
   replace H := Option.bind_eq_some_iff.mp H
   obtain ⟨t3, A10_, H⟩ := H
   have A10 := hid A10_
   clear A10_
   obtain rfl := Option.some.inj H
   clear H
   have k11 := True.intro
   have k16 := True.intro
   go_wp2_with (first
    | (go_at_call 15; clear k11; refine (i_rays_Table_Of.calls k (.pointer none) false a0 a1 t2 _ (RTb.nil _) A6.out).mono ?_; rintro e_ w12 ⟨ut2, rfl, so_t2, hb_⟩; replace so_t2 := so_t2.mono HL.out.size; have SWn_t2 := hid so_t2; clear so_t2; replace HL := hid (HL.out.trans (hb_.mono HL.out.size)); clear hb_; have SWt2 := SWn_t2; clear SWn_t2)
    | ((with_reducible refine gate_d (N := 12) rfl ?_); obtain ⟨A13, c14, hv15⟩ := SWt2.out.slS.shape; skip; refine ag_fix (.int .i64 (t2.length : Int)) (ex_len us25 _ _ _ _ hv15 _ rfl rfl) rfl ?_; clear hv15)
    | (go_at_call 17; clear k16; refine (i_rays_Table_Line.calls k (.pointer none) false a0 a1 t3 _ (RTb.nil _) A10.out).mono ?_; rintro e_ w17 ⟨ut3, rfl, so_t3, hb_⟩; have SWn_t3 := hid so_t3; clear so_t3; replace SWt2 := hid (SWt2.out.below hb_); replace HL := hid (HL.out.trans (hb_.mono HL.out.size)); clear hb_; have SWt3 := SWn_t3; clear SWn_t3)
    | ((with_reducible refine gate_d (N := 19) rfl ?_); obtain ⟨A18, c19, hv20⟩ := SWt3.out.sl.shape; rw [List.length_map] at hv20; refine ag_fix (.int .i64 (t3.length : Int)) (ex_len us27 _ _ _ _ hv20 _ rfl rfl) rfl ?_; clear hv20))
   (try simp only [Act.put, sI, sZ, sS])
   go_ret
   exact ⟨by first | rfl | (simp; done) | (simp [*]; done), HL.out⟩
  ·
   rw [if_neg c9] at H
   have c9b0 : ((t2.length : Int) == 0) = false := beq_eq_false_iff_ne.mpr c9
   have c9b1 : ((t2.length : Int) != 0) = true := bne_iff_ne.mpr c9
   have c9b2 : ¬ (t2 = []) := fun h_ => c9 (by rw [h_]; rfl)
   have hc9 := hid c9
   clear c9
   obtain rfl := Option.some.inj H
   clear H
   have k21 := True.intro
   go_wp2_with (first
    | (go_at_call 15; clear k21; refine (i_rays_Table_Of.calls k (.pointer none) false a0 a1 t2 _ (RTb.nil _) A6.out).mono ?_; rintro e_ w22 ⟨ut2, rfl, so_t2, hb_⟩; replace so_t2 := so_t2.mono HL.out.size; have SWn_t2 := hid so_t2; clear so_t2; replace HL := hid (HL.out.trans (hb_.mono HL.out.size)); clear hb_; have SWt2 := SWn_t2; clear SWn_t2)
    | ((with_reducible refine gate_d (N := 12) rfl ?_); obtain ⟨A23, c24, hv25⟩ := SWt2.out.slS.shape; skip; refine ag_fix (.int .i64 (t2.length : Int)) (ex_len us25 _ _ _ _ hv25 _ rfl rfl) rfl ?_; clear hv25))
   (try simp only [Act.put, sI, sZ, sS])
   go_ret
   exact ⟨by first | rfl | (simp; done) | (simp [*]; done), HL.out⟩
 | false =>
  rw [if_neg (show ¬ (false = true) by decide)] at H
  obtain rfl := Option.some.inj H
  clear H
  go_enter Try.func4, Try.ntmps4
  have k26 := True.intro
  go_wp2_with (first
   | (go_at_call 13; clear k26; refine (i_alfillaw06_wakes.calls k false _ A4.out).mono ?_; rintro e_ w27 ⟨rfl, hb_⟩; replace HL := hid (HL.out.trans (hb_.mono HL.out.size)); clear hb_))
  (try simp only [Act.put, sI, sZ, sS])
  go_ret
  exact ⟨by first | rfl | (simp; done) | (simp [*]; done), HL.out⟩
/-! i_alfillaw06_RaysRay: function 5 -/
def i_alfillaw06_RaysRay.l0 : Nat → List Int → List Int → Int → Option (Bool)
  | 0, _, _, _ => none
  | k + 1, t6, t7, x47_0 => if x47_0 < (t6.length : Int) then (if 0 ≤ x47_0 then (if 0 ≤ (wrap64 ((wrap64 ((t7.length : Int) - 1)) - x47_0)) then (if (wrap64 ((wrap64 ((t7.length : Int) - 1)) - x47_0)) < (t7.length : Int) then (if (nt t6 x47_0.toNat 0) = (nt t7 ((wrap64 ((wrap64 ((t7.length : Int) - 1)) - x47_0)).toNat) 0) then (i_alfillaw06_RaysRay.l0 k t6 t7 (wrap64 (x47_0 + 1))) else (some false)) else (none)) else (none)) else (none)) else (some true)
def i_alfillaw06_RaysRay.f (k : Nat) (a0 : Int) (a1 : Int) (a2 : Int) : Option (Bool) := (i_alfillaw06_wakes.f k).bind fun t1 => (if t1 = true then ((i_rays_Ray.f k a0 a1 a2).bind fun t2 => ((i_alfilref06_Ray.f k a0 a1 a2).bind fun t3 => ((i_alfilref01_Same.f k t2 t3).bind fun t4 => (if t4 = true then ((i_rays_Make.f k).bind fun t5 => ((i_rays_Table_Line.f k t5 a0 a1).bind fun t6 => ((i_rays_Table_Line.f k t5 a1 a0).bind fun t7 => ((i_alfilref06_Line.f k a0 a1).bind fun t8 => ((i_alfilref01_Same.f k t6 t8).bind fun t9 => (if t9 = true then (if (t6.length : Int) = (t7.length : Int) then (i_alfillaw06_RaysRay.l0 k t6 t7 0) else (some false)) else (some false))))))) else (some false))))) else (some false))
set_option maxHeartbeats 40000000 in
set_option maxRecDepth 100000 in
theorem i_alfillaw06_RaysRay.calls (k : Nat) (a0 : Int) (a1 : Int) (a2 : Int) (r1 : Bool) (w : World) (h : i_alfillaw06_RaysRay.f k a0 a1 a2 = some r1) :
    Calls Try.prog 5 #[.int .i64 a0, .int .i64 a1, .int .i64 a2] w fun e w' => e = .returned (.bool r1) ∧ Below w.heap.size w w' := by
 have HL := hid (Below.refl w.heap.size w)
 have H : ((i_alfillaw06_wakes.f k).bind fun t1 => (if t1 = true then ((i_rays_Ray.f k a0 a1 a2).bind fun t2 => ((i_alfilref06_Ray.f k a0 a1 a2).bind fun t3 => ((i_alfilref01_Same.f k t2 t3).bind fun t4 => (if t4 = true then ((i_rays_Make.f k).bind fun t5 => ((i_rays_Table_Line.f k t5 a0 a1).bind fun t6 => ((i_rays_Table_Line.f k t5 a1 a0).bind fun t7 => ((i_alfilref06_Line.f k a0 a1).bind fun t8 => ((i_alfilref01_Same.f k t6 t8).bind fun t9 => (if t9 = true then (if (t6.length : Int) = (t7.length : Int) then (i_alfillaw06_RaysRay.l0 k t6 t7 0) else (some false)) else (some false))))))) else (some false))))) else (some false))) = some r1 := h
 clear h
 replace H := Option.bind_eq_some_iff.mp H
 obtain ⟨t1, A14_, H⟩ := H
 have A14 := hid A14_
 clear A14_
 cases t1 with
 | true =>
  rw [if_pos rfl] at H
  have H' := hid H
  clear H
  go_enter Try.func5, Try.ntmps5
  have k17 := True.intro
  go_wp2_with (first
   | (go_at_call 13; clear k17; refine (i_alfillaw06_wakes.calls k true _ A14.out).mono ?_; rintro e_ w18 ⟨rfl, hb_⟩; replace HL := hid (HL.out.trans (hb_.mono HL.out.size)); clear hb_))
  (try simp only [Act.put, sI, sZ, sS])
  have H := H'.out
  clear H'
  replace H := Option.bind_eq_some_iff.mp H
  obtain ⟨t2, A16_, H⟩ := H
  have A16 := hid A16_
  clear A16_
  have H' := hid H
  clear H
  have k20 := True.intro
  go_wp2_with (first
   | (go_at_call 19; clear k20; refine (i_rays_Ray.calls k a0 a1 a2 t2 _ A16.out).mono ?_; rintro e_ w21 ⟨ut2, rfl, so_t2, hb_⟩; replace so_t2 := so_t2.mono HL.out.size; have SWn_t2 := hid so_t2; clear so_t2; replace HL := hid (HL.out.trans (hb_.mono HL.out.size)); clear hb_; have SWt2 := SWn_t2; clear SWn_t2))
  (try simp only [Act.put, sI, sZ, sS])
  have H := H'.out
  clear H'
  replace H := Option.bind_eq_some_iff.mp H
  obtain ⟨t3, A19_, H⟩ := H
  have A19 := hid A19_
  clear A19_
  have H' := hid H
  clear H
  have k23 := True.intro
  go_wp2_with (first
   | (go_at_call 20; clear k23; refine (i_alfilref06_Ray.calls k a0 a1 a2 t3 _ A19.out).mono ?_; rintro e_ w24 ⟨ut3, rfl, so_t3, hb_⟩; replace so_t3 := so_t3.mono HL.out.size; have SWn_t3 := hid so_t3; clear so_t3; replace SWt2 := hid (SWt2.out.below hb_); replace HL := hid (HL.out.trans (hb_.mono HL.out.size)); clear hb_; have SWt3 := SWn_t3; clear SWn_t3))
  (try simp only [Act.put, sI, sZ, sS])
  have H := H'.out
  clear H'
  replace H := Option.bind_eq_some_iff.mp H
  obtain ⟨t4, A22_, H⟩ := H
  have A22 := hid A22_
  clear A22_
  cases t4 with
  | true =>
   rw [if_pos rfl] at H
   have H' := hid H
   clear H
   have k27 := True.intro
   go_wp2_with (first
    | (go_at_call 18; clear k27; refine (i_alfilref01_Same.calls k (ut2) t2 (ut3) t3 true _ SWt2.out.sl SWt3.out.sl A22.out).mono ?_; rintro e_ w28 ⟨rfl, hb_⟩; replace SWt2 := hid (SWt2.out.below hb_); replace SWt3 := hid (SWt3.out.below hb_); replace HL := hid (HL.out.trans (hb_.mono HL.out.size)); clear hb_))
   (try simp only [Act.put, sI, sZ, sS])
   have H := H'.out
   clear H'
   replace H := Option.bind_eq_some_iff.mp H
   obtain ⟨t5, A26_, H⟩ := H
   have A26 := hid A26_
   clear A26_
   have H' := hid H
   clear H
   have k30 := True.intro
   go_wp2_with (first
    | (go_at_call 14; clear k30; refine (i_rays_Make.calls k t5 _ A26.out).mono ?_; rintro e_ w31 ⟨ut5, rfl, so_t5, hb_⟩; have SWn_t5 := hid so_t5; clear so_t5; replace SWt2 := hid (SWt2.out.below hb_); replace SWt3 := hid (SWt3.out.below hb_); replace HL := hid (HL.out.trans (hb_.mono HL.out.size)); clear hb_; have SWt5 := SWn_t5; clear SWn_t5))
   (try simp only [Act.put, sI, sZ, sS])
   have H := H'.out
   clear H'
   replace H := Option.bind_eq_some_iff.mp H
   obtain ⟨t6, A29_, H⟩ := H
   have A29 := hid A29_
   clear A29_
   have H' := hid H
   clear H
   have k33 := True.intro
   go_wp2_with (first
    | (go_at_call 17; clear k33; refine (i_rays_Table_Line.calls k (ut5) t5 a0 a1 t6 _ SWt5.out A29.out).mono ?_; rintro e_ w34 ⟨ut6, rfl, so_t6, hb_⟩; have SWn_t6 := hid so_t6; clear so_t6; replace SWt2 := hid (SWt2.out.below hb_); replace SWt3 := hid (SWt3.out.below hb_); replace SWt5 := hid (SWt5.out.below hb_); replace HL := hid (HL.out.trans (hb_.mono HL.out.size)); clear hb_; have SWt6 := SWn_t6; clear SWn_t6))
   (try simp only [Act.put, sI, sZ, sS])
   have H := H'.out
   clear H'
   replace H := Option.bind_eq_some_iff.mp H
   obtain ⟨t7, A32_, H⟩ := H
   have A32 := hid A32_
   clear A32_
   have H' := hid H
   clear H
   have k36 := True.intro
   go_wp2_with (first
    | (go_at_call 17; clear k36; refine (i_rays_Table_Line.calls k (ut5) t5 a1 a0 t7 _ SWt5.out A32.out).mono ?_; rintro e_ w37 ⟨ut7, rfl, so_t7, hb_⟩; have SWn_t7 := hid so_t7; clear so_t7; replace SWt2 := hid (SWt2.out.below hb_); replace SWt3 := hid (SWt3.out.below hb_); replace SWt5 := hid (SWt5.out.below hb_); replace SWt6 := hid (SWt6.out.below hb_); replace HL := hid (HL.out.trans (hb_.mono HL.out.size)); clear hb_; have SWt7 := SWn_t7; clear SWn_t7))
   (try simp only [Act.put, sI, sZ, sS])
   have H := H'.out
   clear H'
   replace H := Option.bind_eq_some_iff.mp H
   obtain ⟨t8, A35_, H⟩ := H
   have A35 := hid A35_
   clear A35_
   have H' := hid H
   clear H
   have k39 := True.intro
   go_wp2_with (first
    | (go_at_call 21; clear k39; refine (i_alfilref06_Line.calls k a0 a1 t8 _ A35.out).mono ?_; rintro e_ w40 ⟨ut8, rfl, so_t8, hb_⟩; have SWn_t8 := hid so_t8; clear so_t8; replace SWt2 := hid (SWt2.out.below hb_); replace SWt3 := hid (SWt3.out.below hb_); replace SWt5 := hid (SWt5.out.below hb_); replace SWt6 := hid (SWt6.out.below hb_); replace SWt7 := hid (SWt7.out.below hb_); replace HL := hid (HL.out.trans (hb_.mono HL.out.size)); clear hb_; have SWt8 := SWn_t8; clear SWn_t8))
   (try simp only [Act.put, sI, sZ, sS])
   have H := H'.out
   clear H'
   replace H := Option.bind_eq_some_iff.mp H
   obtain ⟨t9, A38_, H⟩ := H
   have A38 := hid A38_
   clear A38_
   cases t9 with
   | true =>
    rw [if_pos rfl] at H
    by_cases c42 : (t6.length : Int) = (t7.length : Int)
    ·
     rw [if_pos c42] at H
     have c42b0 : ((t6.length : Int) == (t7.length : Int)) = true := beq_iff_eq.mpr c42
     have c42b1 : ((t6.length : Int) != (t7.length : Int)) = false := bne_eq_false_iff_eq.mpr c42
     have c42b2 : (t6.length == t7.length) = true := by first | simpa using c42 | (simp at c42 ⊢; omega)
     have hc42 := hid c42
     clear c42
     have H' := hid H
     clear H
     have k43 := True.intro
     go_wp2_with (first
      | (go_at_call 18; clear k43; refine (i_alfilref01_Same.calls k (ut6) t6 (ut8) t8 true _ SWt6.out.sl SWt8.out.sl A38.out).mono ?_; rintro e_ w44 ⟨rfl, hb_⟩; replace SWt2 := hid (SWt2.out.below hb_); replace SWt3 := hid (SWt3.out.below hb_); replace SWt5 := hid (SWt5.out.below hb_); replace SWt6 := hid (SWt6.out.below hb_); replace SWt7 := hid (SWt7.out.below hb_); replace SWt8 := hid (SWt8.out.below hb_); replace HL := hid (HL.out.trans (hb_.mono HL.out.size)); clear hb_)
      | ((with_reducible refine gate_d (N := 40) rfl ?_); obtain ⟨A45, c46, hv47⟩ := SWt6.out.sl.shape; rw [List.length_map] at hv47; refine ag_fix (.int .i64 (t6.length : Int)) (ex_len us27 _ _ _ _ hv47 _ rfl rfl) rfl ?_; clear hv47)
      | ((with_reducible refine gate_d (N := 42) rfl ?_); obtain ⟨A48, c49, hv50⟩ := SWt7.out.sl.shape; rw [List.length_map] at hv50; refine ag_fix (.int .i64 (t7.length : Int)) (ex_len us27 _ _ _ _ hv50 _ rfl rfl) rfl ?_; clear hv50)
      | ((with_reducible refine gate_d (N := 46) rfl ?_); obtain ⟨A51, c52, hv53⟩ := SWt6.out.sl.shape; rw [List.length_map] at hv53; refine ag_fix (.int .i64 (t6.length : Int)) (ex_len us27 _ _ _ _ hv53 _ rfl rfl) rfl ?_; clear hv53))
     (try simp only [Act.put, sI, sZ, sS])
     go_loopg [47] k (fun kq v47 w' => ∃ (x47_0 : Int), v47 = .int .i64 x47_0 ∧ Hid (i_alfillaw06_RaysRay.l0 kq t6 t7 x47_0 = some r1) ∧ Hid (kq ≤ k) ∧ Hid (Own w' w.heap.size 3 (ut2) (t2.map (Value.int .i64))) ∧ Hid (Own w' w.heap.size 3 (ut3) (t3.map (Value.int .i64))) ∧ Hid (RTb w' ut5 t5) ∧ Hid (SlT w' 3 ut6 (t6.map (Value.int .i64))) ∧ Hid (SlT w' 3 ut7 (t7.map (Value.int .i64))) ∧ Hid (SlT w' 3 ut8 (t8.map (Value.int .i64))) ∧ Hid (Below w.heap.size w w'))
     case atStart => exact ⟨(0 : Int), (by first | rfl | (simp; done) | (simp [*]; done)), H', (hid (by first | omega | (omega))), SWt2, SWt3, SWt5, SWt6, SWt7, SWt8, HL⟩
     case round =>
      clear H'
      clear HL SWt2 SWt3 SWt5 SWt6 SWt7 SWt8
      obtain ⟨x47_0, rfl, HA, HK54, SWt2, SWt3, SWt5, SWt6, SWt7, SWt8, HL⟩ := hrel
      cases gk with
      | zero => exact absurd HA.out (by simp [i_alfillaw06_RaysRay.l0])
      | succ k55 =>
       have H := HA.out
       clear HA
       simp only [i_alfillaw06_RaysRay.l0] at H
       by_cases c56 : x47_0 < (t6.length : Int)
       ·
        rw [if_pos c56] at H
        have c56b0 : decide (x47_0 < (t6.length : Int)) = true := decide_eq_true c56
        have hc56 := hid c56
        clear c56
        by_cases c57 : 0 ≤ x47_0
        ·
         rw [if_pos c57] at H
         have c57b0 : decide (0 ≤ x47_0) = true := decide_eq_true c57
         have hc57 := hid c57
         clear c57
         by_cases c58 : 0 ≤ (wrap64 ((wrap64 ((t7.length : Int) - 1)) - x47_0))
         ·
          rw [if_pos c58] at H
          have c58b0 : decide (0 ≤ (wrap64 ((wrap64 ((t7.length : Int) - 1)) - x47_0))) = true := decide_eq_true c58
          have hc58 := hid c58
          clear c58
          by_cases c59 : (wrap64 ((wrap64 ((t7.length : Int) - 1)) - x47_0)) < (t7.length : Int)
          ·
           rw [if_pos c59] at H
           have c59b0 : decide ((wrap64 ((wrap64 ((t7.length : Int) - 1)) - x47_0)) < (t7.length : Int)) = true := decide_eq_true c59
           have hc59 := hid c59
           clear c59
           by_cases c60 : (nt t6 x47_0.toNat 0) = (nt t7 ((wrap64 ((wrap64 ((t7.length : Int) - 1)) - x47_0)).toNat) 0)
           ·
            rw [if_pos c60] at H
            have c60b0 : ((nt t6 x47_0.toNat 0) == (nt t7 ((wrap64 ((wrap64 ((t7.length : Int) - 1)) - x47_0)).toNat) 0)) = true := beq_iff_eq.mpr c60
            have c60b1 : ((nt t6 x47_0.toNat 0) != (nt t7 ((wrap64 ((wrap64 ((t7.length : Int) - 1)) - x47_0)).toNat) 0)) = false := bne_eq_false_iff_eq.mpr c60
            have hc60 := hid c60
            clear c60
            have H' := hid H
            clear H
            go_wp2_with fail
            (try simp only [Act.put, sI, sZ, sS])
            obtain ⟨ad12, c_52, hv_52, hc_52⟩ := Sl.get (l := t6) (f := (Value.int .i64)) SWt6.out.sl 0 (i := x47_0) hc57.out hc56.out
            have HV_52 := hid hv_52
            have HCad12 := hid hc_52
            clear hv_52 hc_52
            obtain ⟨A_56, c_56, hv_56⟩ := SWt7.out.sl.shape
            rw [List.length_map] at hv_56
            have HV_56 := hid hv_56
            clear hv_56
            obtain ⟨ad13, c_60, hv_60, hc_60⟩ := Sl.get (l := t7) (f := (Value.int .i64)) SWt7.out.sl 0 (i := (wrap64 ((wrap64 ((t7.length : Int) - 1)) - x47_0))) hc58.out hc59.out
            have HV_60 := hid hv_60
            have HCad13 := hid hc_60
            clear hv_60 hc_60
            have WR64 := i64_w
            have WR32 := i32_w
            refine up_regionW (by kernel_rfl) (by kernel_rfl) ?_
            refine q_do (ut6) (fun w'_ hc_ => ex_mv (.tmp 8) (.inl rfl) _ rfl) rfl rfl ?_
            intro ts_ ht_; simp only [sI, sZ, sS] at ht_; subst ht_
            refine q_do (.int .i64 x47_0) (fun w'_ hc_ => ex_mv (.tmp 10) (.inl rfl) _ rfl) rfl rfl ?_
            intro ts_ ht_; simp only [sI, sZ, sS] at ht_; subst ht_
            refine q_do (.pointer (some (ad12.add x47_0.toNat))) (fun w'_ hc_ => by obtain ⟨n_, hn_⟩ := hc_; exact ex_sat _ _ x47_0 _ _ HV_52.out hc57.out hc56.out us27 sT3 _ _ rfl rfl rfl) rfl rfl ?_
            intro ts_ ht_; simp only [sI, sZ, sS] at ht_; subst ht_
            refine q_do (.int .i64 (nt t6 x47_0.toNat 0)) (fun w'_ hc_ => by obtain ⟨n_, hn_⟩ := hc_; exact ex_scell sT3 _ _ (by rw [hn_]; exact (n_.below.cell (World.block_lt_of_cell? _ _ HCad12.out)).trans HCad12.out) _ rfl rfl) rfl rfl ?_
            intro ts_ ht_; simp only [sI, sZ, sS] at ht_; subst ht_
            refine q_do (ut7) (fun w'_ hc_ => ex_mv (.tmp 9) (.inl rfl) _ rfl) rfl rfl ?_
            intro ts_ ht_; simp only [sI, sZ, sS] at ht_; subst ht_
            refine q_do (ut7) (fun w'_ hc_ => ex_mv (.tmp 9) (.inl rfl) _ rfl) rfl rfl ?_
            intro ts_ ht_; simp only [sI, sZ, sS] at ht_; subst ht_
            refine q_do (.int .i64 (t7.length : Int)) (fun w'_ hc_ => by obtain ⟨n_, hn_⟩ := hc_; exact ex_len us27 _ _ _ _ HV_56.out _ rfl rfl) rfl rfl ?_
            intro ts_ ht_; simp only [sI, sZ, sS] at ht_; subst ht_
            refine q_do (.int .i64 (wrap64 ((t7.length : Int) - 1))) (fun w'_ hc_ => by go_simp <;> (unfold wrap64; omega)) rfl rfl ?_
            intro ts_ ht_; simp only [sI, sZ, sS] at ht_; subst ht_
            refine q_do (.int .i64 x47_0) (fun w'_ hc_ => ex_mv (.tmp 10) (.inl rfl) _ rfl) rfl rfl ?_
            intro ts_ ht_; simp only [sI, sZ, sS] at ht_; subst ht_
            refine q_do (.int .i64 (wrap64 ((wrap64 ((t7.length : Int) - 1)) - x47_0))) (fun w'_ hc_ => by go_simp <;> (unfold wrap64; omega)) rfl rfl ?_
            intro ts_ ht_; simp only [sI, sZ, sS] at ht_; subst ht_
            refine q_do (.pointer (some (ad13.add (wrap64 ((wrap64 ((t7.length : Int) - 1)) - x47_0)).toNat))) (fun w'_ hc_ => by obtain ⟨n_, hn_⟩ := hc_; exact ex_sat _ _ (wrap64 ((wrap64 ((t7.length : Int) - 1)) - x47_0)) _ _ HV_60.out hc58.out hc59.out us27 sT3 _ _ rfl rfl rfl) rfl rfl ?_
            intro ts_ ht_; simp only [sI, sZ, sS] at ht_; subst ht_
            refine q_do (.int .i64 (nt t7 ((wrap64 ((wrap64 ((t7.length : Int) - 1)) - x47_0)).toNat) 0)) (fun w'_ hc_ => by obtain ⟨n_, hn_⟩ := hc_; exact ex_scell sT3 _ _ (by rw [hn_]; exact (n_.below.cell (World.block_lt_of_cell? _ _ HCad13.out)).trans HCad13.out) _ rfl rfl) rfl rfl ?_
            intro ts_ ht_; simp only [sI, sZ, sS] at ht_; subst ht_
            refine q_do (.bool false) (fun w'_ hc_ => by go_simp <;> (unfold wrap64; omega)) rfl rfl ?_
            intro ts_ ht_; simp only [sI, sZ, sS] at ht_; subst ht_
            refine q_end ?_
            rintro w8_ ⟨n_, rfl⟩
            replace SWt2 := hid (SWt2.out.below n_.below)
            replace SWt3 := hid (SWt3.out.below n_.below)
            replace SWt5 := hid (SWt5.out.below n_.below)
            replace SWt6 := hid (SWt6.out.below n_.below)
            replace SWt7 := hid (SWt7.out.below n_.below)
            replace SWt8 := hid (SWt8.out.below n_.below)
            replace HL := hid (HL.out.trans (n_.below.mono HL.out.size))
            generalize n_.world = w61 at *
            clear n_ WR64 WR32
            go_wp2_with fail
            (try simp only [Act.put, sI, sZ, sS])
            go_roundg k55
            case measure => have := HK54.out; omega
            case rel => exact ⟨wrap64 (x47_0 + 1), (by first | rfl | (simp; done) | (simp [*]; done)), H', (hid (by first | omega | (have := HK54.out; omega))), SWt2, SWt3, SWt5, SWt6, SWt7, SWt8, HL⟩
           ·
            rw [if_neg c60] at H
            have c60b0 : ((nt t6 x47_0.toNat 0) == (nt t7 ((wrap64 ((wrap64 ((t7.length : Int) - 1)) - x47_0)).toNat) 0)) = false := beq_eq_false_iff_ne.mpr c60
            have c60b1 : ((nt t6 x47_0.toNat 0) != (nt t7 ((wrap64 ((wrap64 ((t7.length : Int) - 1)) - x47_0)).toNat) 0)) = true := bne_iff_ne.mpr c60
            have hc60 := hid c60
            clear c60
            obtain rfl := Option.some.inj H
            clear H
            go_wp2_with fail
            (try simp only [Act.put, sI, sZ, sS])
            obtain ⟨ad12, c_52, hv_52, hc_52⟩ := Sl.get (l := t6) (f := (Value.int .i64)) SWt6.out.sl 0 (i := x47_0) hc57.out hc56.out
            have HV_52 := hid hv_52
            have HCad12 := hid hc_52
            clear hv_52 hc_52
            obtain ⟨A_56, c_56, hv_56⟩ := SWt7.out.sl.shape
            rw [List.length_map] at hv_56
            have HV_56 := hid hv_56
            clear hv_56
            obtain ⟨ad13, c_60, hv_60, hc_60⟩ := Sl.get (l := t7) (f := (Value.int .i64)) SWt7.out.sl 0 (i := (wrap64 ((wrap64 ((t7.length : Int) - 1)) - x47_0))) hc58.out hc59.out
            have HV_60 := hid hv_60
            have HCad13 := hid hc_60
            clear hv_60 hc_60
            have WR64 := i64_w
            have WR32 := i32_w
            refine up_regionW (by kernel_rfl) (by kernel_rfl) ?_
            refine q_do (ut6) (fun w'_ hc_ => ex_mv (.tmp 8) (.inl rfl) _ rfl) rfl rfl ?_
            intro ts_ ht_; simp only [sI, sZ, sS] at ht_; subst ht_
            refine q_do (.int .i64 x47_0) (fun w'_ hc_ => ex_mv (.tmp 10) (.inl rfl) _ rfl) rfl rfl ?_
            intro ts_ ht_; simp only [sI, sZ, sS] at ht_; subst ht_
            refine q_do (.pointer (some (ad12.add x47_0.toNat))) (fun w'_ hc_ => by obtain ⟨n_, hn_⟩ := hc_; exact ex_sat _ _ x47_0 _ _ HV_52.out hc57.out hc56.out us27 sT3 _ _ rfl rfl rfl) rfl rfl ?_
            intro ts_ ht_; simp only [sI, sZ, sS] at ht_; subst ht_
            refine q_do (.int .i64 (nt t6 x47_0.toNat 0)) (fun w'_ hc_ => by obtain ⟨n_, hn_⟩ := hc_; exact ex_scell sT3 _ _ (by rw [hn_]; exact (n_.below.cell (World.block_lt_of_cell? _ _ HCad12.out)).trans HCad12.out) _ rfl rfl) rfl rfl ?_
            intro ts_ ht_; simp only [sI, sZ, sS] at ht_; subst ht_
            refine q_do (ut7) (fun w'_ hc_ => ex_mv (.tmp 9) (.inl rfl) _ rfl) rfl rfl ?_
            intro ts_ ht_; simp only [sI, sZ, sS] at ht_; subst ht_
            refine q_do (ut7) (fun w'_ hc_ => ex_mv (.tmp 9) (.inl rfl) _ rfl) rfl rfl ?_
            intro ts_ ht_; simp only [sI, sZ, sS] at ht_; subst ht_
            refine q_do (.int .i64 (t7.length : Int)) (fun w'_ hc_ => by obtain ⟨n_, hn_⟩ := hc_; exact ex_len us27 _ _ _ _ HV_56.out _ rfl rfl) rfl rfl ?_
            intro ts_ ht_; simp only [sI, sZ, sS] at ht_; subst ht_
            refine q_do (.int .i64 (wrap64 ((t7.length : Int) - 1))) (fun w'_ hc_ => by go_simp <;> (unfold wrap64; omega)) rfl rfl ?_
            intro ts_ ht_; simp only [sI, sZ, sS] at ht_; subst ht_
            refine q_do (.int .i64 x47_0) (fun w'_ hc_ => ex_mv (.tmp 10) (.inl rfl) _ rfl) rfl rfl ?_
            intro ts_ ht_; simp only [sI, sZ, sS] at ht_; subst ht_
            refine q_do (.int .i64 (wrap64 ((wrap64 ((t7.length : Int) - 1)) - x47_0))) (fun w'_ hc_ => by go_simp <;> (unfold wrap64; omega)) rfl rfl ?_
            intro ts_ ht_; simp only [sI, sZ, sS] at ht_; subst ht_
            refine q_do (.pointer (some (ad13.add (wrap64 ((wrap64 ((t7.length : Int) - 1)) - x47_0)).toNat))) (fun w'_ hc_ => by obtain ⟨n_, hn_⟩ := hc_; exact ex_sat _ _ (wrap64 ((wrap64 ((t7.length : Int) - 1)) - x47_0)) _ _ HV_60.out hc58.out hc59.out us27 sT3 _ _ rfl rfl rfl) rfl rfl ?_
            intro ts_ ht_; simp only [sI, sZ, sS] at ht_; subst ht_
            refine q_do (.int .i64 (nt t7 ((wrap64 ((wrap64 ((t7.length : Int) - 1)) - x47_0)).toNat) 0)) (fun w'_ hc_ => by obtain ⟨n_, hn_⟩ := hc_; exact ex_scell sT3 _ _ (by rw [hn_]; exact (n_.below.cell (World.block_lt_of_cell? _ _ HCad13.out)).trans HCad13.out) _ rfl rfl) rfl rfl ?_
            intro ts_ ht_; simp only [sI, sZ, sS] at ht_; subst ht_
            refine q_do (.bool true) (fun w'_ hc_ => by go_simp <;> (unfold wrap64; omega)) rfl rfl ?_
            intro ts_ ht_; simp only [sI, sZ, sS] at ht_; subst ht_
            refine q_end ?_
            rintro w8_ ⟨n_, rfl⟩
            replace SWt2 := hid (SWt2.out.below n_.below)
            replace SWt3 := hid (SWt3.out.below n_.below)
            replace SWt5 := hid (SWt5.out.below n_.below)
            replace SWt6 := hid (SWt6.out.below n_.below)
            replace SWt7 := hid (SWt7.out.below n_.below)
            replace SWt8 := hid (SWt8.out.below n_.below)
            replace HL := hid (HL.out.trans (n_.below.mono HL.out.size))
            generalize n_.world = w62 at *
            clear n_ WR64 WR32
            go_wp2_with fail
            (try simp only [Act.put, sI, sZ, sS])
            go_ret
            exact ⟨by first | rfl | (simp; done) | (simp [*]; done), HL.out⟩
          ·
           rw [if_neg c59] at H
           exact absurd H (by simp)
         ·
          rw [if_neg c58] at H
          exact absurd H (by simp)
        ·
         rw [if_neg c57] at H
         exact absurd H (by simp)
       ·
        rw [if_neg c56] at H
        have c56b0 : decide (x47_0 < (t6.length : Int)) = false := decide_eq_false c56
        have hc56 := hid c56
        clear c56
        obtain rfl := Option.some.inj H
        clear H
        go_wp2_with fail
        (try simp only [Act.put, sI, sZ, sS])
        go_ret
        exact ⟨by first | rfl | (simp; done) | (simp [*]; done), HL.out⟩
    ·
     rw [if_neg c42] at H
     have c42b0 : ((t6.length : Int) == (t7.length : Int)) = false := beq_eq_false_iff_ne.mpr c42
     have c42b1 : ((t6.length : Int) != (t7.length : Int)) = true := bne_iff_ne.mpr c42
     have c42b2 : (t6.length == t7.length) = false := by first | simpa using c42 | (simp at c42 ⊢; omega)
     have hc42 := hid c42
     clear c42
     obtain rfl := Option.some.inj H
     clear H
     have k63 := True.intro
     go_wp2_with (first
      | (go_at_call 18; clear k63; refine (i_alfilref01_Same.calls k (ut6) t6 (ut8) t8 true _ SWt6.out.sl SWt8.out.sl A38.out).mono ?_; rintro e_ w64 ⟨rfl, hb_⟩; replace SWt2 := hid (SWt2.out.below hb_); replace SWt3 := hid (SWt3.out.below hb_); replace SWt5 := hid (SWt5.out.below hb_); replace SWt6 := hid (SWt6.out.below hb_); replace SWt7 := hid (SWt7.out.below hb_); replace SWt8 := hid (SWt8.out.below hb_); replace HL := hid (HL.out.trans (hb_.mono HL.out.size)); clear hb_)
      | ((with_reducible refine gate_d (N := 40) rfl ?_); obtain ⟨A65, c66, hv67⟩ := SWt6.out.sl.shape; rw [List.length_map] at hv67; refine ag_fix (.int .i64 (t6.length : Int)) (ex_len us27 _ _ _ _ hv67 _ rfl rfl) rfl ?_; clear hv67)
      | ((with_reducible refine gate_d (N := 42) rfl ?_); obtain ⟨A68, c69, hv70⟩ := SWt7.out.sl.shape; rw [List.length_map] at hv70; refine ag_fix (.int .i64 (t7.length : Int)) (ex_len us27 _ _ _ _ hv70 _ rfl rfl) rfl ?_; clear hv70))
     (try simp only [Act.put, sI, sZ, sS])
     go_ret
     exact ⟨by first | rfl | (simp; done) | (simp [*]; done), HL.out⟩
   | false =>
    rw [if_neg (show ¬ (false = true) by decide)] at H
    obtain rfl := Option.some.inj H
    clear H
    have k71 := True.intro
    go_wp2_with (first
     | (go_at_call 18; clear k71; refine (i_alfilref01_Same.calls k (ut6) t6 (ut8) t8 false _ SWt6.out.sl SWt8.out.sl A38.out).mono ?_; rintro e_ w72 ⟨rfl, hb_⟩; replace SWt2 := hid (SWt2.out.below hb_); replace SWt3 := hid (SWt3.out.below hb_); replace SWt5 := hid (SWt5.out.below hb_); replace SWt6 := hid (SWt6.out.below hb_); replace SWt7 := hid (SWt7.out.below hb_); replace SWt8 := hid (SWt8.out.below hb_); replace HL := hid (HL.out.trans (hb_.mono HL.out.size)); clear hb_))
    (try simp only [Act.put, sI, sZ, sS])
    go_ret
    exact ⟨by first | rfl | (simp; done) | (simp [*]; done), HL.out⟩
  | false =>
   rw [if_neg (show ¬ (false = true) by decide)] at H
   obtain rfl := Option.some.inj H
   clear H
   have k73 := True.intro
   go_wp2_with (first
    | (go_at_call 18; clear k73; refine (i_alfilref01_Same.calls k (ut2) t2 (ut3) t3 false _ SWt2.out.sl SWt3.out.sl A22.out).mono ?_; rintro e_ w74 ⟨rfl, hb_⟩; replace SWt2 := hid (SWt2.out.below hb_); replace SWt3 := hid (SWt3.out.below hb_); replace HL := hid (HL.out.trans (hb_.mono HL.out.size)); clear hb_))
   (try simp only [Act.put, sI, sZ, sS])
   go_ret
   exact ⟨by first | rfl | (simp; done) | (simp [*]; done), HL.out⟩
 | false =>
  rw [if_neg (show ¬ (false = true) by decide)] at H
  obtain rfl := Option.some.inj H
  clear H
  go_enter Try.func5, Try.ntmps5
  have k75 := True.intro
  go_wp2_with (first
   | (go_at_call 13; clear k75; refine (i_alfillaw06_wakes.calls k false _ A14.out).mono ?_; rintro e_ w76 ⟨rfl, hb_⟩; replace HL := hid (HL.out.trans (hb_.mono HL.out.size)); clear hb_))
  (try simp only [Act.put, sI, sZ, sS])
  go_ret
  exact ⟨by first | rfl | (simp; done) | (simp [*]; done), HL.out⟩
/-! i_alfillaw06_RaysBack: function 3 -/
mutual
def i_alfillaw06_RaysBack.l0 : Nat → Int → Int → Bool → List ((List Int)) → Int → Option (Bool)
  | 0, _, _, _, _, _ => none
  | k + 1, a0, a1, t2, t3, x22_0 => if x22_0 < (t3.length : Int) then (if 0 ≤ x22_0 then (i_alfillaw06_RaysBack.l1 k a0 a1 x22_0 t2 t3 0) else (none)) else (some true)
def i_alfillaw06_RaysBack.l1 : Nat → Int → Int → Int → Bool → List ((List Int)) → Int → Option (Bool)
  | 0, _, _, _, _, _, _ => none
  | k + 1, a0, a1, x22_0, t2, t3, x29_1 => if x29_1 < ((nt t3 x22_0.toNat []).length : Int) then (if 0 ≤ x29_1 then (if a0 = 1 then ((i_rays_Table_Of.f k t2 (wrap64 (-a0)) (nt (nt t3 x22_0.toNat []) x29_1.toNat 0)).bind fun t95 => (i_alfillaw06_RaysBack.l2 k a0 a1 x22_0 x29_1 t2 t3 t95 false 0)) else (if a0 = (-1) then ((i_rays_Table_Of.f k t2 (wrap64 (-a0)) (nt (nt t3 x22_0.toNat []) x29_1.toNat 0)).bind fun t104 => (i_alfillaw06_RaysBack.l3 k a0 a1 x22_0 x29_1 t104 t2 t3 false 0)) else ((i_rays_Table_Of.f k t2 a0 (nt (nt t3 x22_0.toNat []) x29_1.toNat 0)).bind fun t113 => (i_alfillaw06_RaysBack.l4 k a0 a1 x22_0 x29_1 t113 t2 t3 false 0)))) else (none)) else (i_alfillaw06_RaysBack.l0 k a0 a1 t2 t3 (wrap64 (x22_0 + 1)))
def i_alfillaw06_RaysBack.l2 : Nat → Int → Int → Int → Int → Bool → List ((List Int)) → List ((List Int)) → Bool → Int → Option (Bool)
  | 0, _, _, _, _, _, _, _, _, _ => none
  | k + 1, a0, a1, x22_0, x29_1, t2, t3, t95, x11_2, x47_2 => if x47_2 < (t95.length : Int) then (if 0 ≤ x47_2 then (if x11_2 = true then (i_alfillaw06_RaysBack.l2 k a0 a1 x22_0 x29_1 t2 t3 t95 true (wrap64 (x47_2 + 1))) else ((i_alfilref01_Has.f k (nt t95 x47_2.toNat []) a1).bind fun t103 => (i_alfillaw06_RaysBack.l2 k a0 a1 x22_0 x29_1 t2 t3 t95 t103 (wrap64 (x47_2 + 1))))) else (none)) else (if x11_2 = true then (i_alfillaw06_RaysBack.l1 k a0 a1 x22_0 t2 t3 (wrap64 (x29_1 + 1))) else (some false))
def i_alfillaw06_RaysBack.l3 : Nat → Int → Int → Int → Int → List ((List Int)) → Bool → List ((List Int)) → Bool → Int → Option (Bool)
  | 0, _, _, _, _, _, _, _, _, _ => none
  | k + 1, a0, a1, x22_0, x29_1, t104, t2, t3, x11_3, x47_3 => if x47_3 < (t104.length : Int) then (if 0 ≤ x47_3 then (if x11_3 = true then (i_alfillaw06_RaysBack.l3 k a0 a1 x22_0 x29_1 t104 t2 t3 true (wrap64 (x47_3 + 1))) else ((i_alfilref01_Has.f k (nt t104 x47_3.toNat []) a1).bind fun t112 => (i_alfillaw06_RaysBack.l3 k a0 a1 x22_0 x29_1 t104 t2 t3 t112 (wrap64 (x47_3 + 1))))) else (none)) else (if x11_3 = true then (i_alfillaw06_RaysBack.l1 k a0 a1 x22_0 t2 t3 (wrap64 (x29_1 + 1))) else (some false))
def i_alfillaw06_RaysBack.l4 : Nat → Int → Int → Int → Int → List ((List Int)) → Bool → List ((List Int)) → Bool → Int → Option (Bool)
  | 0, _, _, _, _, _, _, _, _, _ => none
  | k + 1, a0, a1, x22_0, x29_1, t113, t2, t3, x11_4, x47_4 => if x47_4 < (t113.length : Int) then (if 0 ≤ x47_4 then (if x11_4 = true then (i_alfillaw06_RaysBack.l4 k a0 a1 x22_0 x29_1 t113 t2 t3 true (wrap64 (x47_4 + 1))) else ((i_alfilref01_Has.f k (nt t113 x47_4.toNat []) a1).bind fun t121 => (i_alfillaw06_RaysBack.l4 k a0 a1 x22_0 x29_1 t113 t2 t3 t121 (wrap64 (x47_4 + 1))))) else (none)) else (if x11_4 = true then (i_alfillaw06_RaysBack.l1 k a0 a1 x22_0 t2 t3 (wrap64 (x29_1 + 1))) else (some false))
end
def i_alfillaw06_RaysBack.f (k : Nat) (a0 : Int) (a1 : Int) : Option (Bool) := (i_alfillaw06_wakes.f k).bind fun t1 => (if t1 = true then ((i_rays_Make.f k).bind fun t2 => ((i_rays_Table_Of.f k t2 a0 a1).bind fun t3 => (i_alfillaw06_RaysBack.l0 k a0 a1 t2 t3 0))) else (some false))
set_option maxHeartbeats 40000000 in
set_option maxRecDepth 100000 in
theorem i_alfillaw06_RaysBack.calls (k : Nat) (a0 : Int) (a1 : Int) (r1 : Bool) (w : World) (h : i_alfillaw06_RaysBack.f k a0 a1 = some r1) :
    Calls Try.prog 3 #[.int .i64 a0, .int .i64 a1] w fun e w' => e = .returned (.bool r1) ∧ Below w.heap.size w w' := by
 have HL := hid (Below.refl w.heap.size w)
 have H : ((i_alfillaw06_wakes.f k).bind fun t1 => (if t1 = true then ((i_rays_Make.f k).bind fun t2 => ((i_rays_Table_Of.f k t2 a0 a1).bind fun t3 => (i_alfillaw06_RaysBack.l0 k a0 a1 t2 t3 0))) else (some false))) = some r1 := h
 clear h
 replace H := Option.bind_eq_some_iff.mp H
 obtain ⟨t1, A122_, H⟩ := H
 have A122 := hid A122_
 clear A122_
 cases t1 with
 | true =>
  rw [if_pos rfl] at H
  replace H := Option.bind_eq_some_iff.mp H
  obtain ⟨t2, A124_, H⟩ := H
  have A124 := hid A124_
  clear A124_
  replace H := Option.bind_eq_some_iff.mp H
  obtain ⟨t3, A125_, H⟩ := H
  have A125 := hid A125_
  clear A125_
  have H' := hid H
  clear H
  go_enter Try.func3, Try.ntmps3
  have k126 := True.intro
  have k128 := True.intro
  have k130 := True.intro
  go_wp2_with (first
   | (go_at_call 13; clear k126; refine (i_alfillaw06_wakes.calls k true _ A122.out).mono ?_; rintro e_ w127 ⟨rfl, hb_⟩; replace HL := hid (HL.out.trans (hb_.mono HL.out.size)); clear hb_)
   | (go_at_call 14; clear k128; refine (i_rays_Make.calls k t2 _ A124.out).mono ?_; rintro e_ w129 ⟨ut2, rfl, so_t2, hb_⟩; have SWn_t2 := hid so_t2; clear so_t2; replace HL := hid (HL.out.trans (hb_.mono HL.out.size)); clear hb_; have SWt2 := SWn_t2; clear SWn_t2)
   | (go_at_call 15; clear k130; refine (i_rays_Table_Of.calls k (ut2) t2 a0 a1 t3 _ SWt2.out A125.out).mono ?_; rintro e_ w131 ⟨ut3, rfl, so_t3, hb_⟩; replace so_t3 := so_t3.mono HL.out.size; have SWn_t3 := hid so_t3; clear so_t3; replace SWt2 := hid (SWt2.out.below hb_); replace HL := hid (HL.out.trans (hb_.mono HL.out.size)); clear hb_; have SWt3 := SWn_t3; clear SWn_t3)
   | ((with_reducible refine gate_d (N := 21) rfl ?_); obtain ⟨A132, c133, hv134⟩ := SWt3.out.slS.shape; skip; refine ag_fix (.int .i64 (t3.length : Int)) (ex_len us25 _ _ _ _ hv134 _ rfl rfl) rfl ?_; clear hv134))
  (try simp only [Act.put, sI, sZ, sS])
  go_loopg [22] k (fun kq v22 w' => ∃ (x22_0 : Int), v22 = .int .i64 x22_0 ∧ Hid (i_alfillaw06_RaysBack.l0 kq a0 a1 t2 t3 x22_0 = some r1) ∧ Hid (kq ≤ k) ∧ Hid (RTb w' ut2 t2) ∧ Hid (OwnS w' w.heap.size 29 3 (Value.int .i64) ut3 t3) ∧ Hid (Below w.heap.size w w'))
  case atStart => exact ⟨(0 : Int), (by first | rfl | (simp; done) | (simp [*]; done)), H', (hid (by first | omega | (omega))), SWt2, SWt3, HL⟩
  case round =>
   clear H'
   clear HL SWt2 SWt3
   obtain ⟨x22_0, rfl, HA, HK135, SWt2, SWt3, HL⟩ := hrel
   cases gk with
   | zero => exact absurd HA.out (by simp [i_alfillaw06_RaysBack.l0])
   | succ k136 =>
    have H := HA.out
    clear HA
    simp only [i_alfillaw06_RaysBack.l0] at H
    by_cases c137 : x22_0 < (t3.length : Int)
    ·
     rw [if_pos c137] at H
     have c137b0 : decide (x22_0 < (t3.length : Int)) = true := decide_eq_true c137
     have hc137 := hid c137
     clear c137
     by_cases c138 : 0 ≤ x22_0
     ·
      rw [if_pos c138] at H
      have c138b0 : decide (0 ≤ x22_0) = true := decide_eq_true c138
      have hc138 := hid c138
      clear c138
      have H' := hid H
      clear H
      go_wp2_with (first
       | ((with_reducible refine gate_d (N := 24) rfl ?_); obtain ⟨ad63, c139, uead63, hv140, HCad63_, HEad63_⟩ := SlS.get SWt3.out.slS (i := x22_0) hc138.out hc137.out; have HCad63 := hid HCad63_; have HEad63 := hid HEad63_; clear HCad63_ HEad63_; refine ag_fix (.pointer (some (ad63.add x22_0.toNat))) ((ex_satN _ _ x22_0 _ _ hv140 hc138.out hc137.out us25 aT29.size _ _ rfl rfl rfl).trans (by rw [Nat.mul_one])) rfl ?_; clear hv140)
       | ((with_reducible refine gate_d (N := 25) rfl ?_); have SWo64 : Hid (SlT wr 3 uead63 ((nt t3 x22_0.toNat []).map (Value.int .i64))) := hid HEad63.out; refine ag_fix (.agg #[uead63]) (ex_ldN aT29 _ [uead63] rfl (by intro j_ hj_; obtain rfl : j_ = 0 := (by omega); exact HCad63.out) _ rfl rfl) rfl ?_)
       | ((with_reducible refine gate_d (N := 7) rfl ?_); obtain ⟨gb65, hgb65⟩ : ∃ g_, wr.heap.size = g_ := ⟨_, rfl⟩; refine ag_alst aT29 #[uead63] gb65 hgb65 rfl (by intro v_ hv_; simp at hv_; rcases hv_ with rfl <;> first | rfl | exact SWo64.out.one) rfl rfl 7 rfl _ _ rfl (fun _ => rfl) (fun _ => rfl) rfl ?_; intro w141 hb_ hB_ hs_; have GEb65 : Hid (w.heap.size ≤ gb65) := hid (by have := HL.out.size; omega); replace SWt2 := hid (SWt2.out.below (by rw [hgb65]; exact hb_)); replace SWt3 := hid (SWt3.out.below (by rw [hgb65]; exact hb_)); replace SWo64 := hid (SWo64.out.below (by rw [hgb65]; exact hb_)); replace HL := hid (HL.out.trans (hb_.mono GEb65.out)); have BKb65 := hid hB_; clear hb_ hB_ hs_ hgb65)
       | ((with_reducible refine gate_d (N := 26) rfl ?_); refine ag_fix (.pointer (some ⟨gb65, 0, none⟩)) (ex_field 29 0 (.pointer (some ⟨gb65, 0, none⟩)) (.pointer (some ⟨gb65, 0, none⟩)) (fa29_0_0 gb65) _ rfl rfl) rfl ?_)
       | ((with_reducible refine gate_d (N := 27) rfl ?_); refine ag_fix (uead63) (ex_get sT27 gb65 (0) (uead63) (#[uead63]) BKb65.out rfl _ rfl rfl) rfl ?_)
       | ((with_reducible refine gate_d (N := 28) rfl ?_); obtain ⟨A142, c143, hv144⟩ := SWo64.out.sl.shape; rw [List.length_map] at hv144; refine ag_fix (.int .i64 ((nt t3 x22_0.toNat []).length : Int)) (ex_len us27 _ _ _ _ hv144 _ rfl rfl) rfl ?_; clear hv144))
      (try simp only [Act.put, sI, sZ, sS])
      go_loopg [29] k136 (fun kq v29 w' => ∃ (x29_1 : Int), v29 = .int .i64 x29_1 ∧ Hid (i_alfillaw06_RaysBack.l1 kq a0 a1 x22_0 t2 t3 x29_1 = some r1) ∧ Hid (kq ≤ k136) ∧ Hid (Blk w' gb65 29 #[uead63]) ∧ Hid (RTb w' ut2 t2) ∧ Hid (OwnS w' w.heap.size 29 3 (Value.int .i64) ut3 t3) ∧ Hid (SlT w' 3 uead63 ((nt t3 x22_0.toNat []).map (Value.int .i64))) ∧ Hid (Below w.heap.size w w'))
      case atStart => exact ⟨(0 : Int), (by first | rfl | (simp; done) | (simp [*]; done)), H', (hid (by first | omega | (have := HK135.out; omega))), (hid (by exact BKb65.out)), SWt2, SWt3, SWo64, HL⟩
      case round =>
       clear H'
       clear HL BKb65 SWt2 SWt3 SWo64
       obtain ⟨x29_1, rfl, HA, HK145, BKb65, SWt2, SWt3, SWo64, HL⟩ := hrel
       cases gk with
       | zero => exact absurd HA.out (by simp [i_alfillaw06_RaysBack.l1])
       | succ k146 =>
        have H := HA.out
        clear HA
        simp only [i_alfillaw06_RaysBack.l1] at H
        by_cases c147 : x29_1 < ((nt t3 x22_0.toNat []).length : Int)
        ·
         rw [if_pos c147] at H
         have c147b0 : decide (x29_1 < ((nt t3 x22_0.toNat []).length : Int)) = true := decide_eq_true c147
         have hc147 := hid c147
         clear c147
         by_cases c148 : 0 ≤ x29_1
         ·
          rw [if_pos c148] at H
          have c148b0 : decide (0 ≤ x29_1) = true := decide_eq_true c148
          have hc148 := hid c148
          clear c148
          by_cases c149 : a0 = 1
          ·
           rw [if_pos c149] at H
           have c149b0 : (a0 == 1) = true := beq_iff_eq.mpr c149
           have c149b1 : (a0 != 1) = false := bne_eq_false_iff_eq.mpr c149
           have hc149 := hid c149
           clear c149
           replace H := Option.bind_eq_some_iff.mp H
           obtain ⟨t95, A150_, H⟩ := H
           have A150 := hid A150_
           clear A150_
           have H' := hid H
           clear H
           have k153 := True.intro
           go_wp2_with (first
            | ((with_reducible refine gate_d (N := 31) rfl ?_); obtain ⟨ad94, c151, hv152, HCad94_⟩ := Sl.get (l := nt t3 x22_0.toNat []) (f := (Value.int .i64)) SWo64.out.sl 0 (i := x29_1) hc148.out hc147.out; have HCad94 := hid HCad94_; clear HCad94_; refine ag_fix (.pointer (some (ad94.add x29_1.toNat))) (ex_sat _ _ x29_1 _ _ hv152 hc148.out hc147.out us27 sT3 _ _ rfl rfl rfl) rfl ?_; have HVAad94 := hid hv152; clear hv152)
            | ((with_reducible refine gate_d (N := 32) rfl ?_); refine ag_fix (.int .i64 (nt (nt t3 x22_0.toNat []) x29_1.toNat 0)) (ex_scell sT3 _ _ HCad94.out _ rfl rfl) rfl ?_)
            | (go_at_call 15; clear k153; refine (i_rays_Table_Of.calls k146 (ut2) t2 (wrap64 (-a0)) (nt (nt t3 x22_0.toNat []) x29_1.toNat 0) t95 _ SWt2.out A150.out).mono ?_; rintro e_ w154 ⟨ut95, rfl, so_t95, hb_⟩; replace so_t95 := so_t95.mono HL.out.size; have SWn_t95 := hid so_t95; clear so_t95; replace BKb65 := hid (BKb65.out.below hb_ BKb65.out.lt); replace SWt2 := hid (SWt2.out.below hb_); replace SWt3 := hid (SWt3.out.below hb_); replace SWo64 := hid (SWo64.out.below hb_); replace HL := hid (HL.out.trans (hb_.mono HL.out.size)); clear hb_; have SWt95 := SWn_t95; clear SWn_t95)
            | ((with_reducible refine gate_d (N := 46) rfl ?_); obtain ⟨A155, c156, hv157⟩ := SWt95.out.slS.shape; skip; refine ag_fix (.int .i64 (t95.length : Int)) (ex_len us25 _ _ _ _ hv157 _ rfl rfl) rfl ?_; clear hv157))
           (try simp only [Act.put, sI, sZ, sS])
           go_loopg [11, 47] k146 (fun kq v11 v47 w' => ∃ (x11_2 : Bool) (x47_2 : Int), v11 = .bool x11_2 ∧ v47 = .int .i64 x47_2 ∧ Hid (i_alfillaw06_RaysBack.l2 kq a0 a1 x22_0 x29_1 t2 t3 t95 x11_2 x47_2 = some r1) ∧ Hid (kq ≤ k146) ∧ Hid (Blk w' gb65 29 #[uead63]) ∧ Hid (RTb w' ut2 t2) ∧ Hid (OwnS w' w.heap.size 29 3 (Value.int .i64) ut3 t3) ∧ Hid (SlT w' 3 uead63 ((nt t3 x22_0.toNat []).map (Value.int .i64))) ∧ Hid (OwnS w' w.heap.size 29 3 (Value.int .i64) ut95 t95) ∧ Hid (Below w.heap.size w w'))
           case atStart => exact ⟨false, (0 : Int), (by first | rfl | (simp; done) | (simp [*]; done)), (by first | rfl | (simp; done) | (simp [*]; done)), H', (hid (by first | omega | (have := HK135.out; have := HK145.out; omega))), (hid (by exact BKb65.out)), SWt2, SWt3, SWo64, SWt95, HL⟩
           case round =>
            clear H'
            clear HL BKb65 SWt2 SWt3 SWo64 SWt95
            obtain ⟨x11_2, x47_2, rfl, rfl, HA, HK158, BKb65, SWt2, SWt3, SWo64, SWt95, HL⟩ := hrel
            cases gk with
            | zero => exact absurd HA.out (by simp [i_alfillaw06_RaysBack.l2])
            | succ k159 =>
             have H := HA.out
             clear HA
             simp only [i_alfillaw06_RaysBack.l2] at H
             by_cases c160 : x47_2 < (t95.length : Int)
             ·
              rw [if_pos c160] at H
              have c160b0 : decide (x47_2 < (t95.length : Int)) = true := decide_eq_true c160
              have hc160 := hid c160
              clear c160
              by_cases c161 : 0 ≤ x47_2
              ·
               rw [if_pos c161] at H
               have c161b0 : decide (0 ≤ x47_2) = true := decide_eq_true c161
               have hc161 := hid c161
               clear c161
               cases x11_2 with
               | true =>
                rw [if_pos rfl] at H
                have H' := hid H
                clear H
                go_wp2_with (first
                 | ((with_reducible refine gate_d (N := 49) rfl ?_); obtain ⟨ad100, c163, uead100, hv164, HCad100_, HEad100_⟩ := SlS.get SWt95.out.slS (i := x47_2) hc161.out hc160.out; have HCad100 := hid HCad100_; have HEad100 := hid HEad100_; clear HCad100_ HEad100_; refine ag_fix (.pointer (some (ad100.add x47_2.toNat))) ((ex_satN _ _ x47_2 _ _ hv164 hc161.out hc160.out us25 aT29.size _ _ rfl rfl rfl).trans (by rw [Nat.mul_one])) rfl ?_; clear hv164)
                 | ((with_reducible refine gate_d (N := 50) rfl ?_); have SWo101 : Hid (SlT wr 3 uead100 ((nt t95 x47_2.toNat []).map (Value.int .i64))) := hid HEad100.out; refine ag_fix (.agg #[uead100]) (ex_ldN aT29 _ [uead100] rfl (by intro j_ hj_; obtain rfl : j_ = 0 := (by omega); exact HCad100.out) _ rfl rfl) rfl ?_)
                 | ((with_reducible refine gate_d (N := 13) rfl ?_); obtain ⟨gb102, hgb102⟩ : ∃ g_, wr.heap.size = g_ := ⟨_, rfl⟩; refine ag_alst aT29 #[uead100] gb102 hgb102 rfl (by intro v_ hv_; simp at hv_; rcases hv_ with rfl <;> first | rfl | exact SWo101.out.one) rfl rfl 13 rfl _ _ rfl (fun _ => rfl) (fun _ => rfl) rfl ?_; intro w165 hb_ hB_ hs_; have GEb102 : Hid (w.heap.size ≤ gb102) := hid (by have := HL.out.size; omega); have NBb65_b102 : Hid (gb65 ≠ gb102) := hid (by have := BKb65.out.lt; omega); have NBb102_b65 : Hid (gb102 ≠ gb65) := hid (by have := NBb65_b102.out; omega); replace BKb65 := hid (BKb65.out.below hb_ (by rw [← hgb102]; exact BKb65.out.lt)); replace SWt2 := hid (SWt2.out.below (by rw [hgb102]; exact hb_)); replace SWt3 := hid (SWt3.out.below (by rw [hgb102]; exact hb_)); replace SWo64 := hid (SWo64.out.below (by rw [hgb102]; exact hb_)); replace SWt95 := hid (SWt95.out.below (by rw [hgb102]; exact hb_)); replace SWo101 := hid (SWo101.out.below (by rw [hgb102]; exact hb_)); replace HL := hid (HL.out.trans (hb_.mono GEb102.out)); have BKb102 := hid hB_; clear hb_ hB_ hs_ hgb102))
                (try simp only [Act.put, sI, sZ, sS])
                go_roundg k159
                case measure => have := HK135.out; have := HK145.out; have := HK158.out; omega
                case rel => exact ⟨true, wrap64 (x47_2 + 1), (by first | rfl | (simp; done) | (simp [*]; done)), (by first | rfl | (simp; done) | (simp [*]; done)), H', (hid (by first | omega | (have := HK135.out; have := HK145.out; have := HK158.out; omega))), (hid (by exact BKb65.out)), SWt2, SWt3, SWo64, SWt95, HL⟩
               | false =>
                rw [if_neg (show ¬ (false = true) by decide)] at H
                replace H := Option.bind_eq_some_iff.mp H
                obtain ⟨t103, A166_, H⟩ := H
                have A166 := hid A166_
                clear A166_
                have H' := hid H
                clear H
                have k170 := True.intro
                go_wp2_with (first
                 | ((with_reducible refine gate_d (N := 49) rfl ?_); obtain ⟨ad100, c167, uead100, hv168, HCad100_, HEad100_⟩ := SlS.get SWt95.out.slS (i := x47_2) hc161.out hc160.out; have HCad100 := hid HCad100_; have HEad100 := hid HEad100_; clear HCad100_ HEad100_; refine ag_fix (.pointer (some (ad100.add x47_2.toNat))) ((ex_satN _ _ x47_2 _ _ hv168 hc161.out hc160.out us25 aT29.size _ _ rfl rfl rfl).trans (by rw [Nat.mul_one])) rfl ?_; clear hv168)
                 | ((with_reducible refine gate_d (N := 50) rfl ?_); have SWo101 : Hid (SlT wr 3 uead100 ((nt t95 x47_2.toNat []).map (Value.int .i64))) := hid HEad100.out; refine ag_fix (.agg #[uead100]) (ex_ldN aT29 _ [uead100] rfl (by intro j_ hj_; obtain rfl : j_ = 0 := (by omega); exact HCad100.out) _ rfl rfl) rfl ?_)
                 | ((with_reducible refine gate_d (N := 13) rfl ?_); obtain ⟨gb102, hgb102⟩ : ∃ g_, wr.heap.size = g_ := ⟨_, rfl⟩; refine ag_alst aT29 #[uead100] gb102 hgb102 rfl (by intro v_ hv_; simp at hv_; rcases hv_ with rfl <;> first | rfl | exact SWo101.out.one) rfl rfl 13 rfl _ _ rfl (fun _ => rfl) (fun _ => rfl) rfl ?_; intro w169 hb_ hB_ hs_; have GEb102 : Hid (w.heap.size ≤ gb102) := hid (by have := HL.out.size; omega); have NBb65_b102 : Hid (gb65 ≠ gb102) := hid (by have := BKb65.out.lt; omega); have NBb102_b65 : Hid (gb102 ≠ gb65) := hid (by have := NBb65_b102.out; omega); replace BKb65 := hid (BKb65.out.below hb_ (by rw [← hgb102]; exact BKb65.out.lt)); replace SWt2 := hid (SWt2.out.below (by rw [hgb102]; exact hb_)); replace SWt3 := hid (SWt3.out.below (by rw [hgb102]; exact hb_)); replace SWo64 := hid (SWo64.out.below (by rw [hgb102]; exact hb_)); replace SWt95 := hid (SWt95.out.below (by rw [hgb102]; exact hb_)); replace SWo101 := hid (SWo101.out.below (by rw [hgb102]; exact hb_)); replace HL := hid (HL.out.trans (hb_.mono GEb102.out)); have BKb102 := hid hB_; clear hb_ hB_ hs_ hgb102)
                 | ((with_reducible refine gate_d (N := 53) rfl ?_); refine ag_fix (.pointer (some ⟨gb102, 0, none⟩)) (ex_field 29 0 (.pointer (some ⟨gb102, 0, none⟩)) (.pointer (some ⟨gb102, 0, none⟩)) (fa29_0_0 gb102) _ rfl rfl) rfl ?_)
                 | ((with_reducible refine gate_d (N := 54) rfl ?_); refine ag_fix (uead100) (ex_get sT27 gb102 (0) (uead100) (#[uead100]) BKb102.out rfl _ rfl rfl) rfl ?_)
                 | (go_at_call 16; clear k170; refine (i_alfilref01_Has.calls k159 (uead100) (nt t95 x47_2.toNat []) a1 t103 _ SWo101.out.sl A166.out).mono ?_; rintro e_ w' ⟨rfl, rfl⟩))
                (try simp only [Act.put, sI, sZ, sS])
                go_roundg k159
                case measure => have := HK135.out; have := HK145.out; have := HK158.out; omega
                case rel => exact ⟨t103, wrap64 (x47_2 + 1), (by first | rfl | (simp; done) | (simp [*]; done)), (by first | rfl | (simp; done) | (simp [*]; done)), H', (hid (by first | omega | (have := HK135.out; have := HK145.out; have := HK158.out; omega))), (hid (by exact BKb65.out)), SWt2, SWt3, SWo64, SWt95, HL⟩
              ·
               rw [if_neg c161] at H
               exact absurd H (by simp)
             ·
              rw [if_neg c160] at H
              have c160b0 : decide (x47_2 < (t95.length : Int)) = false := decide_eq_false c160
              have hc160 := hid c160
              clear c160
              cases x11_2 with
              | true =>
               rw [if_pos rfl] at H
               have H' := hid H
               clear H
               go_wp2_with fail
               (try simp only [Act.put, sI, sZ, sS])
               go_roundg k159
               case measure => have := HK135.out; have := HK145.out; have := HK158.out; omega
               case rel => exact ⟨wrap64 (x29_1 + 1), (by first | rfl | (simp; done) | (simp [*]; done)), H', (hid (by first | omega | (have := HK135.out; have := HK145.out; have := HK158.out; omega))), (hid (by exact BKb65.out)), SWt2, SWt3, SWo64, HL⟩
              | false =>
               rw [if_neg (show ¬ (false = true) by decide)] at H
               obtain rfl := Option.some.inj H
               clear H
               go_wp2_with fail
               (try simp only [Act.put, sI, sZ, sS])
               go_ret
               exact ⟨by first | rfl | (simp; done) | (simp [*]; done), HL.out⟩
          ·
           rw [if_neg c149] at H
           have c149b0 : (a0 == 1) = false := beq_eq_false_iff_ne.mpr c149
           have c149b1 : (a0 != 1) = true := bne_iff_ne.mpr c149
           have hc149 := hid c149
           clear c149
           by_cases c172 : a0 = (-1)
           ·
            rw [if_pos c172] at H
            have c172b0 : (a0 == (-1)) = true := beq_iff_eq.mpr c172
            have c172b1 : (a0 != (-1)) = false := bne_eq_false_iff_eq.mpr c172
            have hc172 := hid c172
            clear c172
            replace H := Option.bind_eq_some_iff.mp H
            obtain ⟨t104, A173_, H⟩ := H
            have A173 := hid A173_
            clear A173_
            have H' := hid H
            clear H
            have k176 := True.intro
            go_wp2_with (first
             | ((with_reducible refine gate_d (N := 31) rfl ?_); obtain ⟨ad94, c174, hv175, HCad94_⟩ := Sl.get (l := nt t3 x22_0.toNat []) (f := (Value.int .i64)) SWo64.out.sl 0 (i := x29_1) hc148.out hc147.out; have HCad94 := hid HCad94_; clear HCad94_; refine ag_fix (.pointer (some (ad94.add x29_1.toNat))) (ex_sat _ _ x29_1 _ _ hv175 hc148.out hc147.out us27 sT3 _ _ rfl rfl rfl) rfl ?_; have HVAad94 := hid hv175; clear hv175)
             | ((with_reducible refine gate_d (N := 32) rfl ?_); refine ag_fix (.int .i64 (nt (nt t3 x22_0.toNat []) x29_1.toNat 0)) (ex_scell sT3 _ _ HCad94.out _ rfl rfl) rfl ?_)
             | (go_at_call 15; clear k176; refine (i_rays_Table_Of.calls k146 (ut2) t2 (wrap64 (-a0)) (nt (nt t3 x22_0.toNat []) x29_1.toNat 0) t104 _ SWt2.out A173.out).mono ?_; rintro e_ w177 ⟨ut104, rfl, so_t104, hb_⟩; replace so_t104 := so_t104.mono HL.out.size; have SWn_t104 := hid so_t104; clear so_t104; replace BKb65 := hid (BKb65.out.below hb_ BKb65.out.lt); replace SWt2 := hid (SWt2.out.below hb_); replace SWt3 := hid (SWt3.out.below hb_); replace SWo64 := hid (SWo64.out.below hb_); replace HL := hid (HL.out.trans (hb_.mono HL.out.size)); clear hb_; have SWt104 := SWn_t104; clear SWn_t104)
             | ((with_reducible refine gate_d (N := 46) rfl ?_); obtain ⟨A178, c179, hv180⟩ := SWt104.out.slS.shape; skip; refine ag_fix (.int .i64 (t104.length : Int)) (ex_len us25 _ _ _ _ hv180 _ rfl rfl) rfl ?_; clear hv180))
            (try simp only [Act.put, sI, sZ, sS])
            go_loopg [11, 47] k146 (fun kq v11 v47 w' => ∃ (x11_3 : Bool) (x47_3 : Int), v11 = .bool x11_3 ∧ v47 = .int .i64 x47_3 ∧ Hid (i_alfillaw06_RaysBack.l3 kq a0 a1 x22_0 x29_1 t104 t2 t3 x11_3 x47_3 = some r1) ∧ Hid (kq ≤ k146) ∧ Hid (Blk w' gb65 29 #[uead63]) ∧ Hid (RTb w' ut2 t2) ∧ Hid (OwnS w' w.heap.size 29 3 (Value.int .i64) ut3 t3) ∧ Hid (SlT w' 3 uead63 ((nt t3 x22_0.toNat []).map (Value.int .i64))) ∧ Hid (OwnS w' w.heap.size 29 3 (Value.int .i64) ut104 t104) ∧ Hid (Below w.heap.size w w'))
            case atStart => exact ⟨false, (0 : Int), (by first | rfl | (simp; done) | (simp [*]; done)), (by first | rfl | (simp; done) | (simp [*]; done)), H', (hid (by first | omega | (have := HK135.out; have := HK145.out; omega))), (hid (by exact BKb65.out)), SWt2, SWt3, SWo64, SWt104, HL⟩
            case round =>
             clear H'
             clear HL BKb65 SWt2 SWt3 SWo64 SWt104
             obtain ⟨x11_3, x47_3, rfl, rfl, HA, HK181, BKb65, SWt2, SWt3, SWo64, SWt104, HL⟩ := hrel
             cases gk with
             | zero => exact absurd HA.out (by simp [i_alfillaw06_RaysBack.l3])
             | succ k182 =>
              have H := HA.out
              clear HA
              simp only [i_alfillaw06_RaysBack.l3] at H
              by_cases c183 : x47_3 < (t104.length : Int)
              ·
               rw [if_pos c183] at H
               have c183b0 : decide (x47_3 < (t104.length : Int)) = true := decide_eq_true c183
               have hc183 := hid c183
               clear c183
               by_cases c184 : 0 ≤ x47_3
               ·
                rw [if_pos c184] at H
                have c184b0 : decide (0 ≤ x47_3) = true := decide_eq_true c184
                have hc184 := hid c184
                clear c184
                cases x11_3 with
                | true =>
                 rw [if_pos rfl] at H
                 have H' := hid H
                 clear H
                 go_wp2_with (first
                  | ((with_reducible refine gate_d (N := 49) rfl ?_); obtain ⟨ad109, c186, uead109, hv187, HCad109_, HEad109_⟩ := SlS.get SWt104.out.slS (i := x47_3) hc184.out hc183.out; have HCad109 := hid HCad109_; have HEad109 := hid HEad109_; clear HCad109_ HEad109_; refine ag_fix (.pointer (some (ad109.add x47_3.toNat))) ((ex_satN _ _ x47_3 _ _ hv187 hc184.out hc183.out us25 aT29.size _ _ rfl rfl rfl).trans (by rw [Nat.mul_one])) rfl ?_; clear hv187)
                  | ((with_reducible refine gate_d (N := 50) rfl ?_); have SWo110 : Hid (SlT wr 3 uead109 ((nt t104 x47_3.toNat []).map (Value.int .i64))) := hid HEad109.out; refine ag_fix (.agg #[uead109]) (ex_ldN aT29 _ [uead109] rfl (by intro j_ hj_; obtain rfl : j_ = 0 := (by omega); exact HCad109.out) _ rfl rfl) rfl ?_)
                  | ((with_reducible refine gate_d (N := 13) rfl ?_); obtain ⟨gb111, hgb111⟩ : ∃ g_, wr.heap.size = g_ := ⟨_, rfl⟩; refine ag_alst aT29 #[uead109] gb111 hgb111 rfl (by intro v_ hv_; simp at hv_; rcases hv_ with rfl <;> first | rfl | exact SWo110.out.one) rfl rfl 13 rfl _ _ rfl (fun _ => rfl) (fun _ => rfl) rfl ?_; intro w188 hb_ hB_ hs_; have GEb111 : Hid (w.heap.size ≤ gb111) := hid (by have := HL.out.size; omega); have NBb65_b111 : Hid (gb65 ≠ gb111) := hid (by have := BKb65.out.lt; omega); have NBb111_b65 : Hid (gb111 ≠ gb65) := hid (by have := NBb65_b111.out; omega); replace BKb65 := hid (BKb65.out.below hb_ (by rw [← hgb111]; exact BKb65.out.lt)); replace SWt2 := hid (SWt2.out.below (by rw [hgb111]; exact hb_)); replace SWt3 := hid (SWt3.out.below (by rw [hgb111]; exact hb_)); replace SWo64 := hid (SWo64.out.below (by rw [hgb111]; exact hb_)); replace SWt104 := hid (SWt104.out.below (by rw [hgb111]; exact hb_)); replace SWo110 := hid (SWo110.out.below (by rw [hgb111]; exact hb_)); replace HL := hid (HL.out.trans (hb_.mono GEb111.out)); have BKb111 := hid hB_; clear hb_ hB_ hs_ hgb111))
                 (try simp only [Act.put, sI, sZ, sS])
                 go_roundg k182
                 case measure => have := HK135.out; have := HK145.out; have := HK181.out; omega
                 case rel => exact ⟨true, wrap64 (x47_3 + 1), (by first | rfl | (simp; done) | (simp [*]; done)), (by first | rfl | (simp; done) | (simp [*]; done)), H', (hid (by first | omega | (have := HK135.out; have := HK145.out; have := HK181.out; omega))), (hid (by exact BKb65.out)), SWt2, SWt3, SWo64, SWt104, HL⟩
                | false =>
                 rw [if_neg (show ¬ (false = true) by decide)] at H
                 replace H := Option.bind_eq_some_iff.mp H
                 obtain ⟨t112, A189_, H⟩ := H
                 have A189 := hid A189_
                 clear A189_
                 have H' := hid H
                 clear H
                 have k193 := True.intro
                 go_wp2_with (first
                  | ((with_reducible refine gate_d (N := 49) rfl ?_); obtain ⟨ad109, c190, uead109, hv191, HCad109_, HEad109_⟩ := SlS.get SWt104.out.slS (i := x47_3) hc184.out hc183.out; have HCad109 := hid HCad109_; have HEad109 := hid HEad109_; clear HCad109_ HEad109_; refine ag_fix (.pointer (some (ad109.add x47_3.toNat))) ((ex_satN _ _ x47_3 _ _ hv191 hc184.out hc183.out us25 aT29.size _ _ rfl rfl rfl).trans (by rw [Nat.mul_one])) rfl ?_; clear hv191)
                  | ((with_reducible refine gate_d (N := 50) rfl ?_); have SWo110 : Hid (SlT wr 3 uead109 ((nt t104 x47_3.toNat []).map (Value.int .i64))) := hid HEad109.out; refine ag_fix (.agg #[uead109]) (ex_ldN aT29 _ [uead109] rfl (by intro j_ hj_; obtain rfl : j_ = 0 := (by omega); exact HCad109.out) _ rfl rfl) rfl ?_)
                  | ((with_reducible refine gate_d (N := 13) rfl ?_); obtain ⟨gb111, hgb111⟩ : ∃ g_, wr.heap.size = g_ := ⟨_, rfl⟩; refine ag_alst aT29 #[uead109] gb111 hgb111 rfl (by intro v_ hv_; simp at hv_; rcases hv_ with rfl <;> first | rfl | exact SWo110.out.one) rfl rfl 13 rfl _ _ rfl (fun _ => rfl) (fun _ => rfl) rfl ?_; intro w192 hb_ hB_ hs_; have GEb111 : Hid (w.heap.size ≤ gb111) := hid (by have := HL.out.size; omega); have NBb65_b111 : Hid (gb65 ≠ gb111) := hid (by have := BKb65.out.lt; omega); have NBb111_b65 : Hid (gb111 ≠ gb65) := hid (by have := NBb65_b111.out; omega); replace BKb65 := hid (BKb65.out.below hb_ (by rw [← hgb111]; exact BKb65.out.lt)); replace SWt2 := hid (SWt2.out.below (by rw [hgb111]; exact hb_)); replace SWt3 := hid (SWt3.out.below (by rw [hgb111]; exact hb_)); replace SWo64 := hid (SWo64.out.below (by rw [hgb111]; exact hb_)); replace SWt104 := hid (SWt104.out.below (by rw [hgb111]; exact hb_)); replace SWo110 := hid (SWo110.out.below (by rw [hgb111]; exact hb_)); replace HL := hid (HL.out.trans (hb_.mono GEb111.out)); have BKb111 := hid hB_; clear hb_ hB_ hs_ hgb111)
                  | ((with_reducible refine gate_d (N := 53) rfl ?_); refine ag_fix (.pointer (some ⟨gb111, 0, none⟩)) (ex_field 29 0 (.pointer (some ⟨gb111, 0, none⟩)) (.pointer (some ⟨gb111, 0, none⟩)) (fa29_0_0 gb111) _ rfl rfl) rfl ?_)
                  | ((with_reducible refine gate_d (N := 54) rfl ?_); refine ag_fix (uead109) (ex_get sT27 gb111 (0) (uead109) (#[uead109]) BKb111.out rfl _ rfl rfl) rfl ?_)
                  | (go_at_call 16; clear k193; refine (i_alfilref01_Has.calls k182 (uead109) (nt t104 x47_3.toNat []) a1 t112 _ SWo110.out.sl A189.out).mono ?_; rintro e_ w' ⟨rfl, rfl⟩))
                 (try simp only [Act.put, sI, sZ, sS])
                 go_roundg k182
                 case measure => have := HK135.out; have := HK145.out; have := HK181.out; omega
                 case rel => exact ⟨t112, wrap64 (x47_3 + 1), (by first | rfl | (simp; done) | (simp [*]; done)), (by first | rfl | (simp; done) | (simp [*]; done)), H', (hid (by first | omega | (have := HK135.out; have := HK145.out; have := HK181.out; omega))), (hid (by exact BKb65.out)), SWt2, SWt3, SWo64, SWt104, HL⟩
               ·
                rw [if_neg c184] at H
                exact absurd H (by simp)
              ·
               rw [if_neg c183] at H
               have c183b0 : decide (x47_3 < (t104.length : Int)) = false := decide_eq_false c183
               have hc183 := hid c183
               clear c183
               cases x11_3 with
               | true =>
                rw [if_pos rfl] at H
                have H' := hid H
                clear H
                go_wp2_with fail
                (try simp only [Act.put, sI, sZ, sS])
                go_roundg k182
                case measure => have := HK135.out; have := HK145.out; have := HK181.out; omega
                case rel => exact ⟨wrap64 (x29_1 + 1), (by first | rfl | (simp; done) | (simp [*]; done)), H', (hid (by first | omega | (have := HK135.out; have := HK145.out; have := HK181.out; omega))), (hid (by exact BKb65.out)), SWt2, SWt3, SWo64, HL⟩
               | false =>
                rw [if_neg (show ¬ (false = true) by decide)] at H
                obtain rfl := Option.some.inj H
                clear H
                go_wp2_with fail
                (try simp only [Act.put, sI, sZ, sS])
                go_ret
                exact ⟨by first | rfl | (simp; done) | (simp [*]; done), HL.out⟩
           ·
            rw [if_neg c172] at H
            have c172b0 : (a0 == (-1)) = false := beq_eq_false_iff_ne.mpr c172
            have c172b1 : (a0 != (-1)) = true := bne_iff_ne.mpr c172
            have hc172 := hid c172
            clear c172
            replace H := Option.bind_eq_some_iff.mp H
            obtain ⟨t113, A195_, H⟩ := H
            have A195 := hid A195_
            clear A195_
            have H' := hid H
            clear H
            have k198 := True.intro
            go_wp2_with (first
             | ((with_reducible refine gate_d (N := 31) rfl ?_); obtain ⟨ad94, c196, hv197, HCad94_⟩ := Sl.get (l := nt t3 x22_0.toNat []) (f := (Value.int .i64)) SWo64.out.sl 0 (i := x29_1) hc148.out hc147.out; have HCad94 := hid HCad94_; clear HCad94_; refine ag_fix (.pointer (some (ad94.add x29_1.toNat))) (ex_sat _ _ x29_1 _ _ hv197 hc148.out hc147.out us27 sT3 _ _ rfl rfl rfl) rfl ?_; have HVAad94 := hid hv197; clear hv197)
             | ((with_reducible refine gate_d (N := 32) rfl ?_); refine ag_fix (.int .i64 (nt (nt t3 x22_0.toNat []) x29_1.toNat 0)) (ex_scell sT3 _ _ HCad94.out _ rfl rfl) rfl ?_)
             | (go_at_call 15; clear k198; refine (i_rays_Table_Of.calls k146 (ut2) t2 a0 (nt (nt t3 x22_0.toNat []) x29_1.toNat 0) t113 _ SWt2.out A195.out).mono ?_; rintro e_ w199 ⟨ut113, rfl, so_t113, hb_⟩; replace so_t113 := so_t113.mono HL.out.size; have SWn_t113 := hid so_t113; clear so_t113; replace BKb65 := hid (BKb65.out.below hb_ BKb65.out.lt); replace SWt2 := hid (SWt2.out.below hb_); replace SWt3 := hid (SWt3.out.below hb_); replace SWo64 := hid (SWo64.out.below hb_); replace HL := hid (HL.out.trans (hb_.mono HL.out.size)); clear hb_; have SWt113 := SWn_t113; clear SWn_t113)
             | ((with_reducible refine gate_d (N := 46) rfl ?_); obtain ⟨A200, c201, hv202⟩ := SWt113.out.slS.shape; skip; refine ag_fix (.int .i64 (t113.length : Int)) (ex_len us25 _ _ _ _ hv202 _ rfl rfl) rfl ?_; clear hv202))
            (try simp only [Act.put, sI, sZ, sS])
            go_loopg [11, 47] k146 (fun kq v11 v47 w' => ∃ (x11_4 : Bool) (x47_4 : Int), v11 = .bool x11_4 ∧ v47 = .int .i64 x47_4 ∧ Hid (i_alfillaw06_RaysBack.l4 kq a0 a1 x22_0 x29_1 t113 t2 t3 x11_4 x47_4 = some r1) ∧ Hid (kq ≤ k146) ∧ Hid (Blk w' gb65 29 #[uead63]) ∧ Hid (RTb w' ut2 t2) ∧ Hid (OwnS w' w.heap.size 29 3 (Value.int .i64) ut3 t3) ∧ Hid (SlT w' 3 uead63 ((nt t3 x22_0.toNat []).map (Value.int .i64))) ∧ Hid (OwnS w' w.heap.size 29 3 (Value.int .i64) ut113 t113) ∧ Hid (Below w.heap.size w w'))
            case atStart => exact ⟨false, (0 : Int), (by first | rfl | (simp; done) | (simp [*]; done)), (by first | rfl | (simp; done) | (simp [*]; done)), H', (hid (by first | omega | (have := HK135.out; have := HK145.out; omega))), (hid (by exact BKb65.out)), SWt2, SWt3, SWo64, SWt113, HL⟩
            case round =>
             clear H'
             clear HL BKb65 SWt2 SWt3 SWo64 SWt113
             obtain ⟨x11_4, x47_4, rfl, rfl, HA, HK203, BKb65, SWt2, SWt3, SWo64, SWt113, HL⟩ := hrel
             cases gk with
             | zero => exact absurd HA.out (by simp [i_alfillaw06_RaysBack.l4])
             | succ k204 =>
              have H := HA.out
              clear HA
              simp only [i_alfillaw06_RaysBack.l4] at H
              by_cases c205 : x47_4 < (t113.length : Int)
              ·
               rw [if_pos c205] at H
               have c205b0 : decide (x47_4 < (t113.length : Int)) = true := decide_eq_true c205
               have hc205 := hid c205
               clear c205
               by_cases c206 : 0 ≤ x47_4
               ·
                rw [if_pos c206] at H
                have c206b0 : decide (0 ≤ x47_4) = true := decide_eq_true c206
                have hc206 := hid c206
                clear c206
                cases x11_4 with
                | true =>
                 rw [if_pos rfl] at H
                 have H' := hid H
                 clear H
                 go_wp2_with (first
                  | ((with_reducible refine gate_d (N := 49) rfl ?_); obtain ⟨ad118, c208, uead118, hv209, HCad118_, HEad118_⟩ := SlS.get SWt113.out.slS (i := x47_4) hc206.out hc205.out; have HCad118 := hid HCad118_; have HEad118 := hid HEad118_; clear HCad118_ HEad118_; refine ag_fix (.pointer (some (ad118.add x47_4.toNat))) ((ex_satN _ _ x47_4 _ _ hv209 hc206.out hc205.out us25 aT29.size _ _ rfl rfl rfl).trans (by rw [Nat.mul_one])) rfl ?_; clear hv209)
                  | ((with_reducible refine gate_d (N := 50) rfl ?_); have SWo119 : Hid (SlT wr 3 uead118 ((nt t113 x47_4.toNat []).map (Value.int .i64))) := hid HEad118.out; refine ag_fix (.agg #[uead118]) (ex_ldN aT29 _ [uead118] rfl (by intro j_ hj_; obtain rfl : j_ = 0 := (by omega); exact HCad118.out) _ rfl rfl) rfl ?_)
                  | ((with_reducible refine gate_d (N := 13) rfl ?_); obtain ⟨gb120, hgb120⟩ : ∃ g_, wr.heap.size = g_ := ⟨_, rfl⟩; refine ag_alst aT29 #[uead118] gb120 hgb120 rfl (by intro v_ hv_; simp at hv_; rcases hv_ with rfl <;> first | rfl | exact SWo119.out.one) rfl rfl 13 rfl _ _ rfl (fun _ => rfl) (fun _ => rfl) rfl ?_; intro w210 hb_ hB_ hs_; have GEb120 : Hid (w.heap.size ≤ gb120) := hid (by have := HL.out.size; omega); have NBb65_b120 : Hid (gb65 ≠ gb120) := hid (by have := BKb65.out.lt; omega); have NBb120_b65 : Hid (gb120 ≠ gb65) := hid (by have := NBb65_b120.out; omega); replace BKb65 := hid (BKb65.out.below hb_ (by rw [← hgb120]; exact BKb65.out.lt)); replace SWt2 := hid (SWt2.out.below (by rw [hgb120]; exact hb_)); replace SWt3 := hid (SWt3.out.below (by rw [hgb120]; exact hb_)); replace SWo64 := hid (SWo64.out.below (by rw [hgb120]; exact hb_)); replace SWt113 := hid (SWt113.out.below (by rw [hgb120]; exact hb_)); replace SWo119 := hid (SWo119.out.below (by rw [hgb120]; exact hb_)); replace HL := hid (HL.out.trans (hb_.mono GEb120.out)); have BKb120 := hid hB_; clear hb_ hB_ hs_ hgb120))
                 (try simp only [Act.put, sI, sZ, sS])
                 go_roundg k204
                 case measure => have := HK135.out; have := HK145.out; have := HK203.out; omega
                 case rel => exact ⟨true, wrap64 (x47_4 + 1), (by first | rfl | (simp; done) | (simp [*]; done)), (by first | rfl | (simp; done) | (simp [*]; done)), H', (hid (by first | omega | (have := HK135.out; have := HK145.out; have := HK203.out; omega))), (hid (by exact BKb65.out)), SWt2, SWt3, SWo64, SWt113, HL⟩
                | false =>
                 rw [if_neg (show ¬ (false = true) by decide)] at H
                 replace H := Option.bind_eq_some_iff.mp H
                 obtain ⟨t121, A211_, H⟩ := H
                 have A211 := hid A211_
                 clear A211_
                 have H' := hid H
                 clear H
                 have k215 := True.intro
                 go_wp2_with (first
                  | ((with_reducible refine gate_d (N := 49) rfl ?_); obtain ⟨ad118, c212, uead118, hv213, HCad118_, HEad118_⟩ := SlS.get SWt113.out.slS (i := x47_4) hc206.out hc205.out; have HCad118 := hid HCad118_; have HEad118 := hid HEad118_; clear HCad118_ HEad118_; refine ag_fix (.pointer (some (ad118.add x47_4.toNat))) ((ex_satN _ _ x47_4 _ _ hv213 hc206.out hc205.out us25 aT29.size _ _ rfl rfl rfl).trans (by rw [Nat.mul_one])) rfl ?_; clear hv213)
                  | ((with_reducible refine gate_d (N := 50) rfl ?_); have SWo119 : Hid (SlT wr 3 uead118 ((nt t113 x47_4.toNat []).map (Value.int .i64))) := hid HEad118.out; refine ag_fix (.agg #[uead118]) (ex_ldN aT29 _ [uead118] rfl (by intro j_ hj_; obtain rfl : j_ = 0 := (by omega); exact HCad118.out) _ rfl rfl) rfl ?_)
                  | ((with_reducible refine gate_d (N := 13) rfl ?_); obtain ⟨gb120, hgb120⟩ : ∃ g_, wr.heap.size = g_ := ⟨_, rfl⟩; refine ag_alst aT29 #[uead118] gb120 hgb120 rfl (by intro v_ hv_; simp at hv_; rcases hv_ with rfl <;> first | rfl | exact SWo119.out.one) rfl rfl 13 rfl _ _ rfl (fun _ => rfl) (fun _ => rfl) rfl ?_; intro w214 hb_ hB_ hs_; have GEb120 : Hid (w.heap.size ≤ gb120) := hid (by have := HL.out.size; omega); have NBb65_b120 : Hid (gb65 ≠ gb120) := hid (by have := BKb65.out.lt; omega); have NBb120_b65 : Hid (gb120 ≠ gb65) := hid (by have := NBb65_b120.out; omega); replace BKb65 := hid (BKb65.out.below hb_ (by rw [← hgb120]; exact BKb65.out.lt)); replace SWt2 := hid (SWt2.out.below (by rw [hgb120]; exact hb_)); replace SWt3 := hid (SWt3.out.below (by rw [hgb120]; exact hb_)); replace SWo64 := hid (SWo64.out.below (by rw [hgb120]; exact hb_)); replace SWt113 := hid (SWt113.out.below (by rw [hgb120]; exact hb_)); replace SWo119 := hid (SWo119.out.below (by rw [hgb120]; exact hb_)); replace HL := hid (HL.out.trans (hb_.mono GEb120.out)); have BKb120 := hid hB_; clear hb_ hB_ hs_ hgb120)
                  | ((with_reducible refine gate_d (N := 53) rfl ?_); refine ag_fix (.pointer (some ⟨gb120, 0, none⟩)) (ex_field 29 0 (.pointer (some ⟨gb120, 0, none⟩)) (.pointer (some ⟨gb120, 0, none⟩)) (fa29_0_0 gb120) _ rfl rfl) rfl ?_)
                  | ((with_reducible refine gate_d (N := 54) rfl ?_); refine ag_fix (uead118) (ex_get sT27 gb120 (0) (uead118) (#[uead118]) BKb120.out rfl _ rfl rfl) rfl ?_)
                  | (go_at_call 16; clear k215; refine (i_alfilref01_Has.calls k204 (uead118) (nt t113 x47_4.toNat []) a1 t121 _ SWo119.out.sl A211.out).mono ?_; rintro e_ w' ⟨rfl, rfl⟩))
                 (try simp only [Act.put, sI, sZ, sS])
                 go_roundg k204
                 case measure => have := HK135.out; have := HK145.out; have := HK203.out; omega
                 case rel => exact ⟨t121, wrap64 (x47_4 + 1), (by first | rfl | (simp; done) | (simp [*]; done)), (by first | rfl | (simp; done) | (simp [*]; done)), H', (hid (by first | omega | (have := HK135.out; have := HK145.out; have := HK203.out; omega))), (hid (by exact BKb65.out)), SWt2, SWt3, SWo64, SWt113, HL⟩
               ·
                rw [if_neg c206] at H
                exact absurd H (by simp)
              ·
               rw [if_neg c205] at H
               have c205b0 : decide (x47_4 < (t113.length : Int)) = false := decide_eq_false c205
               have hc205 := hid c205
               clear c205
               cases x11_4 with
               | true =>
                rw [if_pos rfl] at H
                have H' := hid H
                clear H
                go_wp2_with fail
                (try simp only [Act.put, sI, sZ, sS])
                go_roundg k204
                case measure => have := HK135.out; have := HK145.out; have := HK203.out; omega
                case rel => exact ⟨wrap64 (x29_1 + 1), (by first | rfl | (simp; done) | (simp [*]; done)), H', (hid (by first | omega | (have := HK135.out; have := HK145.out; have := HK203.out; omega))), (hid (by exact BKb65.out)), SWt2, SWt3, SWo64, HL⟩
               | false =>
                rw [if_neg (show ¬ (false = true) by decide)] at H
                obtain rfl := Option.some.inj H
                clear H
                go_wp2_with fail
                (try simp only [Act.put, sI, sZ, sS])
                go_ret
                exact ⟨by first | rfl | (simp; done) | (simp [*]; done), HL.out⟩
         ·
          rw [if_neg c148] at H
          exact absurd H (by simp)
        ·
         rw [if_neg c147] at H
         have c147b0 : decide (x29_1 < ((nt t3 x22_0.toNat []).length : Int)) = false := decide_eq_false c147
         have hc147 := hid c147
         clear c147
         have H' := hid H
         clear H
         go_wp2_with fail
         (try simp only [Act.put, sI, sZ, sS])
         go_roundg k146
         case measure => have := HK135.out; have := HK145.out; omega
         case rel => exact ⟨wrap64 (x22_0 + 1), (by first | rfl | (simp; done) | (simp [*]; done)), H', (hid (by first | omega | (have := HK135.out; have := HK145.out; omega))), SWt2, SWt3, HL⟩
     ·
      rw [if_neg c138] at H
      exact absurd H (by simp)
    ·
     rw [if_neg c137] at H
     have c137b0 : decide (x22_0 < (t3.length : Int)) = false := decide_eq_false c137
     have hc137 := hid c137
     clear c137
     obtain rfl := Option.some.inj H
     clear H
     go_wp2_with fail
     (try simp only [Act.put, sI, sZ, sS])
     go_ret
     exact ⟨by first | rfl | (simp; done) | (simp [*]; done), HL.out⟩
 | false =>
  rw [if_neg (show ¬ (false = true) by decide)] at H
  obtain rfl := Option.some.inj H
  clear H
  go_enter Try.func3, Try.ntmps3
  have k217 := True.intro
  go_wp2_with (first
   | (go_at_call 13; clear k217; refine (i_alfillaw06_wakes.calls k false _ A122.out).mono ?_; rintro e_ w218 ⟨rfl, hb_⟩; replace HL := hid (HL.out.trans (hb_.mono HL.out.size)); clear hb_))
  (try simp only [Act.put, sI, sZ, sS])
  go_ret
  exact ⟨by first | rfl | (simp; done) | (simp [*]; done), HL.out⟩
end Go.Proofs.Ytpjocgebnodnoaa
