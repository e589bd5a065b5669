import Derived.Test.YtaipghemddjecaaProg
import Derived.Test.YtaipghemddjecaaL5wz
import Derived.Test.YtaipghemddjecaaMnz
namespace Go.Proofs.Ytaipghemddjecaa
open Go.RowKit
set_option linter.unusedVariables false
set_option linter.unusedSimpArgs false
set_option maxRecDepth 100000
theorem fa67_2_0 (g : Nat) (w : World) : (Instr.fieldAt 67 (.pointer (some ⟨g, 0, none⟩)) 2).run Try.prog w = .ok (.pointer (some ⟨g, 65, none⟩)) w := by kernel_rfl
theorem fa67_1_0 (g : Nat) (w : World) : (Instr.fieldAt 67 (.pointer (some ⟨g, 0, none⟩)) 1).run Try.prog w = .ok (.pointer (some ⟨g, 64, none⟩)) w := by kernel_rfl
theorem fa67_0_0 (g : Nat) (w : World) : (Instr.fieldAt 67 (.pointer (some ⟨g, 0, none⟩)) 0).run Try.prog w = .ok (.pointer (some ⟨g, 0, none⟩)) w := by kernel_rfl
theorem uT25 : Try.prog.underlying 25 = some (.array 64 23) := by kernel_rfl
theorem sT23 : ScT Try.prog 23 := ⟨fun w => by kernel_rfl, fun w => by kernel_rfl⟩
def i_forsyth_reader_full.f (s0 : List Int) (s1 : Int) (s2 : Int) : Option (Bool) := some (s2 == 8)
set_option maxHeartbeats 40000000 in
set_option maxRecDepth 100000 in
theorem i_forsyth_reader_full.calls (s0 : List Int) (s1 : Int) (s2 : Int) (hls0 : s0.length = 64) (r1 : Bool) (g : Nat) (w : World) (hB : Blk w g 67 (xv (Value.int .i8) s0 [.int .i64 s1, .int .i64 s2])) (h : i_forsyth_reader_full.f s0 s1 s2 = some r1) :
    Calls Try.prog 47 #[.pointer (some ⟨g, 0, none⟩)] w fun e w' => e = .returned (.bool r1) ∧ w = w' := by
 have LN_s0 := hid hls0
 clear hls0
 have BKr := hid hB
 clear hB
 have H : (some (s2 == 8)) = some r1 := h
 clear h
 obtain rfl := Option.some.inj H
 clear H
 go_enter Try.func47, Try.ntmps47
 go_wp2_with (first
  | ((with_reducible refine gate_d (N := 5) rfl ?_); refine ag_fix (.pointer (some ⟨g, 65, none⟩)) (ex_field 67 2 (.pointer (some ⟨g, 0, none⟩)) (.pointer (some ⟨g, 65, none⟩)) (fa67_2_0 g) _ rfl rfl) rfl ?_)
  | ((with_reducible refine gate_d (N := 6) rfl ?_); refine ag_fix (.int .i64 s2) (ex_get sT3 g (65) (.int .i64 s2) ((xv (Value.int .i8) s0 [.int .i64 s1, .int .i64 s2])) BKr.out ((xv_cell (n := 64) LN_s0.out 1 65 (by omega)).trans rfl) _ rfl rfl) rfl ?_))
 (try simp only [Act.put, sI, sZ, sS])
 go_ret
 exact ⟨by first | rfl | (simp; done) | (simp [*]; done), rfl⟩
def i_forsyth_reader_over.f (s0 : List Int) (s1 : Int) (s2 : Int) : Option (Bool) := (i_forsyth_reader_full.f s0 s1 s2).bind fun t1 => (if t1 = true then (some (s1 == 7)) else (some false))
set_option maxHeartbeats 40000000 in
set_option maxRecDepth 100000 in
theorem i_forsyth_reader_over.calls (s0 : List Int) (s1 : Int) (s2 : Int) (hls0 : s0.length = 64) (r1 : Bool) (g : Nat) (w : World) (hB : Blk w g 67 (xv (Value.int .i8) s0 [.int .i64 s1, .int .i64 s2])) (h : i_forsyth_reader_over.f s0 s1 s2 = some r1) :
    Calls Try.prog 38 #[.pointer (some ⟨g, 0, none⟩)] w fun e w' => e = .returned (.bool r1) ∧ w = w' := by
 have LN_s0 := hid hls0
 clear hls0
 have BKr := hid hB
 clear hB
 have H : ((i_forsyth_reader_full.f s0 s1 s2).bind fun t1 => (if t1 = true then (some (s1 == 7)) else (some false))) = some r1 := h
 clear h
 replace H := Option.bind_eq_some_iff.mp H
 obtain ⟨t1, A2_, H⟩ := H
 have A2 := hid A2_
 clear A2_
 cases t1 with
 | true =>
  rw [if_pos rfl] at H
  obtain rfl := Option.some.inj H
  clear H
  go_enter Try.func38, Try.ntmps38
  have k4 := True.intro
  go_wp2_with (first
   | (go_at_call 47; clear k4; refine (i_forsyth_reader_full.calls s0 s1 s2 LN_s0.out true g _ BKr.out A2.out).mono ?_; rintro e_ w' ⟨rfl, rfl⟩)
   | ((with_reducible refine gate_d (N := 8) rfl ?_); refine ag_fix (.pointer (some ⟨g, 64, none⟩)) (ex_field 67 1 (.pointer (some ⟨g, 0, none⟩)) (.pointer (some ⟨g, 64, none⟩)) (fa67_1_0 g) _ rfl rfl) rfl ?_)
   | ((with_reducible refine gate_d (N := 9) rfl ?_); refine ag_fix (.int .i64 s1) (ex_get sT3 g (64) (.int .i64 s1) ((xv (Value.int .i8) s0 [.int .i64 s1, .int .i64 s2])) BKr.out ((xv_cell (n := 64) LN_s0.out 0 64 (by omega)).trans rfl) _ rfl rfl) rfl ?_))
  (try simp only [Act.put, sI, sZ, sS])
  go_ret
  exact ⟨by first | rfl | (simp; done) | (simp [*]; done), rfl⟩
 | false =>
  rw [if_neg (show ¬ (false = true) by decide)] at H
  obtain rfl := Option.some.inj H
  clear H
  go_enter Try.func38, Try.ntmps38
  have k5 := True.intro
  go_wp2_with (first
   | (go_at_call 47; clear k5; refine (i_forsyth_reader_full.calls s0 s1 s2 LN_s0.out false g _ BKr.out A2.out).mono ?_; rintro e_ w' ⟨rfl, rfl⟩))
  (try simp only [Act.put, sI, sZ, sS])
  go_ret
  exact ⟨by first | rfl | (simp; done) | (simp [*]; done), rfl⟩
def i_forsyth_reader_empty.f (s0 : List Int) (s1 : Int) (s2 : Int) (a1 : Int) : Option (Bool × (List Int) × Int × Int) := some (decide ((wrap64 (s2 + a1)) ≤ 8), s0, s1, wrap64 (s2 + a1))
set_option maxHeartbeats 40000000 in
set_option maxRecDepth 100000 in
theorem i_forsyth_reader_empty.calls (s0 : List Int) (s1 : Int) (s2 : Int) (a1 : Int) (hls0 : s0.length = 64) (r1 : Bool) (q0 : List Int) (q1 : Int) (q2 : Int) (g : Nat) (w : World) (hB : Blk w g 67 (xv (Value.int .i8) s0 [.int .i64 s1, .int .i64 s2])) (h : i_forsyth_reader_empty.f s0 s1 s2 a1 = some (r1, q0, q1, q2)) :
    Calls Try.prog 48 #[.pointer (some ⟨g, 0, none⟩), .int .i64 a1] w fun e w' => e = .returned (.bool r1) ∧ q0.length = 64 ∧ Blk w' g 67 (xv (Value.int .i8) q0 [.int .i64 q1, .int .i64 q2]) ∧ Bex g w.heap.size w w' := by
 have LN_s0 := hid hls0
 clear hls0
 have BKr := hid hB
 clear hB
 have HL := hid (Bex.refl g w.heap.size w)
 have H : (some (decide ((wrap64 (s2 + a1)) ≤ 8), s0, s1, wrap64 (s2 + a1))) = some (r1, q0, q1, q2) := h
 clear h
 simp only [Option.some.injEq, Prod.mk.injEq] at H
 obtain ⟨rfl, rfl, rfl, rfl⟩ := H
 go_enter Try.func48, Try.ntmps48
 go_wp2_with (first
  | ((with_reducible refine gate_d (N := 7) rfl ?_); refine ag_fix (.pointer (some ⟨g, 65, none⟩)) (ex_field 67 2 (.pointer (some ⟨g, 0, none⟩)) (.pointer (some ⟨g, 65, none⟩)) (fa67_2_0 g) _ rfl rfl) rfl ?_)
  | ((with_reducible refine gate_d (N := 8) rfl ?_); refine ag_fix (.int .i64 s2) (ex_get sT3 g (65) (.int .i64 s2) ((xv (Value.int .i8) s0 [.int .i64 s1, .int .i64 s2])) BKr.out ((xv_cell (n := 64) LN_s0.out 1 65 (by omega)).trans rfl) _ rfl rfl) rfl ?_)
  | ((with_reducible refine gate_d (N := 12) rfl ?_); refine ag_fix (.pointer (some ⟨g, 65, none⟩)) (ex_field 67 2 (.pointer (some ⟨g, 0, none⟩)) (.pointer (some ⟨g, 65, none⟩)) (fa67_2_0 g) _ rfl rfl) rfl ?_)
  | ((with_reducible refine gate_s (t := 3) (p := 12) rfl ?_); refine ag_set sT3 g (65) (.int .i64 (wrap64 (s2 + a1))) (xv (Value.int .i8) s0 [.int .i64 s1, .int .i64 s2]) (xv (Value.int .i8) s0 [.int .i64 s1, .int .i64 (wrap64 (s2 + a1))]) BKr.out (by rw [show (xv (Value.int .i8) s0 [.int .i64 s1, .int .i64 s2]) = xv (Value.int .i8) s0 [.int .i64 s1, .int .i64 s2] from rfl, xv_size, show s0.length = 64 from LN_s0.out]; simp) rfl rfl ((xv_setc (n := 64) LN_s0.out 1 65 (by omega) _).trans rfl) rfl _ _ rfl rfl rfl ?_; intro w1 ho_ hB_; replace HL := hid (HL.out.off ho_ (.inl rfl)); replace BKr := hid hB_; clear ho_ hB_)
  | ((with_reducible refine gate_d (N := 15) rfl ?_); refine ag_fix (.pointer (some ⟨g, 65, none⟩)) (ex_field 67 2 (.pointer (some ⟨g, 0, none⟩)) (.pointer (some ⟨g, 65, none⟩)) (fa67_2_0 g) _ rfl rfl) rfl ?_)
  | ((with_reducible refine gate_d (N := 16) rfl ?_); refine ag_fix (.int .i64 (wrap64 (s2 + a1))) (ex_get sT3 g (65) (.int .i64 (wrap64 (s2 + a1))) ((xv (Value.int .i8) s0 [.int .i64 s1, .int .i64 (wrap64 (s2 + a1))])) BKr.out ((xv_cell (n := 64) LN_s0.out 1 65 (by omega)).trans rfl) _ rfl rfl) rfl ?_))
 (try simp only [Act.put, sI, sZ, sS])
 go_ret
 exact ⟨by first | rfl | (simp; done) | (simp [*]; done), LN_s0.out, (by exact BKr.out), HL.out⟩
def i_forsyth_reader_man.f (s0 : List Int) (s1 : Int) (s2 : Int) (a1 : Int) : Option (Bool × (List Int) × Int × Int) := (i_square_At.f s2 (wrap64 (7 - s1))).bind fun bt1 => (if (ofZ (Utf8.encode a1) != 0) = true then (if bt1.2 = true then (if a1 > 122 then (some (false, s0, s1, s2)) else (if 0 ≤ bt1.1 then (if bt1.1 < 64 then (some (true, s0.set bt1.1.toNat (IntKind.i8.wrap (ofZ (Utf8.encode a1))), s1, wrap64 (s2 + 1))) else (none)) else (none))) else (some (false, s0, s1, s2))) else (some (false, s0, s1, s2)))
set_option maxHeartbeats 40000000 in
set_option maxRecDepth 100000 in
theorem i_forsyth_reader_man.calls (s0 : List Int) (s1 : Int) (s2 : Int) (a1 : Int) (hls0 : s0.length = 64) (r1 : Bool) (q0 : List Int) (q1 : Int) (q2 : Int) (g : Nat) (w : World) (hB : Blk w g 67 (xv (Value.int .i8) s0 [.int .i64 s1, .int .i64 s2])) (h : i_forsyth_reader_man.f s0 s1 s2 a1 = some (r1, q0, q1, q2)) :
    Calls Try.prog 49 #[.pointer (some ⟨g, 0, none⟩), .int .i32 a1] w fun e w' => e = .returned (.bool r1) ∧ q0.length = 64 ∧ Blk w' g 67 (xv (Value.int .i8) q0 [.int .i64 q1, .int .i64 q2]) ∧ Bex g w.heap.size w w' := by
 have LN_s0 := hid hls0
 clear hls0
 have BKr := hid hB
 clear hB
 have HL := hid (Bex.refl g w.heap.size w)
 have H : ((i_square_At.f s2 (wrap64 (7 - s1))).bind fun bt1 => (if (ofZ (Utf8.encode a1) != 0) = true then (if bt1.2 = true then (if a1 > 122 then (some (false, s0, s1, s2)) else (if 0 ≤ bt1.1 then (if bt1.1 < 64 then (some (true, s0.set bt1.1.toNat (IntKind.i8.wrap (ofZ (Utf8.encode a1))), s1, wrap64 (s2 + 1))) else (none)) else (none))) else (some (false, s0, s1, s2))) else (some (false, s0, s1, s2)))) = some (r1, q0, q1, q2) := h
 clear h
 replace H := Option.bind_eq_some_iff.mp H
 obtain ⟨⟨t1, t2⟩, A3_, H⟩ := H
 dsimp only at H
 have A3 := hid A3_
 clear A3_
 by_cases c4 : (ofZ (Utf8.encode a1) != 0) = true
 ·
  rw [if_pos c4] at H
  have c4b0 : (ofZ (Utf8.encode a1) != 0) = true := c4
  (try have c4b1 : decide (ofZ (Utf8.encode a1) = 0) = false := by simpa using c4)
  (try have c4b2 : (ofZ (Utf8.encode a1) == 0) = false := by simpa using c4)
  (try have c4b3 : ¬ (ofZ (Utf8.encode a1) = 0) := by simpa using c4)
  have hc4 := hid c4
  clear c4
  cases t2 with
  | true =>
   rw [if_pos rfl] at H
   by_cases c6 : a1 > 122
   ·
    rw [if_pos c6] at H
    have c6b0 : decide (122 < a1) = true := decide_eq_true c6
    have hc6 := hid c6
    clear c6
    simp only [Option.some.injEq, Prod.mk.injEq] at H
    obtain ⟨rfl, rfl, rfl, rfl⟩ := H
    go_enter Try.func49, Try.ntmps49
    have k7 := True.intro
    go_wp2_with (first
     | (go_at_call 58; clear k7; refine (mnOf (Utf8.encode a1) (enc_le _) _).mono ?_; rintro e_ w8 ⟨rfl, hb_⟩; replace BKr := hid (BKr.out.below hb_ BKr.out.lt); replace HL := hid (HL.out.below hb_ HL.out.size); clear hb_))
    (try simp only [Act.put, sI, sZ, sS])
    have WR64 := i64_w
    have WR32 := i32_w
    refine up_regionW (by kernel_rfl) (by kernel_rfl) ?_
    refine q_do (.pointer (some ⟨g, 0, none⟩)) (fun w'_ hc_ => ex_mv (.tmp 0) (.inl rfl) _ rfl) rfl rfl ?_
    intro ts_ ht_; simp only [sI, sZ, sS] at ht_; subst ht_
    refine q_do (.pointer (some ⟨g, 0, none⟩)) (fun w'_ hc_ => by go_simp <;> (unfold wrap64; omega)) rfl rfl ?_
    intro ts_ ht_; simp only [sI, sZ, sS] at ht_; subst ht_
    refine q_do (.pointer (some ⟨g, 65, none⟩)) (fun w'_ hc_ => by obtain ⟨n_, hn_⟩ := hc_; exact ex_field 67 2 (.pointer (some ⟨g, 0, none⟩)) (.pointer (some ⟨g, 65, none⟩)) (fa67_2_0 g) _ rfl rfl) rfl rfl ?_
    intro ts_ ht_; simp only [sI, sZ, sS] at ht_; subst ht_
    refine q_do (.int .i64 s2) (fun w'_ hc_ => by obtain ⟨n_, hn_⟩ := hc_; exact ex_get sT3 g (65) (.int .i64 s2) ((xv (Value.int .i8) s0 [.int .i64 s1, .int .i64 s2])) (by rw [hn_]; exact BKr.out.below n_.below BKr.out.lt) ((xv_cell (n := 64) LN_s0.out 1 65 (by omega)).trans rfl) _ rfl rfl) rfl rfl ?_
    intro ts_ ht_; simp only [sI, sZ, sS] at ht_; subst ht_
    refine q_do (.pointer (some ⟨g, 0, none⟩)) (fun w'_ hc_ => ex_mv (.tmp 0) (.inl rfl) _ rfl) rfl rfl ?_
    intro ts_ ht_; simp only [sI, sZ, sS] at ht_; subst ht_
    refine q_do (.pointer (some ⟨g, 0, none⟩)) (fun w'_ hc_ => by go_simp <;> (unfold wrap64; omega)) rfl rfl ?_
    intro ts_ ht_; simp only [sI, sZ, sS] at ht_; subst ht_
    refine q_do (.pointer (some ⟨g, 64, none⟩)) (fun w'_ hc_ => by obtain ⟨n_, hn_⟩ := hc_; exact ex_field 67 1 (.pointer (some ⟨g, 0, none⟩)) (.pointer (some ⟨g, 64, none⟩)) (fa67_1_0 g) _ rfl rfl) rfl rfl ?_
    intro ts_ ht_; simp only [sI, sZ, sS] at ht_; subst ht_
    refine q_do (.int .i64 s1) (fun w'_ hc_ => by obtain ⟨n_, hn_⟩ := hc_; exact ex_get sT3 g (64) (.int .i64 s1) ((xv (Value.int .i8) s0 [.int .i64 s1, .int .i64 s2])) (by rw [hn_]; exact BKr.out.below n_.below BKr.out.lt) ((xv_cell (n := 64) LN_s0.out 0 64 (by omega)).trans rfl) _ rfl rfl) rfl rfl ?_
    intro ts_ ht_; simp only [sI, sZ, sS] at ht_; subst ht_
    refine q_do (.int .i64 (wrap64 (7 - s1))) (fun w'_ hc_ => by go_simp <;> (unfold wrap64; omega)) rfl rfl ?_
    intro ts_ ht_; simp only [sI, sZ, sS] at ht_; subst ht_
    refine q_call (.tuple #[.int .i64 t1, .bool true]) 45 #[.int .i64 s2, .int .i64 (wrap64 (7 - s1))] (fun w'_ => by go_simp) (fun w'_ hc_ => (i_square_At.calls s2 (wrap64 (7 - s1)) t1 true _ A3.out).mono fun e_ w2_ h_ => ⟨h_.1, up_same hc_ h_.2⟩) rfl rfl ?_
    intro ts_ ht_; simp only [sI, sZ, sS] at ht_; subst ht_
    refine q_do (.tuple #[.int .i64 t1, .bool true]) (fun w'_ hc_ => ex_mv (.tmp 25) (.inl rfl) _ rfl) rfl rfl ?_
    intro ts_ ht_; simp only [sI, sZ, sS] at ht_; subst ht_
    refine q_do (.int .i64 t1) (fun w'_ hc_ => by go_simp <;> (unfold wrap64; omega)) rfl rfl ?_
    intro ts_ ht_; simp only [sI, sZ, sS] at ht_; subst ht_
    refine q_do (.bool true) (fun w'_ hc_ => by go_simp <;> (unfold wrap64; omega)) rfl rfl ?_
    intro ts_ ht_; simp only [sI, sZ, sS] at ht_; subst ht_
    refine q_do (.int .i64 t1) (fun w'_ hc_ => ex_mv (.tmp 26) (.inr rfl) _ rfl) rfl rfl ?_
    intro ts_ ht_; simp only [sI, sZ, sS] at ht_; subst ht_
    refine q_do (.bool true) (fun w'_ hc_ => ex_mv (.tmp 27) (.inr rfl) _ rfl) rfl rfl ?_
    intro ts_ ht_; simp only [sI, sZ, sS] at ht_; subst ht_
    refine q_end ?_
    rintro w8_ ⟨n_, rfl⟩
    replace BKr := hid (BKr.out.below n_.below BKr.out.lt)
    replace HL := hid (HL.out.below n_.below HL.out.size)
    generalize n_.world = w9 at *
    clear n_ WR64 WR32
    go_wp2_with fail
    (try simp only [Act.put, sI, sZ, sS])
    go_ret
    exact ⟨by first | rfl | (simp; done) | (simp [*]; done), LN_s0.out, (by exact BKr.out), HL.out⟩
   ·
    rw [if_neg c6] at H
    have c6b0 : decide (122 < a1) = false := decide_eq_false c6
    have hc6 := hid c6
    clear c6
    by_cases c10 : 0 ≤ t1
    ·
     rw [if_pos c10] at H
     have c10b0 : decide (0 ≤ t1) = true := decide_eq_true c10
     have hc10 := hid c10
     clear c10
     by_cases c11 : t1 < 64
     ·
      rw [if_pos c11] at H
      have c11b0 : decide (t1 < 64) = true := decide_eq_true c11
      have hc11 := hid c11
      clear c11
      simp only [Option.some.injEq, Prod.mk.injEq] at H
      obtain ⟨rfl, rfl, rfl, rfl⟩ := H
      go_enter Try.func49, Try.ntmps49
      have k12 := True.intro
      go_wp2_with (first
       | (go_at_call 58; clear k12; refine (mnOf (Utf8.encode a1) (enc_le _) _).mono ?_; rintro e_ w13 ⟨rfl, hb_⟩; replace BKr := hid (BKr.out.below hb_ BKr.out.lt); replace HL := hid (HL.out.below hb_ HL.out.size); clear hb_))
      (try simp only [Act.put, sI, sZ, sS])
      have WR64 := i64_w
      have WR32 := i32_w
      refine up_regionW (by kernel_rfl) (by kernel_rfl) ?_
      refine q_do (.pointer (some ⟨g, 0, none⟩)) (fun w'_ hc_ => ex_mv (.tmp 0) (.inl rfl) _ rfl) rfl rfl ?_
      intro ts_ ht_; simp only [sI, sZ, sS] at ht_; subst ht_
      refine q_do (.pointer (some ⟨g, 0, none⟩)) (fun w'_ hc_ => by go_simp <;> (unfold wrap64; omega)) rfl rfl ?_
      intro ts_ ht_; simp only [sI, sZ, sS] at ht_; subst ht_
      refine q_do (.pointer (some ⟨g, 65, none⟩)) (fun w'_ hc_ => by obtain ⟨n_, hn_⟩ := hc_; exact ex_field 67 2 (.pointer (some ⟨g, 0, none⟩)) (.pointer (some ⟨g, 65, none⟩)) (fa67_2_0 g) _ rfl rfl) rfl rfl ?_
      intro ts_ ht_; simp only [sI, sZ, sS] at ht_; subst ht_
      refine q_do (.int .i64 s2) (fun w'_ hc_ => by obtain ⟨n_, hn_⟩ := hc_; exact ex_get sT3 g (65) (.int .i64 s2) ((xv (Value.int .i8) s0 [.int .i64 s1, .int .i64 s2])) (by rw [hn_]; exact BKr.out.below n_.below BKr.out.lt) ((xv_cell (n := 64) LN_s0.out 1 65 (by omega)).trans rfl) _ rfl rfl) rfl rfl ?_
      intro ts_ ht_; simp only [sI, sZ, sS] at ht_; subst ht_
      refine q_do (.pointer (some ⟨g, 0, none⟩)) (fun w'_ hc_ => ex_mv (.tmp 0) (.inl rfl) _ rfl) rfl rfl ?_
      intro ts_ ht_; simp only [sI, sZ, sS] at ht_; subst ht_
      refine q_do (.pointer (some ⟨g, 0, none⟩)) (fun w'_ hc_ => by go_simp <;> (unfold wrap64; omega)) rfl rfl ?_
      intro ts_ ht_; simp only [sI, sZ, sS] at ht_; subst ht_
      refine q_do (.pointer (some ⟨g, 64, none⟩)) (fun w'_ hc_ => by obtain ⟨n_, hn_⟩ := hc_; exact ex_field 67 1 (.pointer (some ⟨g, 0, none⟩)) (.pointer (some ⟨g, 64, none⟩)) (fa67_1_0 g) _ rfl rfl) rfl rfl ?_
      intro ts_ ht_; simp only [sI, sZ, sS] at ht_; subst ht_
      refine q_do (.int .i64 s1) (fun w'_ hc_ => by obtain ⟨n_, hn_⟩ := hc_; exact ex_get sT3 g (64) (.int .i64 s1) ((xv (Value.int .i8) s0 [.int .i64 s1, .int .i64 s2])) (by rw [hn_]; exact BKr.out.below n_.below BKr.out.lt) ((xv_cell (n := 64) LN_s0.out 0 64 (by omega)).trans rfl) _ rfl rfl) rfl rfl ?_
      intro ts_ ht_; simp only [sI, sZ, sS] at ht_; subst ht_
      refine q_do (.int .i64 (wrap64 (7 - s1))) (fun w'_ hc_ => by go_simp <;> (unfold wrap64; omega)) rfl rfl ?_
      intro ts_ ht_; simp only [sI, sZ, sS] at ht_; subst ht_
      refine q_call (.tuple #[.int .i64 t1, .bool true]) 45 #[.int .i64 s2, .int .i64 (wrap64 (7 - s1))] (fun w'_ => by go_simp) (fun w'_ hc_ => (i_square_At.calls s2 (wrap64 (7 - s1)) t1 true _ A3.out).mono fun e_ w2_ h_ => ⟨h_.1, up_same hc_ h_.2⟩) rfl rfl ?_
      intro ts_ ht_; simp only [sI, sZ, sS] at ht_; subst ht_
      refine q_do (.tuple #[.int .i64 t1, .bool true]) (fun w'_ hc_ => ex_mv (.tmp 25) (.inl rfl) _ rfl) rfl rfl ?_
      intro ts_ ht_; simp only [sI, sZ, sS] at ht_; subst ht_
      refine q_do (.int .i64 t1) (fun w'_ hc_ => by go_simp <;> (unfold wrap64; omega)) rfl rfl ?_
      intro ts_ ht_; simp only [sI, sZ, sS] at ht_; subst ht_
      refine q_do (.bool true) (fun w'_ hc_ => by go_simp <;> (unfold wrap64; omega)) rfl rfl ?_
      intro ts_ ht_; simp only [sI, sZ, sS] at ht_; subst ht_
      refine q_do (.int .i64 t1) (fun w'_ hc_ => ex_mv (.tmp 26) (.inr rfl) _ rfl) rfl rfl ?_
      intro ts_ ht_; simp only [sI, sZ, sS] at ht_; subst ht_
      refine q_do (.bool true) (fun w'_ hc_ => ex_mv (.tmp 27) (.inr rfl) _ rfl) rfl rfl ?_
      intro ts_ ht_; simp only [sI, sZ, sS] at ht_; subst ht_
      refine q_end ?_
      rintro w8_ ⟨n_, rfl⟩
      replace BKr := hid (BKr.out.below n_.below BKr.out.lt)
      replace HL := hid (HL.out.below n_.below HL.out.size)
      generalize n_.world = w14 at *
      clear n_ WR64 WR32
      go_wp2_with (first
       | ((with_reducible refine gate_d (N := 43) rfl ?_); refine ag_fix (.pointer (some ⟨g, 0, none⟩)) (ex_field 67 0 (.pointer (some ⟨g, 0, none⟩)) (.pointer (some ⟨g, 0, none⟩)) (fa67_0_0 g) _ rfl rfl) rfl ?_)
       | ((with_reducible refine gate_d (N := 44) rfl ?_); refine ag_fix (.pointer (some ⟨g, t1.toNat, none⟩)) (ex_at 25 (.pointer (some ⟨g, 0, none⟩)) (.int .i64 t1) (.pointer (some ⟨g, t1.toNat, none⟩)) (fun w_ => (run_atv 23 uT25 sT23.size g 0 t1 hc10.out hc11.out w_).trans (by simp)) _ _ rfl rfl rfl) rfl ?_)
       | ((with_reducible refine gate_s (t := 23) (p := 44) rfl ?_); refine ag_set sT23 g (t1.toNat) (.int .i8 (IntKind.i8.wrap (ofZ (Utf8.encode a1)))) (xv (Value.int .i8) s0 [.int .i64 s1, .int .i64 s2]) (xv (Value.int .i8) (s0.set t1.toNat (IntKind.i8.wrap (ofZ (Utf8.encode a1)))) [.int .i64 s1, .int .i64 s2]) BKr.out (by rw [show (xv (Value.int .i8) s0 [.int .i64 s1, .int .i64 s2]) = xv (Value.int .i8) s0 [.int .i64 s1, .int .i64 s2] from rfl, xv_size]; have hlt_ : t1.toNat < s0.length := (by have h_ : s0.length = 64 := LN_s0.out; have h1_ := hc10.out; have h2_ := hc11.out; omega); simp; omega) rfl rfl (xv_sete (by have h_ : s0.length = 64 := LN_s0.out; have h1_ := hc10.out; have h2_ := hc11.out; omega) _) rfl _ _ rfl rfl rfl ?_; intro w15 ho_ hB_; replace HL := hid (HL.out.off ho_ (.inl rfl)); replace BKr := hid hB_; clear ho_ hB_)
       | ((with_reducible refine gate_d (N := 47) rfl ?_); refine ag_fix (.pointer (some ⟨g, 65, none⟩)) (ex_field 67 2 (.pointer (some ⟨g, 0, none⟩)) (.pointer (some ⟨g, 65, none⟩)) (fa67_2_0 g) _ rfl rfl) rfl ?_)
       | ((with_reducible refine gate_d (N := 48) rfl ?_); refine ag_fix (.int .i64 s2) (ex_get sT3 g (65) (.int .i64 s2) ((xv (Value.int .i8) (s0.set t1.toNat (IntKind.i8.wrap (ofZ (Utf8.encode a1)))) [.int .i64 s1, .int .i64 s2])) BKr.out ((xv_cell (n := 64) (by first | rfl | (simp only [List.length_set, List.length_replicate, zL_len, List.length_cons, List.length_nil, LN_s0.out]; done) | (simp [zL_len, LN_s0.out]; done)) 1 65 (by omega)).trans rfl) _ rfl rfl) rfl ?_)
       | ((with_reducible refine gate_d (N := 51) rfl ?_); refine ag_fix (.pointer (some ⟨g, 65, none⟩)) (ex_field 67 2 (.pointer (some ⟨g, 0, none⟩)) (.pointer (some ⟨g, 65, none⟩)) (fa67_2_0 g) _ rfl rfl) rfl ?_)
       | ((with_reducible refine gate_s (t := 3) (p := 51) rfl ?_); refine ag_set sT3 g (65) (.int .i64 (wrap64 (s2 + 1))) (xv (Value.int .i8) (s0.set t1.toNat (IntKind.i8.wrap (ofZ (Utf8.encode a1)))) [.int .i64 s1, .int .i64 s2]) (xv (Value.int .i8) (s0.set t1.toNat (IntKind.i8.wrap (ofZ (Utf8.encode a1)))) [.int .i64 s1, .int .i64 (wrap64 (s2 + 1))]) BKr.out (by rw [show (xv (Value.int .i8) (s0.set t1.toNat (IntKind.i8.wrap (ofZ (Utf8.encode a1)))) [.int .i64 s1, .int .i64 s2]) = xv (Value.int .i8) (s0.set t1.toNat (IntKind.i8.wrap (ofZ (Utf8.encode a1)))) [.int .i64 s1, .int .i64 s2] from rfl, xv_size, show (s0.set t1.toNat (IntKind.i8.wrap (ofZ (Utf8.encode a1)))).length = 64 from (by first | rfl | (simp only [List.length_set, List.length_replicate, zL_len, List.length_cons, List.length_nil, LN_s0.out]; done) | (simp [zL_len, LN_s0.out]; done))]; simp) rfl rfl ((xv_setc (n := 64) (by first | rfl | (simp only [List.length_set, List.length_replicate, zL_len, List.length_cons, List.length_nil, LN_s0.out]; done) | (simp [zL_len, LN_s0.out]; done)) 1 65 (by omega) _).trans rfl) rfl _ _ rfl rfl rfl ?_; intro w16 ho_ hB_; replace HL := hid (HL.out.off ho_ (.inl rfl)); replace BKr := hid hB_; clear ho_ hB_))
      (try simp only [Act.put, sI, sZ, sS])
      go_ret
      exact ⟨by first | rfl | (simp; done) | (simp [*]; done), (by first | rfl | (simp only [List.length_set, List.length_replicate, zL_len, List.length_cons, List.length_nil, LN_s0.out]; done) | (simp [zL_len, LN_s0.out]; done)), (by exact BKr.out), HL.out⟩
     ·
      rw [if_neg c11] at H
      exact absurd H (by simp)
    ·
     rw [if_neg c10] at H
     exact absurd H (by simp)
  | false =>
   rw [if_neg (show ¬ (false = true) by decide)] at H
   simp only [Option.some.injEq, Prod.mk.injEq] at H
   obtain ⟨rfl, rfl, rfl, rfl⟩ := H
   go_enter Try.func49, Try.ntmps49
   have k17 := True.intro
   go_wp2_with (first
    | (go_at_call 58; clear k17; refine (mnOf (Utf8.encode a1) (enc_le _) _).mono ?_; rintro e_ w18 ⟨rfl, hb_⟩; replace BKr := hid (BKr.out.below hb_ BKr.out.lt); replace HL := hid (HL.out.below hb_ HL.out.size); clear hb_))
   (try simp only [Act.put, sI, sZ, sS])
   have WR64 := i64_w
   have WR32 := i32_w
   refine up_regionW (by kernel_rfl) (by kernel_rfl) ?_
   refine q_do (.pointer (some ⟨g, 0, none⟩)) (fun w'_ hc_ => ex_mv (.tmp 0) (.inl rfl) _ rfl) rfl rfl ?_
   intro ts_ ht_; simp only [sI, sZ, sS] at ht_; subst ht_
   refine q_do (.pointer (some ⟨g, 0, none⟩)) (fun w'_ hc_ => by go_simp <;> (unfold wrap64; omega)) rfl rfl ?_
   intro ts_ ht_; simp only [sI, sZ, sS] at ht_; subst ht_
   refine q_do (.pointer (some ⟨g, 65, none⟩)) (fun w'_ hc_ => by obtain ⟨n_, hn_⟩ := hc_; exact ex_field 67 2 (.pointer (some ⟨g, 0, none⟩)) (.pointer (some ⟨g, 65, none⟩)) (fa67_2_0 g) _ rfl rfl) rfl rfl ?_
   intro ts_ ht_; simp only [sI, sZ, sS] at ht_; subst ht_
   refine q_do (.int .i64 s2) (fun w'_ hc_ => by obtain ⟨n_, hn_⟩ := hc_; exact ex_get sT3 g (65) (.int .i64 s2) ((xv (Value.int .i8) s0 [.int .i64 s1, .int .i64 s2])) (by rw [hn_]; exact BKr.out.below n_.below BKr.out.lt) ((xv_cell (n := 64) LN_s0.out 1 65 (by omega)).trans rfl) _ rfl rfl) rfl rfl ?_
   intro ts_ ht_; simp only [sI, sZ, sS] at ht_; subst ht_
   refine q_do (.pointer (some ⟨g, 0, none⟩)) (fun w'_ hc_ => ex_mv (.tmp 0) (.inl rfl) _ rfl) rfl rfl ?_
   intro ts_ ht_; simp only [sI, sZ, sS] at ht_; subst ht_
   refine q_do (.pointer (some ⟨g, 0, none⟩)) (fun w'_ hc_ => by go_simp <;> (unfold wrap64; omega)) rfl rfl ?_
   intro ts_ ht_; simp only [sI, sZ, sS] at ht_; subst ht_
   refine q_do (.pointer (some ⟨g, 64, none⟩)) (fun w'_ hc_ => by obtain ⟨n_, hn_⟩ := hc_; exact ex_field 67 1 (.pointer (some ⟨g, 0, none⟩)) (.pointer (some ⟨g, 64, none⟩)) (fa67_1_0 g) _ rfl rfl) rfl rfl ?_
   intro ts_ ht_; simp only [sI, sZ, sS] at ht_; subst ht_
   refine q_do (.int .i64 s1) (fun w'_ hc_ => by obtain ⟨n_, hn_⟩ := hc_; exact ex_get sT3 g (64) (.int .i64 s1) ((xv (Value.int .i8) s0 [.int .i64 s1, .int .i64 s2])) (by rw [hn_]; exact BKr.out.below n_.below BKr.out.lt) ((xv_cell (n := 64) LN_s0.out 0 64 (by omega)).trans rfl) _ rfl rfl) rfl rfl ?_
   intro ts_ ht_; simp only [sI, sZ, sS] at ht_; subst ht_
   refine q_do (.int .i64 (wrap64 (7 - s1))) (fun w'_ hc_ => by go_simp <;> (unfold wrap64; omega)) rfl rfl ?_
   intro ts_ ht_; simp only [sI, sZ, sS] at ht_; subst ht_
   refine q_call (.tuple #[.int .i64 t1, .bool false]) 45 #[.int .i64 s2, .int .i64 (wrap64 (7 - s1))] (fun w'_ => by go_simp) (fun w'_ hc_ => (i_square_At.calls s2 (wrap64 (7 - s1)) t1 false _ A3.out).mono fun e_ w2_ h_ => ⟨h_.1, up_same hc_ h_.2⟩) rfl rfl ?_
   intro ts_ ht_; simp only [sI, sZ, sS] at ht_; subst ht_
   refine q_do (.tuple #[.int .i64 t1, .bool false]) (fun w'_ hc_ => ex_mv (.tmp 25) (.inl rfl) _ rfl) rfl rfl ?_
   intro ts_ ht_; simp only [sI, sZ, sS] at ht_; subst ht_
   refine q_do (.int .i64 t1) (fun w'_ hc_ => by go_simp <;> (unfold wrap64; omega)) rfl rfl ?_
   intro ts_ ht_; simp only [sI, sZ, sS] at ht_; subst ht_
   refine q_do (.bool false) (fun w'_ hc_ => by go_simp <;> (unfold wrap64; omega)) rfl rfl ?_
   intro ts_ ht_; simp only [sI, sZ, sS] at ht_; subst ht_
   refine q_do (.int .i64 t1) (fun w'_ hc_ => ex_mv (.tmp 26) (.inr rfl) _ rfl) rfl rfl ?_
   intro ts_ ht_; simp only [sI, sZ, sS] at ht_; subst ht_
   refine q_do (.bool false) (fun w'_ hc_ => ex_mv (.tmp 27) (.inr rfl) _ rfl) rfl rfl ?_
   intro ts_ ht_; simp only [sI, sZ, sS] at ht_; subst ht_
   refine q_end ?_
   rintro w8_ ⟨n_, rfl⟩
   replace BKr := hid (BKr.out.below n_.below BKr.out.lt)
   replace HL := hid (HL.out.below n_.below HL.out.size)
   generalize n_.world = w19 at *
   clear n_ WR64 WR32
   go_wp2_with fail
   (try simp only [Act.put, sI, sZ, sS])
   go_ret
   exact ⟨by first | rfl | (simp; done) | (simp [*]; done), LN_s0.out, (by exact BKr.out), HL.out⟩
 ·
  rw [if_neg c4] at H
  have c4b0 : (ofZ (Utf8.encode a1) != 0) = false := by simpa using c4
  (try have c4b1 : decide (ofZ (Utf8.encode a1) = 0) = true := by simpa using c4)
  (try have c4b2 : (ofZ (Utf8.encode a1) == 0) = true := by simpa using c4)
  have hc4 := hid c4
  clear c4
  simp only [Option.some.injEq, Prod.mk.injEq] at H
  obtain ⟨rfl, rfl, rfl, rfl⟩ := H
  go_enter Try.func49, Try.ntmps49
  have k20 := True.intro
  go_wp2_with (first
   | (go_at_call 58; clear k20; refine (mnOf (Utf8.encode a1) (enc_le _) _).mono ?_; rintro e_ w21 ⟨rfl, hb_⟩; replace BKr := hid (BKr.out.below hb_ BKr.out.lt); replace HL := hid (HL.out.below hb_ HL.out.size); clear hb_))
  (try simp only [Act.put, sI, sZ, sS])
  have WR64 := i64_w
  have WR32 := i32_w
  refine up_regionW (by kernel_rfl) (by kernel_rfl) ?_
  refine q_do (.pointer (some ⟨g, 0, none⟩)) (fun w'_ hc_ => ex_mv (.tmp 0) (.inl rfl) _ rfl) rfl rfl ?_
  intro ts_ ht_; simp only [sI, sZ, sS] at ht_; subst ht_
  refine q_do (.pointer (some ⟨g, 0, none⟩)) (fun w'_ hc_ => by go_simp <;> (unfold wrap64; omega)) rfl rfl ?_
  intro ts_ ht_; simp only [sI, sZ, sS] at ht_; subst ht_
  refine q_do (.pointer (some ⟨g, 65, none⟩)) (fun w'_ hc_ => by obtain ⟨n_, hn_⟩ := hc_; exact ex_field 67 2 (.pointer (some ⟨g, 0, none⟩)) (.pointer (some ⟨g, 65, none⟩)) (fa67_2_0 g) _ rfl rfl) rfl rfl ?_
  intro ts_ ht_; simp only [sI, sZ, sS] at ht_; subst ht_
  refine q_do (.int .i64 s2) (fun w'_ hc_ => by obtain ⟨n_, hn_⟩ := hc_; exact ex_get sT3 g (65) (.int .i64 s2) ((xv (Value.int .i8) s0 [.int .i64 s1, .int .i64 s2])) (by rw [hn_]; exact BKr.out.below n_.below BKr.out.lt) ((xv_cell (n := 64) LN_s0.out 1 65 (by omega)).trans rfl) _ rfl rfl) rfl rfl ?_
  intro ts_ ht_; simp only [sI, sZ, sS] at ht_; subst ht_
  refine q_do (.pointer (some ⟨g, 0, none⟩)) (fun w'_ hc_ => ex_mv (.tmp 0) (.inl rfl) _ rfl) rfl rfl ?_
  intro ts_ ht_; simp only [sI, sZ, sS] at ht_; subst ht_
  refine q_do (.pointer (some ⟨g, 0, none⟩)) (fun w'_ hc_ => by go_simp <;> (unfold wrap64; omega)) rfl rfl ?_
  intro ts_ ht_; simp only [sI, sZ, sS] at ht_; subst ht_
  refine q_do (.pointer (some ⟨g, 64, none⟩)) (fun w'_ hc_ => by obtain ⟨n_, hn_⟩ := hc_; exact ex_field 67 1 (.pointer (some ⟨g, 0, none⟩)) (.pointer (some ⟨g, 64, none⟩)) (fa67_1_0 g) _ rfl rfl) rfl rfl ?_
  intro ts_ ht_; simp only [sI, sZ, sS] at ht_; subst ht_
  refine q_do (.int .i64 s1) (fun w'_ hc_ => by obtain ⟨n_, hn_⟩ := hc_; exact ex_get sT3 g (64) (.int .i64 s1) ((xv (Value.int .i8) s0 [.int .i64 s1, .int .i64 s2])) (by rw [hn_]; exact BKr.out.below n_.below BKr.out.lt) ((xv_cell (n := 64) LN_s0.out 0 64 (by omega)).trans rfl) _ rfl rfl) rfl rfl ?_
  intro ts_ ht_; simp only [sI, sZ, sS] at ht_; subst ht_
  refine q_do (.int .i64 (wrap64 (7 - s1))) (fun w'_ hc_ => by go_simp <;> (unfold wrap64; omega)) rfl rfl ?_
  intro ts_ ht_; simp only [sI, sZ, sS] at ht_; subst ht_
  refine q_call (.tuple #[.int .i64 t1, .bool t2]) 45 #[.int .i64 s2, .int .i64 (wrap64 (7 - s1))] (fun w'_ => by go_simp) (fun w'_ hc_ => (i_square_At.calls s2 (wrap64 (7 - s1)) t1 t2 _ A3.out).mono fun e_ w2_ h_ => ⟨h_.1, up_same hc_ h_.2⟩) rfl rfl ?_
  intro ts_ ht_; simp only [sI, sZ, sS] at ht_; subst ht_
  refine q_do (.tuple #[.int .i64 t1, .bool t2]) (fun w'_ hc_ => ex_mv (.tmp 25) (.inl rfl) _ rfl) rfl rfl ?_
  intro ts_ ht_; simp only [sI, sZ, sS] at ht_; subst ht_
  refine q_do (.int .i64 t1) (fun w'_ hc_ => by go_simp <;> (unfold wrap64; omega)) rfl rfl ?_
  intro ts_ ht_; simp only [sI, sZ, sS] at ht_; subst ht_
  refine q_do (.bool t2) (fun w'_ hc_ => by go_simp <;> (unfold wrap64; omega)) rfl rfl ?_
  intro ts_ ht_; simp only [sI, sZ, sS] at ht_; subst ht_
  refine q_do (.int .i64 t1) (fun w'_ hc_ => ex_mv (.tmp 26) (.inr rfl) _ rfl) rfl rfl ?_
  intro ts_ ht_; simp only [sI, sZ, sS] at ht_; subst ht_
  refine q_do (.bool t2) (fun w'_ hc_ => ex_mv (.tmp 27) (.inr rfl) _ rfl) rfl rfl ?_
  intro ts_ ht_; simp only [sI, sZ, sS] at ht_; subst ht_
  refine q_end ?_
  rintro w8_ ⟨n_, rfl⟩
  replace BKr := hid (BKr.out.below n_.below BKr.out.lt)
  replace HL := hid (HL.out.below n_.below HL.out.size)
  generalize n_.world = w22 at *
  clear n_ WR64 WR32
  go_wp2_with fail
  (try simp only [Act.put, sI, sZ, sS])
  go_ret
  exact ⟨by first | rfl | (simp; done) | (simp [*]; done), LN_s0.out, (by exact BKr.out), HL.out⟩
def i_forsyth_reader_next.f (s0 : List Int) (s1 : Int) (s2 : Int) (a1 : Int) : Option (Bool × (List Int) × Int × Int) := if a1 = 47 then ((i_forsyth_reader_full.f s0 s1 s2).bind fun t1 => (if t1 = true then ((i_forsyth_reader_over.f s0 s1 s2).bind fun t2 => (if t2 = true then (some (false, s0, s1, s2)) else (some (true, s0, wrap64 (s1 + 1), 0)))) else (some (false, s0, s1, s2)))) else ((i_forsyth_reader_full.f s0 s1 s2).bind fun t3 => (if t3 = true then (some (false, s0, s1, s2)) else (if a1 ≥ 49 then (if a1 ≤ 56 then ((i_forsyth_reader_empty.f s0 s1 s2 (wrap64 (wrap32 (a1 - 48)))).bind fun bt4 => (some (bt4.1, bt4.2.1, bt4.2.2.1, bt4.2.2.2))) else ((i_forsyth_reader_man.f s0 s1 s2 a1).bind fun bt8 => (some (bt8.1, bt8.2.1, bt8.2.2.1, bt8.2.2.2)))) else ((i_forsyth_reader_man.f s0 s1 s2 a1).bind fun bt12 => (some (bt12.1, bt12.2.1, bt12.2.2.1, bt12.2.2.2))))))
set_option maxHeartbeats 40000000 in
set_option maxRecDepth 100000 in
theorem i_forsyth_reader_next.calls (s0 : List Int) (s1 : Int) (s2 : Int) (a1 : Int) (hls0 : s0.length = 64) (r1 : Bool) (q0 : List Int) (q1 : Int) (q2 : Int) (g : Nat) (w : World) (hB : Blk w g 67 (xv (Value.int .i8) s0 [.int .i64 s1, .int .i64 s2])) (h : i_forsyth_reader_next.f s0 s1 s2 a1 = some (r1, q0, q1, q2)) :
    Calls Try.prog 37 #[.pointer (some ⟨g, 0, none⟩), .int .i32 a1] w fun e w' => e = .returned (.bool r1) ∧ q0.length = 64 ∧ Blk w' g 67 (xv (Value.int .i8) q0 [.int .i64 q1, .int .i64 q2]) ∧ Bex g w.heap.size w w' := by
 have LN_s0 := hid hls0
 clear hls0
 have BKr := hid hB
 clear hB
 have HL := hid (Bex.refl g w.heap.size w)
 have H : (if a1 = 47 then ((i_forsyth_reader_full.f s0 s1 s2).bind fun t1 => (if t1 = true then ((i_forsyth_reader_over.f s0 s1 s2).bind fun t2 => (if t2 = true then (some (false, s0, s1, s2)) else (some (true, s0, wrap64 (s1 + 1), 0)))) else (some (false, s0, s1, s2)))) else ((i_forsyth_reader_full.f s0 s1 s2).bind fun t3 => (if t3 = true then (some (false, s0, s1, s2)) else (if a1 ≥ 49 then (if a1 ≤ 56 then ((i_forsyth_reader_empty.f s0 s1 s2 (wrap64 (wrap32 (a1 - 48)))).bind fun bt4 => (some (bt4.1, bt4.2.1, bt4.2.2.1, bt4.2.2.2))) else ((i_forsyth_reader_man.f s0 s1 s2 a1).bind fun bt8 => (some (bt8.1, bt8.2.1, bt8.2.2.1, bt8.2.2.2)))) else ((i_forsyth_reader_man.f s0 s1 s2 a1).bind fun bt12 => (some (bt12.1, bt12.2.1, bt12.2.2.1, bt12.2.2.2))))))) = some (r1, q0, q1, q2) := h
 clear h
 by_cases c16 : a1 = 47
 ·
  rw [if_pos c16] at H
  have c16b0 : (a1 == 47) = true := beq_iff_eq.mpr c16
  have c16b1 : (a1 != 47) = false := bne_eq_false_iff_eq.mpr c16
  have hc16 := hid c16
  clear c16
  replace H := Option.bind_eq_some_iff.mp H
  obtain ⟨t1, A17_, H⟩ := H
  have A17 := hid A17_
  clear A17_
  cases t1 with
  | true =>
   rw [if_pos rfl] at H
   have H' := hid H
   clear H
   go_enter Try.func37, Try.ntmps37
   have k20 := True.intro
   go_wp2_with (first
    | (go_at_call 47; clear k20; refine (i_forsyth_reader_full.calls s0 s1 s2 LN_s0.out true g _ BKr.out A17.out).mono ?_; rintro e_ w' ⟨rfl, rfl⟩))
   (try simp only [Act.put, sI, sZ, sS])
   have H := H'.out
   clear H'
   replace H := Option.bind_eq_some_iff.mp H
   obtain ⟨t2, A19_, H⟩ := H
   have A19 := hid A19_
   clear A19_
   cases t2 with
   | true =>
    rw [if_pos rfl] at H
    simp only [Option.some.injEq, Prod.mk.injEq] at H
    obtain ⟨rfl, rfl, rfl, rfl⟩ := H
    have k22 := True.intro
    go_wp2_with (first
     | (go_at_call 38; clear k22; refine (i_forsyth_reader_over.calls s0 s1 s2 LN_s0.out true g _ BKr.out A19.out).mono ?_; rintro e_ w' ⟨rfl, rfl⟩))
    (try simp only [Act.put, sI, sZ, sS])
    go_ret
    exact ⟨by first | rfl | (simp; done) | (simp [*]; done), LN_s0.out, (by exact BKr.out), HL.out⟩
   | false =>
    rw [if_neg (show ¬ (false = true) by decide)] at H
    simp only [Option.some.injEq, Prod.mk.injEq] at H
    obtain ⟨rfl, rfl, rfl, rfl⟩ := H
    have k23 := True.intro
    go_wp2_with (first
     | (go_at_call 38; clear k23; refine (i_forsyth_reader_over.calls s0 s1 s2 LN_s0.out false g _ BKr.out A19.out).mono ?_; rintro e_ w' ⟨rfl, rfl⟩)
     | ((with_reducible refine gate_d (N := 19) rfl ?_); refine ag_fix (.pointer (some ⟨g, 64, none⟩)) (ex_field 67 1 (.pointer (some ⟨g, 0, none⟩)) (.pointer (some ⟨g, 64, none⟩)) (fa67_1_0 g) _ rfl rfl) rfl ?_)
     | ((with_reducible refine gate_d (N := 20) rfl ?_); refine ag_fix (.int .i64 s1) (ex_get sT3 g (64) (.int .i64 s1) ((xv (Value.int .i8) s0 [.int .i64 s1, .int .i64 s2])) BKr.out ((xv_cell (n := 64) LN_s0.out 0 64 (by omega)).trans rfl) _ rfl rfl) rfl ?_)
     | ((with_reducible refine gate_d (N := 23) rfl ?_); refine ag_fix (.pointer (some ⟨g, 64, none⟩)) (ex_field 67 1 (.pointer (some ⟨g, 0, none⟩)) (.pointer (some ⟨g, 64, none⟩)) (fa67_1_0 g) _ rfl rfl) rfl ?_)
     | ((with_reducible refine gate_s (t := 3) (p := 23) rfl ?_); refine ag_set sT3 g (64) (.int .i64 (wrap64 (s1 + 1))) (xv (Value.int .i8) s0 [.int .i64 s1, .int .i64 s2]) (xv (Value.int .i8) s0 [.int .i64 (wrap64 (s1 + 1)), .int .i64 s2]) BKr.out (by rw [show (xv (Value.int .i8) s0 [.int .i64 s1, .int .i64 s2]) = xv (Value.int .i8) s0 [.int .i64 s1, .int .i64 s2] from rfl, xv_size, show s0.length = 64 from LN_s0.out]; simp) rfl rfl ((xv_setc (n := 64) LN_s0.out 0 64 (by omega) _).trans rfl) rfl _ _ rfl rfl rfl ?_; intro w24 ho_ hB_; replace HL := hid (HL.out.off ho_ (.inl rfl)); replace BKr := hid hB_; clear ho_ hB_)
     | ((with_reducible refine gate_d (N := 25) rfl ?_); refine ag_fix (.pointer (some ⟨g, 65, none⟩)) (ex_field 67 2 (.pointer (some ⟨g, 0, none⟩)) (.pointer (some ⟨g, 65, none⟩)) (fa67_2_0 g) _ rfl rfl) rfl ?_)
     | ((with_reducible refine gate_s (t := 3) (p := 25) rfl ?_); refine ag_set sT3 g (65) (.int .i64 0) (xv (Value.int .i8) s0 [.int .i64 (wrap64 (s1 + 1)), .int .i64 s2]) (xv (Value.int .i8) s0 [.int .i64 (wrap64 (s1 + 1)), .int .i64 0]) BKr.out (by rw [show (xv (Value.int .i8) s0 [.int .i64 (wrap64 (s1 + 1)), .int .i64 s2]) = xv (Value.int .i8) s0 [.int .i64 (wrap64 (s1 + 1)), .int .i64 s2] from rfl, xv_size, show s0.length = 64 from LN_s0.out]; simp) rfl rfl ((xv_setc (n := 64) LN_s0.out 1 65 (by omega) _).trans rfl) rfl _ _ rfl rfl rfl ?_; intro w25 ho_ hB_; replace HL := hid (HL.out.off ho_ (.inl rfl)); replace BKr := hid hB_; clear ho_ hB_))
    (try simp only [Act.put, sI, sZ, sS])
    go_ret
    exact ⟨by first | rfl | (simp; done) | (simp [*]; done), LN_s0.out, (by exact BKr.out), HL.out⟩
  | false =>
   rw [if_neg (show ¬ (false = true) by decide)] at H
   simp only [Option.some.injEq, Prod.mk.injEq] at H
   obtain ⟨rfl, rfl, rfl, rfl⟩ := H
   go_enter Try.func37, Try.ntmps37
   have k26 := True.intro
   go_wp2_with (first
    | (go_at_call 47; clear k26; refine (i_forsyth_reader_full.calls s0 s1 s2 LN_s0.out false g _ BKr.out A17.out).mono ?_; rintro e_ w' ⟨rfl, rfl⟩))
   (try simp only [Act.put, sI, sZ, sS])
   go_ret
   exact ⟨by first | rfl | (simp; done) | (simp [*]; done), LN_s0.out, (by exact BKr.out), HL.out⟩
 ·
  rw [if_neg c16] at H
  have c16b0 : (a1 == 47) = false := beq_eq_false_iff_ne.mpr c16
  have c16b1 : (a1 != 47) = true := bne_iff_ne.mpr c16
  have hc16 := hid c16
  clear c16
  replace H := Option.bind_eq_some_iff.mp H
  obtain ⟨t3, A27_, H⟩ := H
  have A27 := hid A27_
  clear A27_
  cases t3 with
  | true =>
   rw [if_pos rfl] at H
   simp only [Option.some.injEq, Prod.mk.injEq] at H
   obtain ⟨rfl, rfl, rfl, rfl⟩ := H
   go_enter Try.func37, Try.ntmps37
   have k29 := True.intro
   go_wp2_with (first
    | (go_at_call 47; clear k29; refine (i_forsyth_reader_full.calls s0 s1 s2 LN_s0.out true g _ BKr.out A27.out).mono ?_; rintro e_ w' ⟨rfl, rfl⟩))
   (try simp only [Act.put, sI, sZ, sS])
   go_ret
   exact ⟨by first | rfl | (simp; done) | (simp [*]; done), LN_s0.out, (by exact BKr.out), HL.out⟩
  | false =>
   rw [if_neg (show ¬ (false = true) by decide)] at H
   by_cases c30 : a1 ≥ 49
   ·
    rw [if_pos c30] at H
    have c30b0 : decide (49 ≤ a1) = true := decide_eq_true c30
    have hc30 := hid c30
    clear c30
    by_cases c31 : a1 ≤ 56
    ·
     rw [if_pos c31] at H
     have c31b0 : decide (a1 ≤ 56) = true := decide_eq_true c31
     have hc31 := hid c31
     clear c31
     replace H := Option.bind_eq_some_iff.mp H
     obtain ⟨⟨t4, t5, t6, t7⟩, A32_, H⟩ := H
     dsimp only at H
     have A32 := hid A32_
     clear A32_
     simp only [Option.some.injEq, Prod.mk.injEq] at H
     obtain ⟨rfl, rfl, rfl, rfl⟩ := H
     go_enter Try.func37, Try.ntmps37
     have k33 := True.intro
     have k34 := True.intro
     go_wp2_with (first
      | (go_at_call 47; clear k33; refine (i_forsyth_reader_full.calls s0 s1 s2 LN_s0.out false g _ BKr.out A27.out).mono ?_; rintro e_ w' ⟨rfl, rfl⟩)
      | (go_at_call 48; clear k34; refine (i_forsyth_reader_empty.calls s0 s1 s2 (wrap64 (wrap32 (a1 - 48))) LN_s0.out t4 t5 t6 t7 g _ BKr.out A32.out).mono ?_; rintro e_ w35 ⟨rfl, ln_t5, hB_, hx_⟩; have LN_t5 := hid ln_t5; clear ln_t5; replace HL := hid (HL.out.bex hx_ HL.out.size (.inl rfl)); replace BKr := hid hB_; clear hx_ hB_))
     (try simp only [Act.put, sI, sZ, sS])
     go_ret
     exact ⟨by first | rfl | (simp; done) | (simp [*]; done), LN_t5.out, (by exact BKr.out), HL.out⟩
    ·
     rw [if_neg c31] at H
     have c31b0 : decide (a1 ≤ 56) = false := decide_eq_false c31
     have hc31 := hid c31
     clear c31
     replace H := Option.bind_eq_some_iff.mp H
     obtain ⟨⟨t8, t9, t10, t11⟩, A36_, H⟩ := H
     dsimp only at H
     have A36 := hid A36_
     clear A36_
     simp only [Option.some.injEq, Prod.mk.injEq] at H
     obtain ⟨rfl, rfl, rfl, rfl⟩ := H
     go_enter Try.func37, Try.ntmps37
     have k37 := True.intro
     have k38 := True.intro
     go_wp2_with (first
      | (go_at_call 47; clear k37; refine (i_forsyth_reader_full.calls s0 s1 s2 LN_s0.out false g _ BKr.out A27.out).mono ?_; rintro e_ w' ⟨rfl, rfl⟩)
      | (go_at_call 49; clear k38; refine (i_forsyth_reader_man.calls s0 s1 s2 a1 LN_s0.out t8 t9 t10 t11 g _ BKr.out A36.out).mono ?_; rintro e_ w39 ⟨rfl, ln_t9, hB_, hx_⟩; have LN_t9 := hid ln_t9; clear ln_t9; replace HL := hid (HL.out.bex hx_ HL.out.size (.inl rfl)); replace BKr := hid hB_; clear hx_ hB_))
     (try simp only [Act.put, sI, sZ, sS])
     go_ret
     exact ⟨by first | rfl | (simp; done) | (simp [*]; done), LN_t9.out, (by exact BKr.out), HL.out⟩
   ·
    rw [if_neg c30] at H
    have c30b0 : decide (49 ≤ a1) = false := decide_eq_false c30
    have hc30 := hid c30
    clear c30
    replace H := Option.bind_eq_some_iff.mp H
    obtain ⟨⟨t12, t13, t14, t15⟩, A40_, H⟩ := H
    dsimp only at H
    have A40 := hid A40_
    clear A40_
    simp only [Option.some.injEq, Prod.mk.injEq] at H
    obtain ⟨rfl, rfl, rfl, rfl⟩ := H
    go_enter Try.func37, Try.ntmps37
    have k41 := True.intro
    have k42 := True.intro
    go_wp2_with (first
     | (go_at_call 47; clear k41; refine (i_forsyth_reader_full.calls s0 s1 s2 LN_s0.out false g _ BKr.out A27.out).mono ?_; rintro e_ w' ⟨rfl, rfl⟩)
     | (go_at_call 49; clear k42; refine (i_forsyth_reader_man.calls s0 s1 s2 a1 LN_s0.out t12 t13 t14 t15 g _ BKr.out A40.out).mono ?_; rintro e_ w43 ⟨rfl, ln_t13, hB_, hx_⟩; have LN_t13 := hid ln_t13; clear ln_t13; replace HL := hid (HL.out.bex hx_ HL.out.size (.inl rfl)); replace BKr := hid hB_; clear hx_ hB_))
    (try simp only [Act.put, sI, sZ, sS])
    go_ret
    exact ⟨by first | rfl | (simp; done) | (simp [*]; done), LN_t13.out, (by exact BKr.out), HL.out⟩
end Go.Proofs.Ytaipghemddjecaa
