import Derived.Test.YtaipghemddjecaaProg
import Derived.Test.YtaipghemddjecaaL6wz
import Derived.Test.YtaipghemddjecaaL2wz
import Derived.Test.YtaipghemddjecaaF2wz
import Derived.Test.YtaipghemddjecaaR1wz
import Derived.Test.YtaipghemddjecaaS1wz
import Derived.Test.YtaipghemddjecaaYvz
namespace Go.Proofs.Ytaipghemddjecaa
open Go.RowKit
set_option linter.unusedVariables false
set_option linter.unusedSimpArgs false
set_option maxRecDepth 100000
theorem fa40_1_0 (g : Nat) (w : World) : (Instr.fieldAt 40 (.pointer (some ⟨g, 0, none⟩)) 1).run Try.prog w = .ok (.pointer (some ⟨g, 1, none⟩)) w := by kernel_rfl
theorem fa40_2_0 (g : Nat) (w : World) : (Instr.fieldAt 40 (.pointer (some ⟨g, 0, none⟩)) 2).run Try.prog w = .ok (.pointer (some ⟨g, 2, none⟩)) w := by kernel_rfl
theorem fa40_0_0 (g : Nat) (w : World) : (Instr.fieldAt 40 (.pointer (some ⟨g, 0, none⟩)) 0).run Try.prog w = .ok (.pointer (some ⟨g, 0, none⟩)) w := by kernel_rfl
theorem fa40_3_0 (g : Nat) (w : World) : (Instr.fieldAt 40 (.pointer (some ⟨g, 0, none⟩)) 3).run Try.prog w = .ok (.pointer (some ⟨g, 3, none⟩)) w := by kernel_rfl
theorem fa31_0_3 (g : Nat) (w : World) : (Instr.fieldAt 31 (.pointer (some ⟨g, 3, none⟩)) 0).run Try.prog w = .ok (.pointer (some ⟨g, 3, none⟩)) w := by kernel_rfl
theorem fa27_0_3 (g : Nat) (w : World) : (Instr.fieldAt 27 (.pointer (some ⟨g, 3, none⟩)) 0).run Try.prog w = .ok (.pointer (some ⟨g, 3, none⟩)) w := by kernel_rfl
theorem fa27_2_3 (g : Nat) (w : World) : (Instr.fieldAt 27 (.pointer (some ⟨g, 3, none⟩)) 2).run Try.prog w = .ok (.pointer (some ⟨g, 68, none⟩)) w := by kernel_rfl
theorem fa31_2_3 (g : Nat) (w : World) : (Instr.fieldAt 31 (.pointer (some ⟨g, 3, none⟩)) 2).run Try.prog w = .ok (.pointer (some ⟨g, 74, none⟩)) w := by kernel_rfl
theorem fa31_3_3 (g : Nat) (w : World) : (Instr.fieldAt 31 (.pointer (some ⟨g, 3, none⟩)) 3).run Try.prog w = .ok (.pointer (some ⟨g, 75, none⟩)) w := by kernel_rfl
theorem fa40_4_0 (g : Nat) (w : World) : (Instr.fieldAt 40 (.pointer (some ⟨g, 0, none⟩)) 4).run Try.prog w = .ok (.pointer (some ⟨g, 78, none⟩)) w := by kernel_rfl
theorem fa31_4_3 (g : Nat) (w : World) : (Instr.fieldAt 31 (.pointer (some ⟨g, 3, none⟩)) 4).run Try.prog w = .ok (.pointer (some ⟨g, 76, none⟩)) w := by kernel_rfl
theorem fa27_3_3 (g : Nat) (w : World) : (Instr.fieldAt 27 (.pointer (some ⟨g, 3, none⟩)) 3).run Try.prog w = .ok (.pointer (some ⟨g, 69, none⟩)) w := by kernel_rfl
theorem fa31_5_3 (g : Nat) (w : World) : (Instr.fieldAt 31 (.pointer (some ⟨g, 3, none⟩)) 5).run Try.prog w = .ok (.pointer (some ⟨g, 77, none⟩)) w := by kernel_rfl
theorem fa31_1_3 (g : Nat) (w : World) : (Instr.fieldAt 31 (.pointer (some ⟨g, 3, none⟩)) 1).run Try.prog w = .ok (.pointer (some ⟨g, 70, none⟩)) w := by kernel_rfl
def i_task_reader_step.f (s0 : ByteArray) (s1 : Int) (s2 : Int) (s3 : List Int) (s4 : Int) (s5 : Int) (s6 : Int) (s7 : Int) (s8 : Int) (s9 : Int) (s10 : Bool) (s11 : Bool) (s12 : Bool) (s13 : Int) (s14 : Int) (s15 : Int) (s16 : Value) (a1_0 : Int) (a1_1 : Int) (a1_2 : Int) : Option (Int × ByteArray × Int × Int × (List Int) × Int × Int × Int × Int × Int × Int × Bool × Bool × Bool × Int × Int × Int × Value) := some (a1_1, s0, a1_0, a1_2, s3, s4, s5, s6, s7, s8, s9, s10, s11, s12, s13, s14, s15, s16)
set_option maxHeartbeats 40000000 in
set_option maxRecDepth 100000 in
theorem i_task_reader_step.calls (s0 : ByteArray) (s1 : Int) (s2 : Int) (s3 : List Int) (s4 : Int) (s5 : Int) (s6 : Int) (s7 : Int) (s8 : Int) (s9 : Int) (s10 : Bool) (s11 : Bool) (s12 : Bool) (s13 : Int) (s14 : Int) (s15 : Int) (s16 : Value) (a1_0 : Int) (a1_1 : Int) (a1_2 : Int) (hls3 : s3.length = 64) (r1 : Int) (q0 : ByteArray) (q1 : Int) (q2 : Int) (q3 : List Int) (q4 : Int) (q5 : Int) (q6 : Int) (q7 : Int) (q8 : Int) (q9 : Int) (q10 : Bool) (q11 : Bool) (q12 : Bool) (q13 : Int) (q14 : Int) (q15 : Int) (q16 : Value) (g : Nat) (w : World) (hB : Blk w g 40 (yv [.string s0, .int .i64 s1, .int .i64 s2] (Value.int .i8) s3 [.int .i64 s4, .int .i64 s5, .int .i64 s6, .int .i64 s7, .int .i64 s8, .int .i64 s9, .bool s10, .bool s11, .bool s12, .int .i64 s13, .int .i64 s14, .int .i64 s15, s16])) (h : i_task_reader_step.f s0 s1 s2 s3 s4 s5 s6 s7 s8 s9 s10 s11 s12 s13 s14 s15 s16 a1_0 a1_1 a1_2 = some (r1, q0, q1, q2, q3, q4, q5, q6, q7, q8, q9, q10, q11, q12, q13, q14, q15, q16)) :
    Calls Try.prog 21 #[.pointer (some ⟨g, 0, none⟩), .agg #[.int .i64 a1_0, .int .i64 a1_1, .int .i64 a1_2]] w fun e w' => e = .returned (.int .i64 r1) ∧ q3.length = 64 ∧ Blk w' g 40 (yv [.string q0, .int .i64 q1, .int .i64 q2] (Value.int .i8) q3 [.int .i64 q4, .int .i64 q5, .int .i64 q6, .int .i64 q7, .int .i64 q8, .int .i64 q9, .bool q10, .bool q11, .bool q12, .int .i64 q13, .int .i64 q14, .int .i64 q15, q16]) ∧ Bex g w.heap.size w w' := by
 have LN_s3 := hid hls3
 clear hls3
 have BKr := hid hB
 clear hB
 have HL := hid (Bex.refl g w.heap.size w)
 have H : (some (a1_1, s0, a1_0, a1_2, s3, s4, s5, s6, s7, s8, s9, s10, s11, s12, s13, s14, s15, s16)) = some (r1, q0, q1, q2, q3, q4, q5, q6, q7, q8, q9, q10, q11, q12, q13, q14, q15, q16) := h
 clear h
 simp only [Option.some.injEq, Prod.mk.injEq] at H
 obtain ⟨rfl, rfl, rfl, rfl, rfl, rfl, rfl, rfl, rfl, rfl, rfl, rfl, rfl, rfl, rfl, rfl, rfl, rfl⟩ := H
 go_enter Try.func21, Try.ntmps21
 go_wp2_with (first
  | ((with_reducible refine gate_d (N := 3) rfl ?_); obtain ⟨gb1, hgb1⟩ : ∃ g_, w.heap.size = g_ := ⟨_, rfl⟩; refine ag_box #[.int .i64 a1_0, .int .i64 a1_1, .int .i64 a1_2] gb1 hgb1 rfl _ rfl rfl ?_; intro w2 hb_ hB_ hs_; have GEb1 : Hid (w.heap.size ≤ gb1) := hid (by have := HL.out.size; omega); have NBr_b1 : Hid (g ≠ gb1) := hid (by have := BKr.out.lt; omega); have NBb1_r : Hid (gb1 ≠ g) := hid (by have := NBr_b1.out; omega); replace BKr := hid (BKr.out.below hb_ (by rw [← hgb1]; exact BKr.out.lt)); replace HL := hid (HL.out.below hb_ (GEb1.out)); have BKb1 := hid hB_; clear hb_ hB_ hs_ hgb1))
 (try simp only [Act.put, sI, sZ, sS])
 have WR64 := i64_w
 have WR32 := i32_w
 have WR8 := u8_w
 have WRU := u32_w
 refine sq_region (fun w'_ => Bex g w.heap.size w w'_ ∧ Blk w'_ gb1 48 #[.int .i64 a1_0, .int .i64 a1_1, .int .i64 a1_2] ∧ True) [11] [(0, 2), (1, 2), (2, 2), (3, 1), (4, 2), (5, 1), (6, 2), (7, 2), (8, 0), (9, 2), (10, 2), (11, 0)] (by kernel_rfl) (by kernel_rfl) (by kernel_rfl) rfl ?_
 intro w3 hb_
 replace BKr := hid (BKr.out.below hb_ BKr.out.lt)
 replace BKb1 := hid (BKb1.out.below hb_ BKb1.out.lt)
 replace HL := hid (HL.out.below hb_ HL.out.size)
 clear hb_
 refine sq_pure (.pointer (some ⟨g, 0, none⟩)) rfl (fun w'_ => ex_mv (.tmp 0) (.inl rfl) _ rfl) rfl rfl ?_
 intro ts_ ht_; simp only [sI, sZ, sS] at ht_; subst ht_
 refine sq_pure (.pointer (some ⟨g, 0, none⟩)) rfl (fun w'_ => ex_mv (.tmp 0) (.inl rfl) _ rfl) rfl rfl ?_
 intro ts_ ht_; simp only [sI, sZ, sS] at ht_; subst ht_
 refine sq_pure (.pointer (some ⟨gb1, 0, none⟩)) rfl (fun w'_ => ex_field 48 0 (.pointer (some ⟨gb1, 0, none⟩)) (.pointer (some ⟨gb1, 0, none⟩)) (fa48_0_0 gb1) _ rfl rfl) rfl rfl ?_
 intro ts_ ht_; simp only [sI, sZ, sS] at ht_; subst ht_
 refine sq_take (.int .i64 a1_0) ⟨HL.out, BKb1.out, trivial⟩ rfl (fun w'_ hS_ => ex_get sT3 gb1 (0) (.int .i64 a1_0) (#[.int .i64 a1_0, .int .i64 a1_1, .int .i64 a1_2]) hS_.2.1 rfl _ rfl rfl) rfl rfl ?_
 intro ts_ ht_; simp only [sI, sZ, sS] at ht_; subst ht_
 refine sq_pure (.pointer (some ⟨gb1, 2, none⟩)) rfl (fun w'_ => ex_field 48 2 (.pointer (some ⟨gb1, 0, none⟩)) (.pointer (some ⟨gb1, 2, none⟩)) (fa48_2_0 gb1) _ rfl rfl) rfl rfl ?_
 intro ts_ ht_; simp only [sI, sZ, sS] at ht_; subst ht_
 refine sq_take (.int .i64 a1_2) ⟨HL.out, BKb1.out, trivial⟩ rfl (fun w'_ hS_ => ex_get sT32 gb1 (2) (.int .i64 a1_2) (#[.int .i64 a1_0, .int .i64 a1_1, .int .i64 a1_2]) hS_.2.1 rfl _ rfl rfl) rfl rfl ?_
 intro ts_ ht_; simp only [sI, sZ, sS] at ht_; subst ht_
 refine sq_pure (.pointer (some ⟨g, 0, none⟩)) rfl (fun w'_ => by go_simp <;> (unfold wrap64; omega)) rfl rfl ?_
 intro ts_ ht_; simp only [sI, sZ, sS] at ht_; subst ht_
 refine sq_pure (.pointer (some ⟨g, 1, none⟩)) rfl (fun w'_ => ex_field 40 1 (.pointer (some ⟨g, 0, none⟩)) (.pointer (some ⟨g, 1, none⟩)) (fa40_1_0 g) _ rfl rfl) rfl rfl ?_
 intro ts_ ht_; simp only [sI, sZ, sS] at ht_; subst ht_
 refine sq_act rfl (fun Q'_ hQ_ => ?_)
 (with_reducible refine gate_s (t := 3) (p := 12) rfl ?_)
 refine ag_set sT3 g (1) (.int .i64 a1_0) (yv [.string s0, .int .i64 s1, .int .i64 s2] (Value.int .i8) s3 [.int .i64 s4, .int .i64 s5, .int .i64 s6, .int .i64 s7, .int .i64 s8, .int .i64 s9, .bool s10, .bool s11, .bool s12, .int .i64 s13, .int .i64 s14, .int .i64 s15, s16]) (yv [.string s0, .int .i64 a1_0, .int .i64 s2] (Value.int .i8) s3 [.int .i64 s4, .int .i64 s5, .int .i64 s6, .int .i64 s7, .int .i64 s8, .int .i64 s9, .bool s10, .bool s11, .bool s12, .int .i64 s13, .int .i64 s14, .int .i64 s15, s16]) BKr.out (yv_lt (a := 3) (n := 64) (c := 13) rfl LN_s3.out rfl (m := 1) (by decide)) rfl rfl ((yv_setp (a := 3) rfl 1 (by decide) _).trans rfl) rfl _ _ rfl rfl rfl ?_
 intro w4 ho_ hB_
 replace BKb1 := hid (BKb1.out.off ho_ NBb1_r.out)
 replace HL := hid (HL.out.off ho_ (.inl rfl))
 replace BKr := hid hB_
 clear ho_ hB_
 refine act_end ?_
 refine hQ_ _ _ (fun _ => ⟨HL.out, BKb1.out, trivial⟩) ?_
 clear hQ_ Q'_
 simp only [Act.put]
 refine sq_pure (.pointer (some ⟨g, 0, none⟩)) rfl (fun w'_ => by go_simp <;> (unfold wrap64; omega)) rfl rfl ?_
 intro ts_ ht_; simp only [sI, sZ, sS] at ht_; subst ht_
 refine sq_pure (.pointer (some ⟨g, 2, none⟩)) rfl (fun w'_ => ex_field 40 2 (.pointer (some ⟨g, 0, none⟩)) (.pointer (some ⟨g, 2, none⟩)) (fa40_2_0 g) _ rfl rfl) rfl rfl ?_
 intro ts_ ht_; simp only [sI, sZ, sS] at ht_; subst ht_
 refine sq_act rfl (fun Q'_ hQ_ => ?_)
 (with_reducible refine gate_s (t := 32) (p := 14) rfl ?_)
 refine ag_set sT32 g (2) (.int .i64 a1_2) (yv [.string s0, .int .i64 a1_0, .int .i64 s2] (Value.int .i8) s3 [.int .i64 s4, .int .i64 s5, .int .i64 s6, .int .i64 s7, .int .i64 s8, .int .i64 s9, .bool s10, .bool s11, .bool s12, .int .i64 s13, .int .i64 s14, .int .i64 s15, s16]) (yv [.string s0, .int .i64 a1_0, .int .i64 a1_2] (Value.int .i8) s3 [.int .i64 s4, .int .i64 s5, .int .i64 s6, .int .i64 s7, .int .i64 s8, .int .i64 s9, .bool s10, .bool s11, .bool s12, .int .i64 s13, .int .i64 s14, .int .i64 s15, s16]) BKr.out (yv_lt (a := 3) (n := 64) (c := 13) rfl LN_s3.out rfl (m := 2) (by decide)) rfl rfl ((yv_setp (a := 3) rfl 2 (by decide) _).trans rfl) rfl _ _ rfl rfl rfl ?_
 intro w5 ho_ hB_
 replace BKb1 := hid (BKb1.out.off ho_ NBb1_r.out)
 replace HL := hid (HL.out.off ho_ (.inl rfl))
 replace BKr := hid hB_
 clear ho_ hB_
 refine act_end ?_
 refine hQ_ _ _ (fun h_ => absurd h_ (by decide)) ?_
 clear hQ_ Q'_
 simp only [Act.put]
 refine sq_end ?_
 clear WR64 WR32 WR8 WRU
 go_wp2_with (first
  | ((with_reducible refine gate_d (N := 15) rfl ?_); refine ag_fix (.pointer (some ⟨gb1, 1, none⟩)) (ex_field 48 1 (.pointer (some ⟨gb1, 0, none⟩)) (.pointer (some ⟨gb1, 1, none⟩)) (fa48_1_0 gb1) _ rfl rfl) rfl ?_)
  | ((with_reducible refine gate_d (N := 16) rfl ?_); refine ag_fix (.int .i64 a1_1) (ex_get sT3 gb1 (1) (.int .i64 a1_1) (#[.int .i64 a1_0, .int .i64 a1_1, .int .i64 a1_2]) BKb1.out rfl _ rfl rfl) rfl ?_))
 (try simp only [Act.put, sI, sZ, sS])
 go_ret
 exact ⟨by first | rfl | (simp; done) | (simp [*]; done), LN_s3.out, (by exact BKr.out), HL.out⟩
def i_task_reader_word.f (k : Nat) (s0 : ByteArray) (s1 : Int) (s2 : Int) (s3 : List Int) (s4 : Int) (s5 : Int) (s6 : Int) (s7 : Int) (s8 : Int) (s9 : Int) (s10 : Bool) (s11 : Bool) (s12 : Bool) (s13 : Int) (s14 : Int) (s15 : Int) (s16 : Value) (a1 : ByteArray) : Option (ByteArray × Int × Int × (List Int) × Int × Int × Int × Int × Int × Int × Bool × Bool × Bool × Int × Int × Int × Value) := if s2 = 0 then ((i_lex_Word.f k s0 s1 a1).bind fun bt1 => ((i_task_reader_step.f s0 s1 s2 s3 s4 s5 s6 s7 s8 s9 s10 s11 s12 s13 s14 s15 s16 bt1.1 bt1.2.1 bt1.2.2).bind fun bt4 => (some (bt4.2.1, bt4.2.2.1, bt4.2.2.2.1, bt4.2.2.2.2.1, bt4.2.2.2.2.2.1, bt4.2.2.2.2.2.2.1, bt4.2.2.2.2.2.2.2.1, bt4.2.2.2.2.2.2.2.2.1, bt4.2.2.2.2.2.2.2.2.2.1, bt4.2.2.2.2.2.2.2.2.2.2.1, bt4.2.2.2.2.2.2.2.2.2.2.2.1, bt4.2.2.2.2.2.2.2.2.2.2.2.2.1, bt4.2.2.2.2.2.2.2.2.2.2.2.2.2.1, bt4.2.2.2.2.2.2.2.2.2.2.2.2.2.2.1, bt4.2.2.2.2.2.2.2.2.2.2.2.2.2.2.2.1, bt4.2.2.2.2.2.2.2.2.2.2.2.2.2.2.2.2.1, bt4.2.2.2.2.2.2.2.2.2.2.2.2.2.2.2.2.2)))) else (some (s0, s1, s2, s3, s4, s5, s6, s7, s8, s9, s10, s11, s12, s13, s14, s15, s16))
set_option maxHeartbeats 40000000 in
set_option maxRecDepth 100000 in
theorem i_task_reader_word.calls (k : Nat) (s0 : ByteArray) (s1 : Int) (s2 : Int) (s3 : List Int) (s4 : Int) (s5 : Int) (s6 : Int) (s7 : Int) (s8 : Int) (s9 : Int) (s10 : Bool) (s11 : Bool) (s12 : Bool) (s13 : Int) (s14 : Int) (s15 : Int) (s16 : Value) (a1 : ByteArray) (hls3 : s3.length = 64) (q0 : ByteArray) (q1 : Int) (q2 : Int) (q3 : List Int) (q4 : Int) (q5 : Int) (q6 : Int) (q7 : Int) (q8 : Int) (q9 : Int) (q10 : Bool) (q11 : Bool) (q12 : Bool) (q13 : Int) (q14 : Int) (q15 : Int) (q16 : Value) (g : Nat) (w : World) (hB : Blk w g 40 (yv [.string s0, .int .i64 s1, .int .i64 s2] (Value.int .i8) s3 [.int .i64 s4, .int .i64 s5, .int .i64 s6, .int .i64 s7, .int .i64 s8, .int .i64 s9, .bool s10, .bool s11, .bool s12, .int .i64 s13, .int .i64 s14, .int .i64 s15, s16])) (h : i_task_reader_word.f k s0 s1 s2 s3 s4 s5 s6 s7 s8 s9 s10 s11 s12 s13 s14 s15 s16 a1 = some (q0, q1, q2, q3, q4, q5, q6, q7, q8, q9, q10, q11, q12, q13, q14, q15, q16)) :
    Calls Try.prog 16 #[.pointer (some ⟨g, 0, none⟩), .string a1] w fun e w' => e = .returned (.tuple #[]) ∧ q3.length = 64 ∧ Blk w' g 40 (yv [.string q0, .int .i64 q1, .int .i64 q2] (Value.int .i8) q3 [.int .i64 q4, .int .i64 q5, .int .i64 q6, .int .i64 q7, .int .i64 q8, .int .i64 q9, .bool q10, .bool q11, .bool q12, .int .i64 q13, .int .i64 q14, .int .i64 q15, q16]) ∧ Bex g w.heap.size w w' := by
 have LN_s3 := hid hls3
 clear hls3
 have BKr := hid hB
 clear hB
 have HL := hid (Bex.refl g w.heap.size w)
 have H : (if s2 = 0 then ((i_lex_Word.f k s0 s1 a1).bind fun bt1 => ((i_task_reader_step.f s0 s1 s2 s3 s4 s5 s6 s7 s8 s9 s10 s11 s12 s13 s14 s15 s16 bt1.1 bt1.2.1 bt1.2.2).bind fun bt4 => (some (bt4.2.1, bt4.2.2.1, bt4.2.2.2.1, bt4.2.2.2.2.1, bt4.2.2.2.2.2.1, bt4.2.2.2.2.2.2.1, bt4.2.2.2.2.2.2.2.1, bt4.2.2.2.2.2.2.2.2.1, bt4.2.2.2.2.2.2.2.2.2.1, bt4.2.2.2.2.2.2.2.2.2.2.1, bt4.2.2.2.2.2.2.2.2.2.2.2.1, bt4.2.2.2.2.2.2.2.2.2.2.2.2.1, bt4.2.2.2.2.2.2.2.2.2.2.2.2.2.1, bt4.2.2.2.2.2.2.2.2.2.2.2.2.2.2.1, bt4.2.2.2.2.2.2.2.2.2.2.2.2.2.2.2.1, bt4.2.2.2.2.2.2.2.2.2.2.2.2.2.2.2.2.1, bt4.2.2.2.2.2.2.2.2.2.2.2.2.2.2.2.2.2)))) else (some (s0, s1, s2, s3, s4, s5, s6, s7, s8, s9, s10, s11, s12, s13, s14, s15, s16))) = some (q0, q1, q2, q3, q4, q5, q6, q7, q8, q9, q10, q11, q12, q13, q14, q15, q16) := h
 clear h
 by_cases c22 : s2 = 0
 ·
  rw [if_pos c22] at H
  have c22b0 : (s2 == 0) = true := beq_iff_eq.mpr c22
  have c22b1 : (s2 != 0) = false := bne_eq_false_iff_eq.mpr c22
  have hc22 := hid c22
  clear c22
  replace H := Option.bind_eq_some_iff.mp H
  obtain ⟨⟨t1, t2, t3⟩, A23_, H⟩ := H
  dsimp only at H
  have A23 := hid A23_
  clear A23_
  replace H := Option.bind_eq_some_iff.mp H
  obtain ⟨⟨t4, t5, t6, t7, t8, t9, t10, t11, t12, t13, t14, t15, t16, t17, t18, t19, t20, t21⟩, A24_, H⟩ := H
  dsimp only at H
  have A24 := hid A24_
  clear A24_
  simp only [Option.some.injEq, Prod.mk.injEq] at H
  obtain ⟨rfl, rfl, rfl, rfl, rfl, rfl, rfl, rfl, rfl, rfl, rfl, rfl, rfl, rfl, rfl, rfl, rfl⟩ := H
  go_enter Try.func16, Try.ntmps16
  go_wp2_with (first
   | ((with_reducible refine gate_d (N := 6) rfl ?_); refine ag_fix (.pointer (some ⟨g, 2, none⟩)) (ex_field 40 2 (.pointer (some ⟨g, 0, none⟩)) (.pointer (some ⟨g, 2, none⟩)) (fa40_2_0 g) _ rfl rfl) rfl ?_)
   | ((with_reducible refine gate_d (N := 7) rfl ?_); refine ag_fix (.int .i64 s2) (ex_get sT32 g (2) (.int .i64 s2) ((yv [.string s0, .int .i64 s1, .int .i64 s2] (Value.int .i8) s3 [.int .i64 s4, .int .i64 s5, .int .i64 s6, .int .i64 s7, .int .i64 s8, .int .i64 s9, .bool s10, .bool s11, .bool s12, .int .i64 s13, .int .i64 s14, .int .i64 s15, s16])) BKr.out ((yv_pre (a := 3) rfl 2 (by decide)).trans rfl) _ rfl rfl) rfl ?_))
  (try simp only [Act.put, sI, sZ, sS])
  have WR64 := i64_w
  have WR32 := i32_w
  have WR8 := u8_w
  have WRU := u32_w
  refine sq_region (fun w'_ => Bex g w.heap.size w w'_ ∧ Blk w'_ g 40 (yv [.string s0, .int .i64 s1, .int .i64 s2] (Value.int .i8) s3 [.int .i64 s4, .int .i64 s5, .int .i64 s6, .int .i64 s7, .int .i64 s8, .int .i64 s9, .bool s10, .bool s11, .bool s12, .int .i64 s13, .int .i64 s14, .int .i64 s15, s16]) ∧ True) [10, 11] [(0, 2), (1, 2), (2, 2), (3, 2), (4, 1), (5, 2), (6, 2), (7, 2), (8, 1), (9, 2), (10, 0), (11, 0)] (by kernel_rfl) (by kernel_rfl) (by kernel_rfl) rfl ?_
  intro w25 hb_
  replace BKr := hid (BKr.out.below hb_ BKr.out.lt)
  replace HL := hid (HL.out.below hb_ HL.out.size)
  clear hb_
  refine sq_pure (.pointer (some ⟨g, 0, none⟩)) rfl (fun w'_ => ex_mv (.tmp 0) (.inl rfl) _ rfl) rfl rfl ?_
  intro ts_ ht_; simp only [sI, sZ, sS] at ht_; subst ht_
  refine sq_pure (.pointer (some ⟨g, 0, none⟩)) rfl (fun w'_ => ex_mv (.tmp 0) (.inl rfl) _ rfl) rfl rfl ?_
  intro ts_ ht_; simp only [sI, sZ, sS] at ht_; subst ht_
  refine sq_pure (.pointer (some ⟨g, 0, none⟩)) rfl (fun w'_ => by go_simp <;> (unfold wrap64; omega)) rfl rfl ?_
  intro ts_ ht_; simp only [sI, sZ, sS] at ht_; subst ht_
  refine sq_pure (.pointer (some ⟨g, 0, none⟩)) rfl (fun w'_ => ex_field 40 0 (.pointer (some ⟨g, 0, none⟩)) (.pointer (some ⟨g, 0, none⟩)) (fa40_0_0 g) _ rfl rfl) rfl rfl ?_
  intro ts_ ht_; simp only [sI, sZ, sS] at ht_; subst ht_
  refine sq_take (.string s0) ⟨HL.out, BKr.out, trivial⟩ rfl (fun w'_ hS_ => ex_get sT9 g (0) (.string s0) ((yv [.string s0, .int .i64 s1, .int .i64 s2] (Value.int .i8) s3 [.int .i64 s4, .int .i64 s5, .int .i64 s6, .int .i64 s7, .int .i64 s8, .int .i64 s9, .bool s10, .bool s11, .bool s12, .int .i64 s13, .int .i64 s14, .int .i64 s15, s16])) hS_.2.1 ((yv_pre (a := 3) rfl 0 (by decide)).trans rfl) _ rfl rfl) rfl rfl ?_
  intro ts_ ht_; simp only [sI, sZ, sS] at ht_; subst ht_
  refine sq_pure (.pointer (some ⟨g, 0, none⟩)) rfl (fun w'_ => ex_mv (.tmp 0) (.inl rfl) _ rfl) rfl rfl ?_
  intro ts_ ht_; simp only [sI, sZ, sS] at ht_; subst ht_
  refine sq_pure (.pointer (some ⟨g, 0, none⟩)) rfl (fun w'_ => by go_simp <;> (unfold wrap64; omega)) rfl rfl ?_
  intro ts_ ht_; simp only [sI, sZ, sS] at ht_; subst ht_
  refine sq_pure (.pointer (some ⟨g, 1, none⟩)) rfl (fun w'_ => ex_field 40 1 (.pointer (some ⟨g, 0, none⟩)) (.pointer (some ⟨g, 1, none⟩)) (fa40_1_0 g) _ rfl rfl) rfl rfl ?_
  intro ts_ ht_; simp only [sI, sZ, sS] at ht_; subst ht_
  refine sq_take (.int .i64 s1) ⟨HL.out, BKr.out, trivial⟩ rfl (fun w'_ hS_ => ex_get sT3 g (1) (.int .i64 s1) ((yv [.string s0, .int .i64 s1, .int .i64 s2] (Value.int .i8) s3 [.int .i64 s4, .int .i64 s5, .int .i64 s6, .int .i64 s7, .int .i64 s8, .int .i64 s9, .bool s10, .bool s11, .bool s12, .int .i64 s13, .int .i64 s14, .int .i64 s15, s16])) hS_.2.1 ((yv_pre (a := 3) rfl 1 (by decide)).trans rfl) _ rfl rfl) rfl rfl ?_
  intro ts_ ht_; simp only [sI, sZ, sS] at ht_; subst ht_
  refine sq_pure (.string a1) rfl (fun w'_ => ex_mv (.tmp 1) (.inl rfl) _ rfl) rfl rfl ?_
  intro ts_ ht_; simp only [sI, sZ, sS] at ht_; subst ht_
  refine sq_act rfl (fun Q'_ hQ_ => ?_)
  refine wl_call 31 #[.string s0, .int .i64 s1, .string a1] (by go_simp) rfl ((i_lex_Word.calls k s0 s1 a1 t1 t2 t3 _ A23.out).mono ?_)
  rintro e_ w27 ⟨rfl, hb_⟩
  replace BKr := hid (BKr.out.below hb_ BKr.out.lt)
  replace HL := hid (HL.out.below hb_ HL.out.size)
  clear hb_
  refine ⟨_, rfl, ?_⟩
  refine hQ_ _ _ (fun h_ => absurd h_ (by decide)) ?_
  clear hQ_ Q'_
  simp only [Act.put, sI, sZ, sS]
  refine sq_act rfl (fun Q'_ hQ_ => ?_)
  refine wl_call 21 #[.pointer (some ⟨g, 0, none⟩), .agg #[.int .i64 t1, .int .i64 t2, .int .i64 t3]] (by go_simp) rfl ((i_task_reader_step.calls s0 s1 s2 s3 s4 s5 s6 s7 s8 s9 s10 s11 s12 s13 s14 s15 s16 t1 t2 t3 LN_s3.out t4 t5 t6 t7 t8 t9 t10 t11 t12 t13 t14 t15 t16 t17 t18 t19 t20 t21 g _ BKr.out A24.out).mono ?_)
  rintro e_ w29 ⟨rfl, ln_t8, hB_, hx_⟩
  have LN_t8 := hid ln_t8
  clear ln_t8
  replace HL := hid (HL.out.bex hx_ HL.out.size (.inl rfl))
  replace BKr := hid hB_
  clear hx_ hB_
  refine ⟨_, rfl, ?_⟩
  refine hQ_ _ _ (fun h_ => absurd h_ (by decide)) ?_
  clear hQ_ Q'_
  simp only [Act.put, sI, sZ, sS]
  refine sq_end ?_
  clear WR64 WR32 WR8 WRU
  go_wp2_with fail
  (try simp only [Act.put, sI, sZ, sS])
  (first | go_end0 | refine bodyPost_ret (results_none rfl _ _ _) rfl ?_)
  exact ⟨by first | rfl | (simp; done), LN_t8.out, (by exact BKr.out), HL.out⟩
 ·
  rw [if_neg c22] at H
  have c22b0 : (s2 == 0) = false := beq_eq_false_iff_ne.mpr c22
  have c22b1 : (s2 != 0) = true := bne_iff_ne.mpr c22
  have hc22 := hid c22
  clear c22
  simp only [Option.some.injEq, Prod.mk.injEq] at H
  obtain ⟨rfl, rfl, rfl, rfl, rfl, rfl, rfl, rfl, rfl, rfl, rfl, rfl, rfl, rfl, rfl, rfl, rfl⟩ := H
  go_enter Try.func16, Try.ntmps16
  go_wp2_with (first
   | ((with_reducible refine gate_d (N := 6) rfl ?_); refine ag_fix (.pointer (some ⟨g, 2, none⟩)) (ex_field 40 2 (.pointer (some ⟨g, 0, none⟩)) (.pointer (some ⟨g, 2, none⟩)) (fa40_2_0 g) _ rfl rfl) rfl ?_)
   | ((with_reducible refine gate_d (N := 7) rfl ?_); refine ag_fix (.int .i64 s2) (ex_get sT32 g (2) (.int .i64 s2) ((yv [.string s0, .int .i64 s1, .int .i64 s2] (Value.int .i8) s3 [.int .i64 s4, .int .i64 s5, .int .i64 s6, .int .i64 s7, .int .i64 s8, .int .i64 s9, .bool s10, .bool s11, .bool s12, .int .i64 s13, .int .i64 s14, .int .i64 s15, s16])) BKr.out ((yv_pre (a := 3) rfl 2 (by decide)).trans rfl) _ rfl rfl) rfl ?_))
  (try simp only [Act.put, sI, sZ, sS])
  (first | go_end0 | refine bodyPost_ret (results_none rfl _ _ _) rfl ?_)
  exact ⟨by first | rfl | (simp; done), LN_s3.out, (by exact BKr.out), HL.out⟩
def i_task_reader_oneOf.f (k : Nat) (s0 : ByteArray) (s1 : Int) (s2 : Int) (s3 : List Int) (s4 : Int) (s5 : Int) (s6 : Int) (s7 : Int) (s8 : Int) (s9 : Int) (s10 : Bool) (s11 : Bool) (s12 : Bool) (s13 : Int) (s14 : Int) (s15 : Int) (s16 : Value) (a1 : List ByteArray) : Option (Int × ByteArray × Int × Int × (List Int) × Int × Int × Int × Int × Int × Int × Bool × Bool × Bool × Int × Int × Int × Value) := if s2 = 0 then ((i_lex_OneOf.f k s0 s1 a1).bind fun bt1 => ((i_task_reader_step.f s0 s1 s2 s3 s4 s5 s6 s7 s8 s9 s10 s11 s12 s13 s14 s15 s16 bt1.1 bt1.2.1 bt1.2.2).bind fun bt4 => (some (bt4.1, bt4.2.1, bt4.2.2.1, bt4.2.2.2.1, bt4.2.2.2.2.1, bt4.2.2.2.2.2.1, bt4.2.2.2.2.2.2.1, bt4.2.2.2.2.2.2.2.1, bt4.2.2.2.2.2.2.2.2.1, bt4.2.2.2.2.2.2.2.2.2.1, bt4.2.2.2.2.2.2.2.2.2.2.1, bt4.2.2.2.2.2.2.2.2.2.2.2.1, bt4.2.2.2.2.2.2.2.2.2.2.2.2.1, bt4.2.2.2.2.2.2.2.2.2.2.2.2.2.1, bt4.2.2.2.2.2.2.2.2.2.2.2.2.2.2.1, bt4.2.2.2.2.2.2.2.2.2.2.2.2.2.2.2.1, bt4.2.2.2.2.2.2.2.2.2.2.2.2.2.2.2.2.1, bt4.2.2.2.2.2.2.2.2.2.2.2.2.2.2.2.2.2)))) else (some ((-1), s0, s1, s2, s3, s4, s5, s6, s7, s8, s9, s10, s11, s12, s13, s14, s15, s16))
set_option maxHeartbeats 40000000 in
set_option maxRecDepth 100000 in
theorem i_task_reader_oneOf.calls (k : Nat) (s0 : ByteArray) (s1 : Int) (s2 : Int) (s3 : List Int) (s4 : Int) (s5 : Int) (s6 : Int) (s7 : Int) (s8 : Int) (s9 : Int) (s10 : Bool) (s11 : Bool) (s12 : Bool) (s13 : Int) (s14 : Int) (s15 : Int) (s16 : Value) (v1_ : Value) (a1 : List ByteArray) (hls3 : s3.length = 64) (r1 : Int) (q0 : ByteArray) (q1 : Int) (q2 : Int) (q3 : List Int) (q4 : Int) (q5 : Int) (q6 : Int) (q7 : Int) (q8 : Int) (q9 : Int) (q10 : Bool) (q11 : Bool) (q12 : Bool) (q13 : Int) (q14 : Int) (q15 : Int) (q16 : Value) (g : Nat) (w : World) (hB : Blk w g 40 (yv [.string s0, .int .i64 s1, .int .i64 s2] (Value.int .i8) s3 [.int .i64 s4, .int .i64 s5, .int .i64 s6, .int .i64 s7, .int .i64 s8, .int .i64 s9, .bool s10, .bool s11, .bool s12, .int .i64 s13, .int .i64 s14, .int .i64 s15, s16])) (hs1 : SlT w 9 v1_ (a1.map Value.string)) (h : i_task_reader_oneOf.f k s0 s1 s2 s3 s4 s5 s6 s7 s8 s9 s10 s11 s12 s13 s14 s15 s16 a1 = some (r1, q0, q1, q2, q3, q4, q5, q6, q7, q8, q9, q10, q11, q12, q13, q14, q15, q16)) :
    Calls Try.prog 14 #[.pointer (some ⟨g, 0, none⟩), v1_] w fun e w' => e = .returned (.int .i64 r1) ∧ q3.length = 64 ∧ Blk w' g 40 (yv [.string q0, .int .i64 q1, .int .i64 q2] (Value.int .i8) q3 [.int .i64 q4, .int .i64 q5, .int .i64 q6, .int .i64 q7, .int .i64 q8, .int .i64 q9, .bool q10, .bool q11, .bool q12, .int .i64 q13, .int .i64 q14, .int .i64 q15, q16]) ∧ Bex g w.heap.size w w' := by
 have LN_s3 := hid hls3
 clear hls3
 have BKr := hid hB
 clear hB
 have HL := hid (Bex.refl g w.heap.size w)
 have BK0 := BKr
 have SP1 := hid hs1
 clear hs1
 have H : (if s2 = 0 then ((i_lex_OneOf.f k s0 s1 a1).bind fun bt1 => ((i_task_reader_step.f s0 s1 s2 s3 s4 s5 s6 s7 s8 s9 s10 s11 s12 s13 s14 s15 s16 bt1.1 bt1.2.1 bt1.2.2).bind fun bt4 => (some (bt4.1, bt4.2.1, bt4.2.2.1, bt4.2.2.2.1, bt4.2.2.2.2.1, bt4.2.2.2.2.2.1, bt4.2.2.2.2.2.2.1, bt4.2.2.2.2.2.2.2.1, bt4.2.2.2.2.2.2.2.2.1, bt4.2.2.2.2.2.2.2.2.2.1, bt4.2.2.2.2.2.2.2.2.2.2.1, bt4.2.2.2.2.2.2.2.2.2.2.2.1, bt4.2.2.2.2.2.2.2.2.2.2.2.2.1, bt4.2.2.2.2.2.2.2.2.2.2.2.2.2.1, bt4.2.2.2.2.2.2.2.2.2.2.2.2.2.2.1, bt4.2.2.2.2.2.2.2.2.2.2.2.2.2.2.2.1, bt4.2.2.2.2.2.2.2.2.2.2.2.2.2.2.2.2.1, bt4.2.2.2.2.2.2.2.2.2.2.2.2.2.2.2.2.2)))) else (some ((-1), s0, s1, s2, s3, s4, s5, s6, s7, s8, s9, s10, s11, s12, s13, s14, s15, s16))) = some (r1, q0, q1, q2, q3, q4, q5, q6, q7, q8, q9, q10, q11, q12, q13, q14, q15, q16) := h
 clear h
 by_cases c22 : s2 = 0
 ·
  rw [if_pos c22] at H
  have c22b0 : (s2 == 0) = true := beq_iff_eq.mpr c22
  have c22b1 : (s2 != 0) = false := bne_eq_false_iff_eq.mpr c22
  have hc22 := hid c22
  clear c22
  replace H := Option.bind_eq_some_iff.mp H
  obtain ⟨⟨t1, t2, t3⟩, A23_, H⟩ := H
  dsimp only at H
  have A23 := hid A23_
  clear A23_
  replace H := Option.bind_eq_some_iff.mp H
  obtain ⟨⟨t4, t5, t6, t7, t8, t9, t10, t11, t12, t13, t14, t15, t16, t17, t18, t19, t20, t21⟩, A24_, H⟩ := H
  dsimp only at H
  have A24 := hid A24_
  clear A24_
  simp only [Option.some.injEq, Prod.mk.injEq] at H
  obtain ⟨rfl, rfl, rfl, rfl, rfl, rfl, rfl, rfl, rfl, rfl, rfl, rfl, rfl, rfl, rfl, rfl, rfl, rfl⟩ := H
  go_enter Try.func14, Try.ntmps14
  go_wp2_with (first
   | ((with_reducible refine gate_d (N := 7) rfl ?_); refine ag_fix (.pointer (some ⟨g, 2, none⟩)) (ex_field 40 2 (.pointer (some ⟨g, 0, none⟩)) (.pointer (some ⟨g, 2, none⟩)) (fa40_2_0 g) _ rfl rfl) rfl ?_)
   | ((with_reducible refine gate_d (N := 8) rfl ?_); refine ag_fix (.int .i64 s2) (ex_get sT32 g (2) (.int .i64 s2) ((yv [.string s0, .int .i64 s1, .int .i64 s2] (Value.int .i8) s3 [.int .i64 s4, .int .i64 s5, .int .i64 s6, .int .i64 s7, .int .i64 s8, .int .i64 s9, .bool s10, .bool s11, .bool s12, .int .i64 s13, .int .i64 s14, .int .i64 s15, s16])) BKr.out ((yv_pre (a := 3) rfl 2 (by decide)).trans rfl) _ rfl rfl) rfl ?_))
  (try simp only [Act.put, sI, sZ, sS])
  have WR64 := i64_w
  have WR32 := i32_w
  have WR8 := u8_w
  have WRU := u32_w
  refine sq_region (fun w'_ => Bex g w.heap.size w w'_ ∧ Blk w'_ g 40 (yv [.string s0, .int .i64 s1, .int .i64 s2] (Value.int .i8) s3 [.int .i64 s4, .int .i64 s5, .int .i64 s6, .int .i64 s7, .int .i64 s8, .int .i64 s9, .bool s10, .bool s11, .bool s12, .int .i64 s13, .int .i64 s14, .int .i64 s15, s16]) ∧ True) [10, 11] [(0, 2), (1, 2), (2, 2), (3, 2), (4, 1), (5, 2), (6, 2), (7, 2), (8, 1), (9, 2), (10, 0), (11, 0), (12, 2)] (by kernel_rfl) (by kernel_rfl) (by kernel_rfl) rfl ?_
  intro w25 hb_
  replace BKr := hid (BKr.out.below hb_ BKr.out.lt)
  replace HL := hid (HL.out.below hb_ HL.out.size)
  clear hb_
  refine sq_pure (.pointer (some ⟨g, 0, none⟩)) rfl (fun w'_ => ex_mv (.tmp 0) (.inl rfl) _ rfl) rfl rfl ?_
  intro ts_ ht_; simp only [sI, sZ, sS] at ht_; subst ht_
  refine sq_pure (.pointer (some ⟨g, 0, none⟩)) rfl (fun w'_ => ex_mv (.tmp 0) (.inl rfl) _ rfl) rfl rfl ?_
  intro ts_ ht_; simp only [sI, sZ, sS] at ht_; subst ht_
  refine sq_pure (.pointer (some ⟨g, 0, none⟩)) rfl (fun w'_ => by go_simp <;> (unfold wrap64; omega)) rfl rfl ?_
  intro ts_ ht_; simp only [sI, sZ, sS] at ht_; subst ht_
  refine sq_pure (.pointer (some ⟨g, 0, none⟩)) rfl (fun w'_ => ex_field 40 0 (.pointer (some ⟨g, 0, none⟩)) (.pointer (some ⟨g, 0, none⟩)) (fa40_0_0 g) _ rfl rfl) rfl rfl ?_
  intro ts_ ht_; simp only [sI, sZ, sS] at ht_; subst ht_
  refine sq_take (.string s0) ⟨HL.out, BKr.out, trivial⟩ rfl (fun w'_ hS_ => ex_get sT9 g (0) (.string s0) ((yv [.string s0, .int .i64 s1, .int .i64 s2] (Value.int .i8) s3 [.int .i64 s4, .int .i64 s5, .int .i64 s6, .int .i64 s7, .int .i64 s8, .int .i64 s9, .bool s10, .bool s11, .bool s12, .int .i64 s13, .int .i64 s14, .int .i64 s15, s16])) hS_.2.1 ((yv_pre (a := 3) rfl 0 (by decide)).trans rfl) _ rfl rfl) rfl rfl ?_
  intro ts_ ht_; simp only [sI, sZ, sS] at ht_; subst ht_
  refine sq_pure (.pointer (some ⟨g, 0, none⟩)) rfl (fun w'_ => ex_mv (.tmp 0) (.inl rfl) _ rfl) rfl rfl ?_
  intro ts_ ht_; simp only [sI, sZ, sS] at ht_; subst ht_
  refine sq_pure (.pointer (some ⟨g, 0, none⟩)) rfl (fun w'_ => by go_simp <;> (unfold wrap64; omega)) rfl rfl ?_
  intro ts_ ht_; simp only [sI, sZ, sS] at ht_; subst ht_
  refine sq_pure (.pointer (some ⟨g, 1, none⟩)) rfl (fun w'_ => ex_field 40 1 (.pointer (some ⟨g, 0, none⟩)) (.pointer (some ⟨g, 1, none⟩)) (fa40_1_0 g) _ rfl rfl) rfl rfl ?_
  intro ts_ ht_; simp only [sI, sZ, sS] at ht_; subst ht_
  refine sq_take (.int .i64 s1) ⟨HL.out, BKr.out, trivial⟩ rfl (fun w'_ hS_ => ex_get sT3 g (1) (.int .i64 s1) ((yv [.string s0, .int .i64 s1, .int .i64 s2] (Value.int .i8) s3 [.int .i64 s4, .int .i64 s5, .int .i64 s6, .int .i64 s7, .int .i64 s8, .int .i64 s9, .bool s10, .bool s11, .bool s12, .int .i64 s13, .int .i64 s14, .int .i64 s15, s16])) hS_.2.1 ((yv_pre (a := 3) rfl 1 (by decide)).trans rfl) _ rfl rfl) rfl rfl ?_
  intro ts_ ht_; simp only [sI, sZ, sS] at ht_; subst ht_
  refine sq_pure (v1_) rfl (fun w'_ => ex_mv (.tmp 1) (.inl rfl) _ rfl) rfl rfl ?_
  intro ts_ ht_; simp only [sI, sZ, sS] at ht_; subst ht_
  refine sq_act rfl (fun Q'_ hQ_ => ?_)
  refine wl_call 30 #[.string s0, .int .i64 s1, v1_] (by go_simp) rfl ((i_lex_OneOf.calls k s0 s1 (v1_) a1 t1 t2 t3 _ (SP1.out.bex HL.out (Nat.le_refl _) BK0.out (by decide)).sl A23.out).mono ?_)
  rintro e_ w27 ⟨rfl, hb_⟩
  replace BKr := hid (BKr.out.below hb_ BKr.out.lt)
  replace HL := hid (HL.out.below hb_ HL.out.size)
  clear hb_
  refine ⟨_, rfl, ?_⟩
  refine hQ_ _ _ (fun h_ => absurd h_ (by decide)) ?_
  clear hQ_ Q'_
  simp only [Act.put, sI, sZ, sS]
  refine sq_act rfl (fun Q'_ hQ_ => ?_)
  refine wl_call 21 #[.pointer (some ⟨g, 0, none⟩), .agg #[.int .i64 t1, .int .i64 t2, .int .i64 t3]] (by go_simp) rfl ((i_task_reader_step.calls s0 s1 s2 s3 s4 s5 s6 s7 s8 s9 s10 s11 s12 s13 s14 s15 s16 t1 t2 t3 LN_s3.out t4 t5 t6 t7 t8 t9 t10 t11 t12 t13 t14 t15 t16 t17 t18 t19 t20 t21 g _ BKr.out A24.out).mono ?_)
  rintro e_ w29 ⟨rfl, ln_t8, hB_, hx_⟩
  have LN_t8 := hid ln_t8
  clear ln_t8
  replace HL := hid (HL.out.bex hx_ HL.out.size (.inl rfl))
  replace BKr := hid hB_
  clear hx_ hB_
  refine ⟨_, rfl, ?_⟩
  refine hQ_ _ _ (fun h_ => absurd h_ (by decide)) ?_
  clear hQ_ Q'_
  simp only [Act.put, sI, sZ, sS]
  refine sq_pure (.int .i64 t4) rfl (fun w'_ => ex_mv (.tmp 21) (.inr rfl) _ rfl) rfl rfl ?_
  intro ts_ ht_; simp only [sI, sZ, sS] at ht_; subst ht_
  refine sq_end ?_
  clear WR64 WR32 WR8 WRU
  go_wp2_with fail
  (try simp only [Act.put, sI, sZ, sS])
  go_ret
  exact ⟨by first | rfl | (simp; done) | (simp [*]; done), LN_t8.out, (by exact BKr.out), HL.out⟩
 ·
  rw [if_neg c22] at H
  have c22b0 : (s2 == 0) = false := beq_eq_false_iff_ne.mpr c22
  have c22b1 : (s2 != 0) = true := bne_iff_ne.mpr c22
  have hc22 := hid c22
  clear c22
  simp only [Option.some.injEq, Prod.mk.injEq] at H
  obtain ⟨rfl, rfl, rfl, rfl, rfl, rfl, rfl, rfl, rfl, rfl, rfl, rfl, rfl, rfl, rfl, rfl, rfl, rfl⟩ := H
  go_enter Try.func14, Try.ntmps14
  go_wp2_with (first
   | ((with_reducible refine gate_d (N := 7) rfl ?_); refine ag_fix (.pointer (some ⟨g, 2, none⟩)) (ex_field 40 2 (.pointer (some ⟨g, 0, none⟩)) (.pointer (some ⟨g, 2, none⟩)) (fa40_2_0 g) _ rfl rfl) rfl ?_)
   | ((with_reducible refine gate_d (N := 8) rfl ?_); refine ag_fix (.int .i64 s2) (ex_get sT32 g (2) (.int .i64 s2) ((yv [.string s0, .int .i64 s1, .int .i64 s2] (Value.int .i8) s3 [.int .i64 s4, .int .i64 s5, .int .i64 s6, .int .i64 s7, .int .i64 s8, .int .i64 s9, .bool s10, .bool s11, .bool s12, .int .i64 s13, .int .i64 s14, .int .i64 s15, s16])) BKr.out ((yv_pre (a := 3) rfl 2 (by decide)).trans rfl) _ rfl rfl) rfl ?_))
  (try simp only [Act.put, sI, sZ, sS])
  go_ret
  exact ⟨by first | rfl | (simp; done) | (simp [*]; done), LN_s3.out, (by exact BKr.out), HL.out⟩
def i_task_reader_number.f (k : Nat) (s0 : ByteArray) (s1 : Int) (s2 : Int) (s3 : List Int) (s4 : Int) (s5 : Int) (s6 : Int) (s7 : Int) (s8 : Int) (s9 : Int) (s10 : Bool) (s11 : Bool) (s12 : Bool) (s13 : Int) (s14 : Int) (s15 : Int) (s16 : Value) (a1 : Int) (a2 : Int) : Option (Int × ByteArray × Int × Int × (List Int) × Int × Int × Int × Int × Int × Int × Bool × Bool × Bool × Int × Int × Int × Value) := if s2 = 0 then ((i_lex_Number.f k s0 s1 a1 a2).bind fun bt1 => ((i_task_reader_step.f s0 s1 s2 s3 s4 s5 s6 s7 s8 s9 s10 s11 s12 s13 s14 s15 s16 bt1.1 bt1.2.1 bt1.2.2).bind fun bt4 => (some (bt4.1, bt4.2.1, bt4.2.2.1, bt4.2.2.2.1, bt4.2.2.2.2.1, bt4.2.2.2.2.2.1, bt4.2.2.2.2.2.2.1, bt4.2.2.2.2.2.2.2.1, bt4.2.2.2.2.2.2.2.2.1, bt4.2.2.2.2.2.2.2.2.2.1, bt4.2.2.2.2.2.2.2.2.2.2.1, bt4.2.2.2.2.2.2.2.2.2.2.2.1, bt4.2.2.2.2.2.2.2.2.2.2.2.2.1, bt4.2.2.2.2.2.2.2.2.2.2.2.2.2.1, bt4.2.2.2.2.2.2.2.2.2.2.2.2.2.2.1, bt4.2.2.2.2.2.2.2.2.2.2.2.2.2.2.2.1, bt4.2.2.2.2.2.2.2.2.2.2.2.2.2.2.2.2.1, bt4.2.2.2.2.2.2.2.2.2.2.2.2.2.2.2.2.2)))) else (some (0, s0, s1, s2, s3, s4, s5, s6, s7, s8, s9, s10, s11, s12, s13, s14, s15, s16))
set_option maxHeartbeats 40000000 in
set_option maxRecDepth 100000 in
theorem i_task_reader_number.calls (k : Nat) (s0 : ByteArray) (s1 : Int) (s2 : Int) (s3 : List Int) (s4 : Int) (s5 : Int) (s6 : Int) (s7 : Int) (s8 : Int) (s9 : Int) (s10 : Bool) (s11 : Bool) (s12 : Bool) (s13 : Int) (s14 : Int) (s15 : Int) (s16 : Value) (a1 : Int) (a2 : Int) (hls3 : s3.length = 64) (r1 : Int) (q0 : ByteArray) (q1 : Int) (q2 : Int) (q3 : List Int) (q4 : Int) (q5 : Int) (q6 : Int) (q7 : Int) (q8 : Int) (q9 : Int) (q10 : Bool) (q11 : Bool) (q12 : Bool) (q13 : Int) (q14 : Int) (q15 : Int) (q16 : Value) (g : Nat) (w : World) (hB : Blk w g 40 (yv [.string s0, .int .i64 s1, .int .i64 s2] (Value.int .i8) s3 [.int .i64 s4, .int .i64 s5, .int .i64 s6, .int .i64 s7, .int .i64 s8, .int .i64 s9, .bool s10, .bool s11, .bool s12, .int .i64 s13, .int .i64 s14, .int .i64 s15, s16])) (h : i_task_reader_number.f k s0 s1 s2 s3 s4 s5 s6 s7 s8 s9 s10 s11 s12 s13 s14 s15 s16 a1 a2 = some (r1, q0, q1, q2, q3, q4, q5, q6, q7, q8, q9, q10, q11, q12, q13, q14, q15, q16)) :
    Calls Try.prog 17 #[.pointer (some ⟨g, 0, none⟩), .int .i64 a1, .int .i64 a2] w fun e w' => e = .returned (.int .i64 r1) ∧ q3.length = 64 ∧ Blk w' g 40 (yv [.string q0, .int .i64 q1, .int .i64 q2] (Value.int .i8) q3 [.int .i64 q4, .int .i64 q5, .int .i64 q6, .int .i64 q7, .int .i64 q8, .int .i64 q9, .bool q10, .bool q11, .bool q12, .int .i64 q13, .int .i64 q14, .int .i64 q15, q16]) ∧ Bex g w.heap.size w w' := by
 have LN_s3 := hid hls3
 clear hls3
 have BKr := hid hB
 clear hB
 have HL := hid (Bex.refl g w.heap.size w)
 have H : (if s2 = 0 then ((i_lex_Number.f k s0 s1 a1 a2).bind fun bt1 => ((i_task_reader_step.f s0 s1 s2 s3 s4 s5 s6 s7 s8 s9 s10 s11 s12 s13 s14 s15 s16 bt1.1 bt1.2.1 bt1.2.2).bind fun bt4 => (some (bt4.1, bt4.2.1, bt4.2.2.1, bt4.2.2.2.1, bt4.2.2.2.2.1, bt4.2.2.2.2.2.1, bt4.2.2.2.2.2.2.1, bt4.2.2.2.2.2.2.2.1, bt4.2.2.2.2.2.2.2.2.1, bt4.2.2.2.2.2.2.2.2.2.1, bt4.2.2.2.2.2.2.2.2.2.2.1, bt4.2.2.2.2.2.2.2.2.2.2.2.1, bt4.2.2.2.2.2.2.2.2.2.2.2.2.1, bt4.2.2.2.2.2.2.2.2.2.2.2.2.2.1, bt4.2.2.2.2.2.2.2.2.2.2.2.2.2.2.1, bt4.2.2.2.2.2.2.2.2.2.2.2.2.2.2.2.1, bt4.2.2.2.2.2.2.2.2.2.2.2.2.2.2.2.2.1, bt4.2.2.2.2.2.2.2.2.2.2.2.2.2.2.2.2.2)))) else (some (0, s0, s1, s2, s3, s4, s5, s6, s7, s8, s9, s10, s11, s12, s13, s14, s15, s16))) = some (r1, q0, q1, q2, q3, q4, q5, q6, q7, q8, q9, q10, q11, q12, q13, q14, q15, q16) := h
 clear h
 by_cases c22 : s2 = 0
 ·
  rw [if_pos c22] at H
  have c22b0 : (s2 == 0) = true := beq_iff_eq.mpr c22
  have c22b1 : (s2 != 0) = false := bne_eq_false_iff_eq.mpr c22
  have hc22 := hid c22
  clear c22
  replace H := Option.bind_eq_some_iff.mp H
  obtain ⟨⟨t1, t2, t3⟩, A23_, H⟩ := H
  dsimp only at H
  have A23 := hid A23_
  clear A23_
  replace H := Option.bind_eq_some_iff.mp H
  obtain ⟨⟨t4, t5, t6, t7, t8, t9, t10, t11, t12, t13, t14, t15, t16, t17, t18, t19, t20, t21⟩, A24_, H⟩ := H
  dsimp only at H
  have A24 := hid A24_
  clear A24_
  simp only [Option.some.injEq, Prod.mk.injEq] at H
  obtain ⟨rfl, rfl, rfl, rfl, rfl, rfl, rfl, rfl, rfl, rfl, rfl, rfl, rfl, rfl, rfl, rfl, rfl, rfl⟩ := H
  go_enter Try.func17, Try.ntmps17
  go_wp2_with (first
   | ((with_reducible refine gate_d (N := 9) rfl ?_); refine ag_fix (.pointer (some ⟨g, 2, none⟩)) (ex_field 40 2 (.pointer (some ⟨g, 0, none⟩)) (.pointer (some ⟨g, 2, none⟩)) (fa40_2_0 g) _ rfl rfl) rfl ?_)
   | ((with_reducible refine gate_d (N := 10) rfl ?_); refine ag_fix (.int .i64 s2) (ex_get sT32 g (2) (.int .i64 s2) ((yv [.string s0, .int .i64 s1, .int .i64 s2] (Value.int .i8) s3 [.int .i64 s4, .int .i64 s5, .int .i64 s6, .int .i64 s7, .int .i64 s8, .int .i64 s9, .bool s10, .bool s11, .bool s12, .int .i64 s13, .int .i64 s14, .int .i64 s15, s16])) BKr.out ((yv_pre (a := 3) rfl 2 (by decide)).trans rfl) _ rfl rfl) rfl ?_))
  (try simp only [Act.put, sI, sZ, sS])
  have WR64 := i64_w
  have WR32 := i32_w
  have WR8 := u8_w
  have WRU := u32_w
  refine sq_region (fun w'_ => Bex g w.heap.size w w'_ ∧ Blk w'_ g 40 (yv [.string s0, .int .i64 s1, .int .i64 s2] (Value.int .i8) s3 [.int .i64 s4, .int .i64 s5, .int .i64 s6, .int .i64 s7, .int .i64 s8, .int .i64 s9, .bool s10, .bool s11, .bool s12, .int .i64 s13, .int .i64 s14, .int .i64 s15, s16]) ∧ True) [11, 12] [(0, 2), (1, 2), (2, 2), (3, 2), (4, 1), (5, 2), (6, 2), (7, 2), (8, 1), (9, 2), (10, 2), (11, 0), (12, 0), (13, 2)] (by kernel_rfl) (by kernel_rfl) (by kernel_rfl) rfl ?_
  intro w25 hb_
  replace BKr := hid (BKr.out.below hb_ BKr.out.lt)
  replace HL := hid (HL.out.below hb_ HL.out.size)
  clear hb_
  refine sq_pure (.pointer (some ⟨g, 0, none⟩)) rfl (fun w'_ => ex_mv (.tmp 0) (.inl rfl) _ rfl) rfl rfl ?_
  intro ts_ ht_; simp only [sI, sZ, sS] at ht_; subst ht_
  refine sq_pure (.pointer (some ⟨g, 0, none⟩)) rfl (fun w'_ => ex_mv (.tmp 0) (.inl rfl) _ rfl) rfl rfl ?_
  intro ts_ ht_; simp only [sI, sZ, sS] at ht_; subst ht_
  refine sq_pure (.pointer (some ⟨g, 0, none⟩)) rfl (fun w'_ => by go_simp <;> (unfold wrap64; omega)) rfl rfl ?_
  intro ts_ ht_; simp only [sI, sZ, sS] at ht_; subst ht_
  refine sq_pure (.pointer (some ⟨g, 0, none⟩)) rfl (fun w'_ => ex_field 40 0 (.pointer (some ⟨g, 0, none⟩)) (.pointer (some ⟨g, 0, none⟩)) (fa40_0_0 g) _ rfl rfl) rfl rfl ?_
  intro ts_ ht_; simp only [sI, sZ, sS] at ht_; subst ht_
  refine sq_take (.string s0) ⟨HL.out, BKr.out, trivial⟩ rfl (fun w'_ hS_ => ex_get sT9 g (0) (.string s0) ((yv [.string s0, .int .i64 s1, .int .i64 s2] (Value.int .i8) s3 [.int .i64 s4, .int .i64 s5, .int .i64 s6, .int .i64 s7, .int .i64 s8, .int .i64 s9, .bool s10, .bool s11, .bool s12, .int .i64 s13, .int .i64 s14, .int .i64 s15, s16])) hS_.2.1 ((yv_pre (a := 3) rfl 0 (by decide)).trans rfl) _ rfl rfl) rfl rfl ?_
  intro ts_ ht_; simp only [sI, sZ, sS] at ht_; subst ht_
  refine sq_pure (.pointer (some ⟨g, 0, none⟩)) rfl (fun w'_ => ex_mv (.tmp 0) (.inl rfl) _ rfl) rfl rfl ?_
  intro ts_ ht_; simp only [sI, sZ, sS] at ht_; subst ht_
  refine sq_pure (.pointer (some ⟨g, 0, none⟩)) rfl (fun w'_ => by go_simp <;> (unfold wrap64; omega)) rfl rfl ?_
  intro ts_ ht_; simp only [sI, sZ, sS] at ht_; subst ht_
  refine sq_pure (.pointer (some ⟨g, 1, none⟩)) rfl (fun w'_ => ex_field 40 1 (.pointer (some ⟨g, 0, none⟩)) (.pointer (some ⟨g, 1, none⟩)) (fa40_1_0 g) _ rfl rfl) rfl rfl ?_
  intro ts_ ht_; simp only [sI, sZ, sS] at ht_; subst ht_
  refine sq_take (.int .i64 s1) ⟨HL.out, BKr.out, trivial⟩ rfl (fun w'_ hS_ => ex_get sT3 g (1) (.int .i64 s1) ((yv [.string s0, .int .i64 s1, .int .i64 s2] (Value.int .i8) s3 [.int .i64 s4, .int .i64 s5, .int .i64 s6, .int .i64 s7, .int .i64 s8, .int .i64 s9, .bool s10, .bool s11, .bool s12, .int .i64 s13, .int .i64 s14, .int .i64 s15, s16])) hS_.2.1 ((yv_pre (a := 3) rfl 1 (by decide)).trans rfl) _ rfl rfl) rfl rfl ?_
  intro ts_ ht_; simp only [sI, sZ, sS] at ht_; subst ht_
  refine sq_pure (.int .i64 a1) rfl (fun w'_ => ex_mv (.tmp 1) (.inl rfl) _ rfl) rfl rfl ?_
  intro ts_ ht_; simp only [sI, sZ, sS] at ht_; subst ht_
  refine sq_pure (.int .i64 a2) rfl (fun w'_ => ex_mv (.tmp 2) (.inl rfl) _ rfl) rfl rfl ?_
  intro ts_ ht_; simp only [sI, sZ, sS] at ht_; subst ht_
  refine sq_act rfl (fun Q'_ hQ_ => ?_)
  refine wl_call 32 #[.string s0, .int .i64 s1, .int .i64 a1, .int .i64 a2] (by go_simp) rfl ((i_lex_Number.calls k s0 s1 a1 a2 t1 t2 t3 _ A23.out).mono ?_)
  rintro e_ w27 ⟨rfl, hb_⟩
  replace BKr := hid (BKr.out.below hb_ BKr.out.lt)
  replace HL := hid (HL.out.below hb_ HL.out.size)
  clear hb_
  refine ⟨_, rfl, ?_⟩
  refine hQ_ _ _ (fun h_ => absurd h_ (by decide)) ?_
  clear hQ_ Q'_
  simp only [Act.put, sI, sZ, sS]
  refine sq_act rfl (fun Q'_ hQ_ => ?_)
  refine wl_call 21 #[.pointer (some ⟨g, 0, none⟩), .agg #[.int .i64 t1, .int .i64 t2, .int .i64 t3]] (by go_simp) rfl ((i_task_reader_step.calls s0 s1 s2 s3 s4 s5 s6 s7 s8 s9 s10 s11 s12 s13 s14 s15 s16 t1 t2 t3 LN_s3.out t4 t5 t6 t7 t8 t9 t10 t11 t12 t13 t14 t15 t16 t17 t18 t19 t20 t21 g _ BKr.out A24.out).mono ?_)
  rintro e_ w29 ⟨rfl, ln_t8, hB_, hx_⟩
  have LN_t8 := hid ln_t8
  clear ln_t8
  replace HL := hid (HL.out.bex hx_ HL.out.size (.inl rfl))
  replace BKr := hid hB_
  clear hx_ hB_
  refine ⟨_, rfl, ?_⟩
  refine hQ_ _ _ (fun h_ => absurd h_ (by decide)) ?_
  clear hQ_ Q'_
  simp only [Act.put, sI, sZ, sS]
  refine sq_pure (.int .i64 t4) rfl (fun w'_ => ex_mv (.tmp 24) (.inr rfl) _ rfl) rfl rfl ?_
  intro ts_ ht_; simp only [sI, sZ, sS] at ht_; subst ht_
  refine sq_end ?_
  clear WR64 WR32 WR8 WRU
  go_wp2_with fail
  (try simp only [Act.put, sI, sZ, sS])
  go_ret
  exact ⟨by first | rfl | (simp; done) | (simp [*]; done), LN_t8.out, (by exact BKr.out), HL.out⟩
 ·
  rw [if_neg c22] at H
  have c22b0 : (s2 == 0) = false := beq_eq_false_iff_ne.mpr c22
  have c22b1 : (s2 != 0) = true := bne_iff_ne.mpr c22
  have hc22 := hid c22
  clear c22
  simp only [Option.some.injEq, Prod.mk.injEq] at H
  obtain ⟨rfl, rfl, rfl, rfl, rfl, rfl, rfl, rfl, rfl, rfl, rfl, rfl, rfl, rfl, rfl, rfl, rfl, rfl⟩ := H
  go_enter Try.func17, Try.ntmps17
  go_wp2_with (first
   | ((with_reducible refine gate_d (N := 9) rfl ?_); refine ag_fix (.pointer (some ⟨g, 2, none⟩)) (ex_field 40 2 (.pointer (some ⟨g, 0, none⟩)) (.pointer (some ⟨g, 2, none⟩)) (fa40_2_0 g) _ rfl rfl) rfl ?_)
   | ((with_reducible refine gate_d (N := 10) rfl ?_); refine ag_fix (.int .i64 s2) (ex_get sT32 g (2) (.int .i64 s2) ((yv [.string s0, .int .i64 s1, .int .i64 s2] (Value.int .i8) s3 [.int .i64 s4, .int .i64 s5, .int .i64 s6, .int .i64 s7, .int .i64 s8, .int .i64 s9, .bool s10, .bool s11, .bool s12, .int .i64 s13, .int .i64 s14, .int .i64 s15, s16])) BKr.out ((yv_pre (a := 3) rfl 2 (by decide)).trans rfl) _ rfl rfl) rfl ?_))
  (try simp only [Act.put, sI, sZ, sS])
  go_ret
  exact ⟨by first | rfl | (simp; done) | (simp [*]; done), LN_s3.out, (by exact BKr.out), HL.out⟩
def i_task_reader_board.f (k : Nat) (s0 : ByteArray) (s1 : Int) (s2 : Int) (s3 : List Int) (s4 : Int) (s5 : Int) (s6 : Int) (s7 : Int) (s8 : Int) (s9 : Int) (s10 : Bool) (s11 : Bool) (s12 : Bool) (s13 : Int) (s14 : Int) (s15 : Int) (s16 : Value) (a1 : Int) : Option (ByteArray × Int × Int × (List Int) × Int × Int × Int × Int × Int × Int × Bool × Bool × Bool × Int × Int × Int × Value) := if s2 = 0 then ((i_lex_Line.f s0 s1).bind fun bt1 => (if a1 = 25 then ((i_forsyth_Read.f k bt1.1).bind fun bt6 => (if bt6.2.2 = 2 then (some (s0, wrap64 (s1 + bt6.2.1), bt6.2.2, s3, s4, s5, s6, s7, s8, s9, s10, s11, s12, s13, s14, s15, s16)) else (if bt1.2.2.2 = 0 then (if bt6.2.2 = 0 then ((i_task_reader_step.f s0 s1 s2 bt6.1 s4 s5 s6 s7 s8 s9 s10 s11 s12 s13 s14 s15 s16 bt1.2.1 bt1.2.2.1 bt1.2.2.2).bind fun bt10 => (some (bt10.2.1, bt10.2.2.1, bt10.2.2.2.1, bt10.2.2.2.2.1, bt10.2.2.2.2.2.1, bt10.2.2.2.2.2.2.1, bt10.2.2.2.2.2.2.2.1, bt10.2.2.2.2.2.2.2.2.1, bt10.2.2.2.2.2.2.2.2.2.1, bt10.2.2.2.2.2.2.2.2.2.2.1, bt10.2.2.2.2.2.2.2.2.2.2.2.1, bt10.2.2.2.2.2.2.2.2.2.2.2.2.1, bt10.2.2.2.2.2.2.2.2.2.2.2.2.2.1, bt10.2.2.2.2.2.2.2.2.2.2.2.2.2.2.1, bt10.2.2.2.2.2.2.2.2.2.2.2.2.2.2.2.1, bt10.2.2.2.2.2.2.2.2.2.2.2.2.2.2.2.2.1, bt10.2.2.2.2.2.2.2.2.2.2.2.2.2.2.2.2.2))) else (some (s0, wrap64 (s1 + bt6.2.1), 2, s3, s4, s5, s6, s7, s8, s9, s10, s11, s12, s13, s14, s15, s16))) else ((i_task_reader_step.f s0 s1 s2 s3 s4 s5 s6 s7 s8 s9 s10 s11 s12 s13 s14 s15 s16 bt1.2.1 bt1.2.2.1 bt1.2.2.2).bind fun bt28 => (some (bt28.2.1, bt28.2.2.1, bt28.2.2.2.1, bt28.2.2.2.2.1, bt28.2.2.2.2.2.1, bt28.2.2.2.2.2.2.1, bt28.2.2.2.2.2.2.2.1, bt28.2.2.2.2.2.2.2.2.1, bt28.2.2.2.2.2.2.2.2.2.1, bt28.2.2.2.2.2.2.2.2.2.2.1, bt28.2.2.2.2.2.2.2.2.2.2.2.1, bt28.2.2.2.2.2.2.2.2.2.2.2.2.1, bt28.2.2.2.2.2.2.2.2.2.2.2.2.2.1, bt28.2.2.2.2.2.2.2.2.2.2.2.2.2.2.1, bt28.2.2.2.2.2.2.2.2.2.2.2.2.2.2.2.1, bt28.2.2.2.2.2.2.2.2.2.2.2.2.2.2.2.2.1, bt28.2.2.2.2.2.2.2.2.2.2.2.2.2.2.2.2.2)))))) else (if a1 = 26 then ((i_roll_Read.f k bt1.1).bind fun bt46 => (if bt46.2.2 = 2 then (some (s0, wrap64 (s1 + bt46.2.1), bt46.2.2, s3, s4, s5, s6, s7, s8, s9, s10, s11, s12, s13, s14, s15, s16)) else (if bt1.2.2.2 = 0 then (if bt46.2.2 = 0 then ((i_task_reader_step.f s0 s1 s2 bt46.1 s4 s5 s6 s7 s8 s9 s10 s11 s12 s13 s14 s15 s16 bt1.2.1 bt1.2.2.1 bt1.2.2.2).bind fun bt50 => (some (bt50.2.1, bt50.2.2.1, bt50.2.2.2.1, bt50.2.2.2.2.1, bt50.2.2.2.2.2.1, bt50.2.2.2.2.2.2.1, bt50.2.2.2.2.2.2.2.1, bt50.2.2.2.2.2.2.2.2.1, bt50.2.2.2.2.2.2.2.2.2.1, bt50.2.2.2.2.2.2.2.2.2.2.1, bt50.2.2.2.2.2.2.2.2.2.2.2.1, bt50.2.2.2.2.2.2.2.2.2.2.2.2.1, bt50.2.2.2.2.2.2.2.2.2.2.2.2.2.1, bt50.2.2.2.2.2.2.2.2.2.2.2.2.2.2.1, bt50.2.2.2.2.2.2.2.2.2.2.2.2.2.2.2.1, bt50.2.2.2.2.2.2.2.2.2.2.2.2.2.2.2.2.1, bt50.2.2.2.2.2.2.2.2.2.2.2.2.2.2.2.2.2))) else (some (s0, wrap64 (s1 + bt46.2.1), 2, s3, s4, s5, s6, s7, s8, s9, s10, s11, s12, s13, s14, s15, s16))) else ((i_task_reader_step.f s0 s1 s2 s3 s4 s5 s6 s7 s8 s9 s10 s11 s12 s13 s14 s15 s16 bt1.2.1 bt1.2.2.1 bt1.2.2.2).bind fun bt68 => (some (bt68.2.1, bt68.2.2.1, bt68.2.2.2.1, bt68.2.2.2.2.1, bt68.2.2.2.2.2.1, bt68.2.2.2.2.2.2.1, bt68.2.2.2.2.2.2.2.1, bt68.2.2.2.2.2.2.2.2.1, bt68.2.2.2.2.2.2.2.2.2.1, bt68.2.2.2.2.2.2.2.2.2.2.1, bt68.2.2.2.2.2.2.2.2.2.2.2.1, bt68.2.2.2.2.2.2.2.2.2.2.2.2.1, bt68.2.2.2.2.2.2.2.2.2.2.2.2.2.1, bt68.2.2.2.2.2.2.2.2.2.2.2.2.2.2.1, bt68.2.2.2.2.2.2.2.2.2.2.2.2.2.2.2.1, bt68.2.2.2.2.2.2.2.2.2.2.2.2.2.2.2.2.1, bt68.2.2.2.2.2.2.2.2.2.2.2.2.2.2.2.2.2)))))) else (none)))) else (some (s0, s1, s2, s3, s4, s5, s6, s7, s8, s9, s10, s11, s12, s13, s14, s15, s16))
set_option maxHeartbeats 40000000 in
set_option maxRecDepth 100000 in
theorem i_task_reader_board.calls (k : Nat) (s0 : ByteArray) (s1 : Int) (s2 : Int) (s3 : List Int) (s4 : Int) (s5 : Int) (s6 : Int) (s7 : Int) (s8 : Int) (s9 : Int) (s10 : Bool) (s11 : Bool) (s12 : Bool) (s13 : Int) (s14 : Int) (s15 : Int) (s16 : Value) (a1 : Int) (hls3 : s3.length = 64) (q0 : ByteArray) (q1 : Int) (q2 : Int) (q3 : List Int) (q4 : Int) (q5 : Int) (q6 : Int) (q7 : Int) (q8 : Int) (q9 : Int) (q10 : Bool) (q11 : Bool) (q12 : Bool) (q13 : Int) (q14 : Int) (q15 : Int) (q16 : Value) (g : Nat) (w : World) (hB : Blk w g 40 (yv [.string s0, .int .i64 s1, .int .i64 s2] (Value.int .i8) s3 [.int .i64 s4, .int .i64 s5, .int .i64 s6, .int .i64 s7, .int .i64 s8, .int .i64 s9, .bool s10, .bool s11, .bool s12, .int .i64 s13, .int .i64 s14, .int .i64 s15, s16])) (h : i_task_reader_board.f k s0 s1 s2 s3 s4 s5 s6 s7 s8 s9 s10 s11 s12 s13 s14 s15 s16 a1 = some (q0, q1, q2, q3, q4, q5, q6, q7, q8, q9, q10, q11, q12, q13, q14, q15, q16)) :
    Calls Try.prog 24 #[.pointer (some ⟨g, 0, none⟩), (fnv a1)] w fun e w' => e = .returned (.tuple #[]) ∧ q3.length = 64 ∧ Blk w' g 40 (yv [.string q0, .int .i64 q1, .int .i64 q2] (Value.int .i8) q3 [.int .i64 q4, .int .i64 q5, .int .i64 q6, .int .i64 q7, .int .i64 q8, .int .i64 q9, .bool q10, .bool q11, .bool q12, .int .i64 q13, .int .i64 q14, .int .i64 q15, q16]) ∧ Bex g w.heap.size w w' := by
 have LN_s3 := hid hls3
 clear hls3
 have BKr := hid hB
 clear hB
 have HL := hid (Bex.refl g w.heap.size w)
 have H : (if s2 = 0 then ((i_lex_Line.f s0 s1).bind fun bt1 => (if a1 = 25 then ((i_forsyth_Read.f k bt1.1).bind fun bt6 => (if bt6.2.2 = 2 then (some (s0, wrap64 (s1 + bt6.2.1), bt6.2.2, s3, s4, s5, s6, s7, s8, s9, s10, s11, s12, s13, s14, s15, s16)) else (if bt1.2.2.2 = 0 then (if bt6.2.2 = 0 then ((i_task_reader_step.f s0 s1 s2 bt6.1 s4 s5 s6 s7 s8 s9 s10 s11 s12 s13 s14 s15 s16 bt1.2.1 bt1.2.2.1 bt1.2.2.2).bind fun bt10 => (some (bt10.2.1, bt10.2.2.1, bt10.2.2.2.1, bt10.2.2.2.2.1, bt10.2.2.2.2.2.1, bt10.2.2.2.2.2.2.1, bt10.2.2.2.2.2.2.2.1, bt10.2.2.2.2.2.2.2.2.1, bt10.2.2.2.2.2.2.2.2.2.1, bt10.2.2.2.2.2.2.2.2.2.2.1, bt10.2.2.2.2.2.2.2.2.2.2.2.1, bt10.2.2.2.2.2.2.2.2.2.2.2.2.1, bt10.2.2.2.2.2.2.2.2.2.2.2.2.2.1, bt10.2.2.2.2.2.2.2.2.2.2.2.2.2.2.1, bt10.2.2.2.2.2.2.2.2.2.2.2.2.2.2.2.1, bt10.2.2.2.2.2.2.2.2.2.2.2.2.2.2.2.2.1, bt10.2.2.2.2.2.2.2.2.2.2.2.2.2.2.2.2.2))) else (some (s0, wrap64 (s1 + bt6.2.1), 2, s3, s4, s5, s6, s7, s8, s9, s10, s11, s12, s13, s14, s15, s16))) else ((i_task_reader_step.f s0 s1 s2 s3 s4 s5 s6 s7 s8 s9 s10 s11 s12 s13 s14 s15 s16 bt1.2.1 bt1.2.2.1 bt1.2.2.2).bind fun bt28 => (some (bt28.2.1, bt28.2.2.1, bt28.2.2.2.1, bt28.2.2.2.2.1, bt28.2.2.2.2.2.1, bt28.2.2.2.2.2.2.1, bt28.2.2.2.2.2.2.2.1, bt28.2.2.2.2.2.2.2.2.1, bt28.2.2.2.2.2.2.2.2.2.1, bt28.2.2.2.2.2.2.2.2.2.2.1, bt28.2.2.2.2.2.2.2.2.2.2.2.1, bt28.2.2.2.2.2.2.2.2.2.2.2.2.1, bt28.2.2.2.2.2.2.2.2.2.2.2.2.2.1, bt28.2.2.2.2.2.2.2.2.2.2.2.2.2.2.1, bt28.2.2.2.2.2.2.2.2.2.2.2.2.2.2.2.1, bt28.2.2.2.2.2.2.2.2.2.2.2.2.2.2.2.2.1, bt28.2.2.2.2.2.2.2.2.2.2.2.2.2.2.2.2.2)))))) else (if a1 = 26 then ((i_roll_Read.f k bt1.1).bind fun bt46 => (if bt46.2.2 = 2 then (some (s0, wrap64 (s1 + bt46.2.1), bt46.2.2, s3, s4, s5, s6, s7, s8, s9, s10, s11, s12, s13, s14, s15, s16)) else (if bt1.2.2.2 = 0 then (if bt46.2.2 = 0 then ((i_task_reader_step.f s0 s1 s2 bt46.1 s4 s5 s6 s7 s8 s9 s10 s11 s12 s13 s14 s15 s16 bt1.2.1 bt1.2.2.1 bt1.2.2.2).bind fun bt50 => (some (bt50.2.1, bt50.2.2.1, bt50.2.2.2.1, bt50.2.2.2.2.1, bt50.2.2.2.2.2.1, bt50.2.2.2.2.2.2.1, bt50.2.2.2.2.2.2.2.1, bt50.2.2.2.2.2.2.2.2.1, bt50.2.2.2.2.2.2.2.2.2.1, bt50.2.2.2.2.2.2.2.2.2.2.1, bt50.2.2.2.2.2.2.2.2.2.2.2.1, bt50.2.2.2.2.2.2.2.2.2.2.2.2.1, bt50.2.2.2.2.2.2.2.2.2.2.2.2.2.1, bt50.2.2.2.2.2.2.2.2.2.2.2.2.2.2.1, bt50.2.2.2.2.2.2.2.2.2.2.2.2.2.2.2.1, bt50.2.2.2.2.2.2.2.2.2.2.2.2.2.2.2.2.1, bt50.2.2.2.2.2.2.2.2.2.2.2.2.2.2.2.2.2))) else (some (s0, wrap64 (s1 + bt46.2.1), 2, s3, s4, s5, s6, s7, s8, s9, s10, s11, s12, s13, s14, s15, s16))) else ((i_task_reader_step.f s0 s1 s2 s3 s4 s5 s6 s7 s8 s9 s10 s11 s12 s13 s14 s15 s16 bt1.2.1 bt1.2.2.1 bt1.2.2.2).bind fun bt68 => (some (bt68.2.1, bt68.2.2.1, bt68.2.2.2.1, bt68.2.2.2.2.1, bt68.2.2.2.2.2.1, bt68.2.2.2.2.2.2.1, bt68.2.2.2.2.2.2.2.1, bt68.2.2.2.2.2.2.2.2.1, bt68.2.2.2.2.2.2.2.2.2.1, bt68.2.2.2.2.2.2.2.2.2.2.1, bt68.2.2.2.2.2.2.2.2.2.2.2.1, bt68.2.2.2.2.2.2.2.2.2.2.2.2.1, bt68.2.2.2.2.2.2.2.2.2.2.2.2.2.1, bt68.2.2.2.2.2.2.2.2.2.2.2.2.2.2.1, bt68.2.2.2.2.2.2.2.2.2.2.2.2.2.2.2.1, bt68.2.2.2.2.2.2.2.2.2.2.2.2.2.2.2.2.1, bt68.2.2.2.2.2.2.2.2.2.2.2.2.2.2.2.2.2)))))) else (none)))) else (some (s0, s1, s2, s3, s4, s5, s6, s7, s8, s9, s10, s11, s12, s13, s14, s15, s16))) = some (q0, q1, q2, q3, q4, q5, q6, q7, q8, q9, q10, q11, q12, q13, q14, q15, q16) := h
 clear h
 by_cases c86 : s2 = 0
 ·
  rw [if_pos c86] at H
  have c86b0 : (s2 == 0) = true := beq_iff_eq.mpr c86
  have c86b1 : (s2 != 0) = false := bne_eq_false_iff_eq.mpr c86
  have hc86 := hid c86
  clear c86
  replace H := Option.bind_eq_some_iff.mp H
  obtain ⟨⟨t1, t2, t3, t4⟩, A87_, H⟩ := H
  dsimp only at H
  have A87 := hid A87_
  clear A87_
  by_cases c88 : a1 = 25
  ·
   rw [if_pos c88] at H
   have c88b0 : (a1 == 25) = true := beq_iff_eq.mpr c88
   have c88b1 : (a1 != 25) = false := bne_eq_false_iff_eq.mpr c88
   have hc88 := hid c88
   clear c88
   have H' := hid H
   clear H
   go_enter Try.func24, Try.ntmps24
   go_wp2_with (first
    | ((with_reducible refine gate_d (N := 11) rfl ?_); refine ag_fix (.pointer (some ⟨g, 2, none⟩)) (ex_field 40 2 (.pointer (some ⟨g, 0, none⟩)) (.pointer (some ⟨g, 2, none⟩)) (fa40_2_0 g) _ rfl rfl) rfl ?_)
    | ((with_reducible refine gate_d (N := 12) rfl ?_); refine ag_fix (.int .i64 s2) (ex_get sT32 g (2) (.int .i64 s2) ((yv [.string s0, .int .i64 s1, .int .i64 s2] (Value.int .i8) s3 [.int .i64 s4, .int .i64 s5, .int .i64 s6, .int .i64 s7, .int .i64 s8, .int .i64 s9, .bool s10, .bool s11, .bool s12, .int .i64 s13, .int .i64 s14, .int .i64 s15, s16])) BKr.out ((yv_pre (a := 3) rfl 2 (by decide)).trans rfl) _ rfl rfl) rfl ?_))
   (try simp only [Act.put, sI, sZ, sS])
   have WR64 := i64_w
   have WR32 := i32_w
   have WR8 := u8_w
   have WRU := u32_w
   apply sq_join (F := fun gb5 w'_ => (Bex g w.heap.size w w'_) ∧ (Blk w'_ g 40 (yv [.string s0, .int .i64 s1, .int .i64 s2] (Value.int .i8) s3 [.int .i64 s4, .int .i64 s5, .int .i64 s6, .int .i64 s7, .int .i64 s8, .int .i64 s9, .bool s10, .bool s11, .bool s12, .int .i64 s13, .int .i64 s14, .int .i64 s15, s16])) ∧ (Blk w'_ gb5 48 #[.int .i64 t2, .int .i64 t3, .int .i64 t4]) ∧ (w.heap.size ≤ gb5) ∧ (g ≠ gb5) ∧ (gb5 ≠ g))
   ·
    refine st_region (fun w'_ => Bex g w.heap.size w w'_ ∧ Blk w'_ g 40 (yv [.string s0, .int .i64 s1, .int .i64 s2] (Value.int .i8) s3 [.int .i64 s4, .int .i64 s5, .int .i64 s6, .int .i64 s7, .int .i64 s8, .int .i64 s9, .bool s10, .bool s11, .bool s12, .int .i64 s13, .int .i64 s14, .int .i64 s15, s16]) ∧ True) [8, 14] (.pure 0 (.pure 1 (.pure 2 (.take 3 (.pure 4 (.pure 5 (.pure 6 (.take 7 (.f2 8 (.pure 9 (.pure 10 (.pure 11 (.act 12 (.pure 13 (.act 14 .nil)))))) 12 (.act 8 (.pure 9 (.pure 10 (.pure 11 (.pure 13 (.act 14 .nil))))))))))))))) (by kernel_rfl) (by kernel_rfl) (by kernel_rfl) rfl ?_
    intro w90 hb_
    replace BKr := hid (BKr.out.below hb_ BKr.out.lt)
    replace HL := hid (HL.out.below hb_ HL.out.size)
    clear hb_
    refine st_pure (.pointer (some ⟨g, 0, none⟩)) rfl (fun w'_ => ex_mv (.tmp 0) (.inl rfl) _ rfl) rfl rfl ?_
    intro ts_ ht_; simp only [sI, sZ, sS] at ht_; subst ht_
    refine st_pure (.pointer (some ⟨g, 0, none⟩)) rfl (fun w'_ => by go_simp <;> (unfold wrap64; omega)) rfl rfl ?_
    intro ts_ ht_; simp only [sI, sZ, sS] at ht_; subst ht_
    refine st_pure (.pointer (some ⟨g, 0, none⟩)) rfl (fun w'_ => ex_field 40 0 (.pointer (some ⟨g, 0, none⟩)) (.pointer (some ⟨g, 0, none⟩)) (fa40_0_0 g) _ rfl rfl) rfl rfl ?_
    intro ts_ ht_; simp only [sI, sZ, sS] at ht_; subst ht_
    refine st_take (.string s0) ⟨HL.out, BKr.out, trivial⟩ rfl (fun w'_ hS_ => ex_get sT9 g (0) (.string s0) ((yv [.string s0, .int .i64 s1, .int .i64 s2] (Value.int .i8) s3 [.int .i64 s4, .int .i64 s5, .int .i64 s6, .int .i64 s7, .int .i64 s8, .int .i64 s9, .bool s10, .bool s11, .bool s12, .int .i64 s13, .int .i64 s14, .int .i64 s15, s16])) hS_.2.1 ((yv_pre (a := 3) rfl 0 (by decide)).trans rfl) _ rfl rfl) rfl rfl ?_
    intro ts_ ht_; simp only [sI, sZ, sS] at ht_; subst ht_
    refine st_pure (.pointer (some ⟨g, 0, none⟩)) rfl (fun w'_ => ex_mv (.tmp 0) (.inl rfl) _ rfl) rfl rfl ?_
    intro ts_ ht_; simp only [sI, sZ, sS] at ht_; subst ht_
    refine st_pure (.pointer (some ⟨g, 0, none⟩)) rfl (fun w'_ => by go_simp <;> (unfold wrap64; omega)) rfl rfl ?_
    intro ts_ ht_; simp only [sI, sZ, sS] at ht_; subst ht_
    refine st_pure (.pointer (some ⟨g, 1, none⟩)) rfl (fun w'_ => ex_field 40 1 (.pointer (some ⟨g, 0, none⟩)) (.pointer (some ⟨g, 1, none⟩)) (fa40_1_0 g) _ rfl rfl) rfl rfl ?_
    intro ts_ ht_; simp only [sI, sZ, sS] at ht_; subst ht_
    refine st_take (.int .i64 s1) ⟨HL.out, BKr.out, trivial⟩ rfl (fun w'_ hS_ => ex_get sT3 g (1) (.int .i64 s1) ((yv [.string s0, .int .i64 s1, .int .i64 s2] (Value.int .i8) s3 [.int .i64 s4, .int .i64 s5, .int .i64 s6, .int .i64 s7, .int .i64 s8, .int .i64 s9, .bool s10, .bool s11, .bool s12, .int .i64 s13, .int .i64 s14, .int .i64 s15, s16])) hS_.2.1 ((yv_pre (a := 3) rfl 1 (by decide)).trans rfl) _ rfl rfl) rfl rfl ?_
    intro ts_ ht_; simp only [sI, sZ, sS] at ht_; subst ht_
    refine st_f2 ?_ ?_
    ·
     refine st_op rfl (fun Q'_ hQ_ => ?_)
     refine wl_call 36 #[.string s0, .int .i64 s1] (by go_simp) rfl ((i_lex_Line.calls s0 s1 t1 t2 t3 t4 _ A87.out).mono ?_)
     rintro e_ w92 ⟨rfl, hb_⟩
     replace BKr := hid (BKr.out.below hb_ BKr.out.lt)
     replace HL := hid (HL.out.below hb_ HL.out.size)
     clear hb_
     refine ⟨_, rfl, ?_⟩
     refine hQ_ _ _ (fun h_ => absurd h_ (by decide)) ?_
     clear hQ_ Q'_
     simp only [Act.put, sI, sZ, sS]
     refine st_pure (.tuple #[.string t1, .agg #[.int .i64 t2, .int .i64 t3, .int .i64 t4]]) rfl (fun w'_ => ex_mv (.tmp 23) (.inl rfl) _ rfl) rfl rfl ?_
     intro ts_ ht_; simp only [sI, sZ, sS] at ht_; subst ht_
     refine st_pure (.string t1) rfl (fun w'_ => by go_simp <;> (unfold wrap64; omega)) rfl rfl ?_
     intro ts_ ht_; simp only [sI, sZ, sS] at ht_; subst ht_
     refine st_pure (.agg #[.int .i64 t2, .int .i64 t3, .int .i64 t4]) rfl (fun w'_ => by go_simp <;> (unfold wrap64; omega)) rfl rfl ?_
     intro ts_ ht_; simp only [sI, sZ, sS] at ht_; subst ht_
     refine st_act ?_
     refine st_op rfl (fun Q'_ hQ_ => ?_)
     (with_reducible refine gate_d (N := 5) rfl ?_)
     obtain ⟨gb5, hgb5⟩ : ∃ g_, w92.heap.size = g_ := ⟨_, rfl⟩
     refine ag_alloc aT48 gb5 hgb5 rfl rfl ?_
     intro w93 hb_ hB_ hs_
     have GEb5 : Hid (w.heap.size ≤ gb5) := hid (by have := HL.out.size; omega)
     have NBr_b5 : Hid (g ≠ gb5) := hid (by have := BKr.out.lt; omega)
     have NBb5_r : Hid (gb5 ≠ g) := hid (by have := NBr_b5.out; omega)
     replace BKr := hid (BKr.out.below hb_ (by rw [← hgb5]; exact BKr.out.lt))
     replace HL := hid (HL.out.below hb_ (GEb5.out))
     have BKb5 := hid hB_
     clear hb_ hB_ hs_ hgb5
     refine act_end ?_
     refine hQ_ _ _ (fun _ => ⟨HL.out, BKr.out, trivial⟩) ?_
     clear hQ_ Q'_
     simp only [Act.put, sI, sZ, sS]
     refine st_pure (.string t1) rfl (fun w'_ => ex_mv (.tmp 24) (.inr rfl) _ rfl) rfl rfl ?_
     intro ts_ ht_; simp only [sI, sZ, sS] at ht_; subst ht_
     refine st_act ?_
     refine st_op rfl (fun Q'_ hQ_ => ?_)
     (with_reducible refine gate_s (t := 48) (p := 5) rfl ?_)
     refine ag_store aT48 gb5 0 #[.int .i64 0, .int .i64 0, .int .i64 0] #[.int .i64 t2, .int .i64 t3, .int .i64 t4] #[.int .i64 t2, .int .i64 t3, .int .i64 t4] BKb5.out rfl (by simp) (by intro v_ hv_; simp at hv_; rcases hv_ with rfl | rfl | rfl <;> first | rfl) rfl rfl _ _ rfl rfl rfl ?_
     intro w94 ho_ hB_
     replace BKr := hid (BKr.out.off ho_ NBr_b5.out)
     replace HL := hid (HL.out.off ho_ (.inr GEb5.out))
     replace BKb5 := hid hB_
     clear ho_ hB_
     refine act_end ?_
     refine hQ_ _ _ (fun h_ => absurd h_ (by decide)) ?_
     clear hQ_ Q'_
     simp only [Act.put]
     exact st_end ⟨rfl, gb5, rfl, HL.out, BKr.out, BKb5.out, GEb5.out, NBr_b5.out, NBb5_r.out⟩
    ·
     refine st_op rfl (fun Q'_ hQ_ => ?_)
     (with_reducible refine gate_d (N := 5) rfl ?_)
     obtain ⟨gb5, hgb5⟩ : ∃ g_, w90.heap.size = g_ := ⟨_, rfl⟩
     refine ag_alloc aT48 gb5 hgb5 rfl rfl ?_
     intro w95 hb_ hB_ hs_
     have GEb5 : Hid (w.heap.size ≤ gb5) := hid (by have := HL.out.size; omega)
     have NBr_b5 : Hid (g ≠ gb5) := hid (by have := BKr.out.lt; omega)
     have NBb5_r : Hid (gb5 ≠ g) := hid (by have := NBr_b5.out; omega)
     replace BKr := hid (BKr.out.below hb_ (by rw [← hgb5]; exact BKr.out.lt))
     replace HL := hid (HL.out.below hb_ (GEb5.out))
     have BKb5 := hid hB_
     clear hb_ hB_ hs_ hgb5
     refine act_end ?_
     refine hQ_ _ _ (fun _ => ⟨HL.out, BKr.out, trivial⟩) ?_
     clear hQ_ Q'_
     simp only [Act.put, sI, sZ, sS]
     refine st_act ?_
     refine st_op rfl (fun Q'_ hQ_ => ?_)
     refine wl_call 36 #[.string s0, .int .i64 s1] (by go_simp) rfl ((i_lex_Line.calls s0 s1 t1 t2 t3 t4 _ A87.out).mono ?_)
     rintro e_ w97 ⟨rfl, hb_⟩
     replace BKr := hid (BKr.out.below hb_ BKr.out.lt)
     replace BKb5 := hid (BKb5.out.below hb_ BKb5.out.lt)
     replace HL := hid (HL.out.below hb_ HL.out.size)
     clear hb_
     refine ⟨_, rfl, ?_⟩
     refine hQ_ _ _ (fun h_ => absurd h_ (by decide)) ?_
     clear hQ_ Q'_
     simp only [Act.put, sI, sZ, sS]
     refine st_pure (.tuple #[.string t1, .agg #[.int .i64 t2, .int .i64 t3, .int .i64 t4]]) rfl (fun w'_ => ex_mv (.tmp 23) (.inl rfl) _ rfl) rfl rfl ?_
     intro ts_ ht_; simp only [sI, sZ, sS] at ht_; subst ht_
     refine st_pure (.string t1) rfl (fun w'_ => by go_simp <;> (unfold wrap64; omega)) rfl rfl ?_
     intro ts_ ht_; simp only [sI, sZ, sS] at ht_; subst ht_
     refine st_pure (.agg #[.int .i64 t2, .int .i64 t3, .int .i64 t4]) rfl (fun w'_ => by go_simp <;> (unfold wrap64; omega)) rfl rfl ?_
     intro ts_ ht_; simp only [sI, sZ, sS] at ht_; subst ht_
     refine st_pure (.string t1) rfl (fun w'_ => ex_mv (.tmp 24) (.inr rfl) _ rfl) rfl rfl ?_
     intro ts_ ht_; simp only [sI, sZ, sS] at ht_; subst ht_
     refine st_act ?_
     refine st_op rfl (fun Q'_ hQ_ => ?_)
     (with_reducible refine gate_s (t := 48) (p := 5) rfl ?_)
     refine ag_store aT48 gb5 0 #[.int .i64 0, .int .i64 0, .int .i64 0] #[.int .i64 t2, .int .i64 t3, .int .i64 t4] #[.int .i64 t2, .int .i64 t3, .int .i64 t4] BKb5.out rfl (by simp) (by intro v_ hv_; simp at hv_; rcases hv_ with rfl | rfl | rfl <;> first | rfl) rfl rfl _ _ rfl rfl rfl ?_
     intro w98 ho_ hB_
     replace BKr := hid (BKr.out.off ho_ NBr_b5.out)
     replace HL := hid (HL.out.off ho_ (.inr GEb5.out))
     replace BKb5 := hid hB_
     clear ho_ hB_
     refine act_end ?_
     refine hQ_ _ _ (fun h_ => absurd h_ (by decide)) ?_
     clear hQ_ Q'_
     simp only [Act.put]
     exact st_end ⟨rfl, gb5, rfl, HL.out, BKr.out, BKb5.out, GEb5.out, NBr_b5.out, NBb5_r.out⟩
   rintro gb5 w99 ⟨HL_, BKr_, BKb5_, GEb5_, NBr_b5_, NBb5_r_⟩
   clear HL BKr
   have HL := hid HL_
   clear HL_
   have BKr := hid BKr_
   clear BKr_
   have BKb5 := hid BKb5_
   clear BKb5_
   have GEb5 := hid GEb5_
   clear GEb5_
   have NBr_b5 := hid NBr_b5_
   clear NBr_b5_
   have NBb5_r := hid NBb5_r_
   clear NBb5_r_
   (try simp only [Act.put, sI, sZ, sS])
   have H := H'.out
   clear H'
   replace H := Option.bind_eq_some_iff.mp H
   obtain ⟨⟨t6, t7, t8⟩, A89_, H⟩ := H
   dsimp only at H
   have A89 := hid A89_
   clear A89_
   by_cases c100 : t8 = 2
   ·
    rw [if_pos c100] at H
    have c100b0 : (t8 == 2) = true := beq_iff_eq.mpr c100
    have c100b1 : (t8 != 2) = false := bne_eq_false_iff_eq.mpr c100
    have hc100 := hid c100
    clear c100
    simp only [Option.some.injEq, Prod.mk.injEq] at H
    obtain ⟨rfl, rfl, rfl, rfl, rfl, rfl, rfl, rfl, rfl, rfl, rfl, rfl, rfl, rfl, rfl, rfl, rfl⟩ := H
    have k101 := True.intro
    go_wp2_with (first
     | ((with_reducible refine gate_d (N := 29) rfl ?_); clear k101; refine wl_dyn 25 #[.string t1] (ex_dyn Try.func25 (by kernel_rfl) (by kernel_rfl) ((fnv a1)) (by rw [hc88.out]; first | done | rfl) _ _ _ rfl rfl (by simp only [List.map_toArray, List.map_cons, List.map_nil]; rfl)) rfl ((i_forsyth_Read.calls k t1 t6 t7 t8 _ A89.out).mono ?_); rintro e_ w102 ⟨rfl, ln_t6, hb_⟩; have LN_t6 := hid ln_t6; clear ln_t6; replace BKr := hid (BKr.out.below hb_ BKr.out.lt); replace BKb5 := hid (BKb5.out.below hb_ BKb5.out.lt); replace HL := hid (HL.out.below hb_ HL.out.size); clear hb_)
     | ((with_reducible refine gate_d (N := 6) rfl ?_); obtain ⟨gb9, hgb9⟩ : ∃ g_, w102.heap.size = g_ := ⟨_, rfl⟩; refine ag_alloc boardT gb9 hgb9 rfl rfl ?_; intro w103 hb_ hB_ hs_; have GEb9 : Hid (w.heap.size ≤ gb9) := hid (by have := HL.out.size; omega); have NBr_b9 : Hid (g ≠ gb9) := hid (by have := BKr.out.lt; omega); have NBb9_r : Hid (gb9 ≠ g) := hid (by have := NBr_b9.out; omega); replace BKr := hid (BKr.out.below hb_ (by rw [← hgb9]; exact BKr.out.lt)); have NBb5_b9 : Hid (gb5 ≠ gb9) := hid (by have := BKb5.out.lt; omega); have NBb9_b5 : Hid (gb9 ≠ gb5) := hid (by have := NBb5_b9.out; omega); replace BKb5 := hid (BKb5.out.below hb_ (by rw [← hgb9]; exact BKb5.out.lt)); replace HL := hid (HL.out.below hb_ (GEb9.out)); have BKb9 := hid hB_; clear hb_ hB_ hs_ hgb9)
     | ((with_reducible refine gate_s (t := 25) (p := 6) rfl ?_); refine ag_store boardT gb9 0 (bv zL) (bv t6) (bv t6) BKb9.out (by rw [show (bv t6) = av (Value.int .i8) t6 from rfl, av_size]; exact LN_t6.out) (av_le zL_len) (av_one (fun _ => rfl)) (av_put zL_len LN_t6.out) rfl _ _ rfl rfl rfl ?_; intro w104 ho_ hB_; replace BKr := hid (BKr.out.off ho_ NBr_b9.out); replace BKb5 := hid (BKb5.out.off ho_ NBb5_b9.out); replace HL := hid (HL.out.off ho_ (.inr GEb9.out)); replace BKb9 := hid hB_; clear ho_ hB_)
     | ((with_reducible refine gate_d (N := 49) rfl ?_); refine ag_fix (.pointer (some ⟨g, 1, none⟩)) (ex_field 40 1 (.pointer (some ⟨g, 0, none⟩)) (.pointer (some ⟨g, 1, none⟩)) (fa40_1_0 g) _ rfl rfl) rfl ?_)
     | ((with_reducible refine gate_d (N := 50) rfl ?_); refine ag_fix (.int .i64 s1) (ex_get sT3 g (1) (.int .i64 s1) ((yv [.string s0, .int .i64 s1, .int .i64 s2] (Value.int .i8) s3 [.int .i64 s4, .int .i64 s5, .int .i64 s6, .int .i64 s7, .int .i64 s8, .int .i64 s9, .bool s10, .bool s11, .bool s12, .int .i64 s13, .int .i64 s14, .int .i64 s15, s16])) BKr.out ((yv_pre (a := 3) rfl 1 (by decide)).trans rfl) _ rfl rfl) rfl ?_)
     | ((with_reducible refine gate_d (N := 55) rfl ?_); refine ag_fix (.pointer (some ⟨g, 1, none⟩)) (ex_field 40 1 (.pointer (some ⟨g, 0, none⟩)) (.pointer (some ⟨g, 1, none⟩)) (fa40_1_0 g) _ rfl rfl) rfl ?_)
     | ((with_reducible refine gate_s (t := 3) (p := 55) rfl ?_); refine ag_set sT3 g (1) (.int .i64 (wrap64 (s1 + t7))) (yv [.string s0, .int .i64 s1, .int .i64 s2] (Value.int .i8) s3 [.int .i64 s4, .int .i64 s5, .int .i64 s6, .int .i64 s7, .int .i64 s8, .int .i64 s9, .bool s10, .bool s11, .bool s12, .int .i64 s13, .int .i64 s14, .int .i64 s15, s16]) (yv [.string s0, .int .i64 (wrap64 (s1 + t7)), .int .i64 s2] (Value.int .i8) s3 [.int .i64 s4, .int .i64 s5, .int .i64 s6, .int .i64 s7, .int .i64 s8, .int .i64 s9, .bool s10, .bool s11, .bool s12, .int .i64 s13, .int .i64 s14, .int .i64 s15, s16]) BKr.out (yv_lt (a := 3) (n := 64) (c := 13) rfl LN_s3.out rfl (m := 1) (by decide)) rfl rfl ((yv_setp (a := 3) rfl 1 (by decide) _).trans rfl) rfl _ _ rfl rfl rfl ?_; intro w105 ho_ hB_; replace BKb5 := hid (BKb5.out.off ho_ NBb5_r.out); replace BKb9 := hid (BKb9.out.off ho_ NBb9_r.out); replace HL := hid (HL.out.off ho_ (.inl rfl)); replace BKr := hid hB_; clear ho_ hB_)
     | ((with_reducible refine gate_d (N := 57) rfl ?_); refine ag_fix (.pointer (some ⟨g, 2, none⟩)) (ex_field 40 2 (.pointer (some ⟨g, 0, none⟩)) (.pointer (some ⟨g, 2, none⟩)) (fa40_2_0 g) _ rfl rfl) rfl ?_)
     | ((with_reducible refine gate_s (t := 32) (p := 57) rfl ?_); refine ag_set sT32 g (2) (.int .i64 t8) (yv [.string s0, .int .i64 (wrap64 (s1 + t7)), .int .i64 s2] (Value.int .i8) s3 [.int .i64 s4, .int .i64 s5, .int .i64 s6, .int .i64 s7, .int .i64 s8, .int .i64 s9, .bool s10, .bool s11, .bool s12, .int .i64 s13, .int .i64 s14, .int .i64 s15, s16]) (yv [.string s0, .int .i64 (wrap64 (s1 + t7)), .int .i64 t8] (Value.int .i8) s3 [.int .i64 s4, .int .i64 s5, .int .i64 s6, .int .i64 s7, .int .i64 s8, .int .i64 s9, .bool s10, .bool s11, .bool s12, .int .i64 s13, .int .i64 s14, .int .i64 s15, s16]) BKr.out (yv_lt (a := 3) (n := 64) (c := 13) rfl LN_s3.out rfl (m := 2) (by decide)) rfl rfl ((yv_setp (a := 3) rfl 2 (by decide) _).trans rfl) rfl _ _ rfl rfl rfl ?_; intro w106 ho_ hB_; replace BKb5 := hid (BKb5.out.off ho_ NBb5_r.out); replace BKb9 := hid (BKb9.out.off ho_ NBb9_r.out); replace HL := hid (HL.out.off ho_ (.inl rfl)); replace BKr := hid hB_; clear ho_ hB_))
    (try simp only [Act.put, sI, sZ, sS])
    (first | go_end0 | refine bodyPost_ret (results_none rfl _ _ _) rfl ?_)
    exact ⟨by first | rfl | (simp; done), LN_s3.out, (by exact BKr.out), HL.out⟩
   ·
    rw [if_neg c100] at H
    have c100b0 : (t8 == 2) = false := beq_eq_false_iff_ne.mpr c100
    have c100b1 : (t8 != 2) = true := bne_iff_ne.mpr c100
    have hc100 := hid c100
    clear c100
    by_cases c107 : t4 = 0
    ·
     rw [if_pos c107] at H
     have c107b0 : (t4 == 0) = true := beq_iff_eq.mpr c107
     have c107b1 : (t4 != 0) = false := bne_eq_false_iff_eq.mpr c107
     have hc107 := hid c107
     clear c107
     by_cases c108 : t8 = 0
     ·
      rw [if_pos c108] at H
      have c108b0 : (t8 == 0) = true := beq_iff_eq.mpr c108
      have c108b1 : (t8 != 0) = false := bne_eq_false_iff_eq.mpr c108
      have hc108 := hid c108
      clear c108
      replace H := Option.bind_eq_some_iff.mp H
      obtain ⟨⟨t10, t11, t12, t13, t14, t15, t16, t17, t18, t19, t20, t21, t22, t23, t24, t25, t26, t27⟩, A109_, H⟩ := H
      dsimp only at H
      have A109 := hid A109_
      clear A109_
      simp only [Option.some.injEq, Prod.mk.injEq] at H
      obtain ⟨rfl, rfl, rfl, rfl, rfl, rfl, rfl, rfl, rfl, rfl, rfl, rfl, rfl, rfl, rfl, rfl, rfl⟩ := H
      have k110 := True.intro
      have k115 := True.intro
      go_wp2_with (first
       | ((with_reducible refine gate_d (N := 29) rfl ?_); clear k110; refine wl_dyn 25 #[.string t1] (ex_dyn Try.func25 (by kernel_rfl) (by kernel_rfl) ((fnv a1)) (by rw [hc88.out]; first | done | rfl) _ _ _ rfl rfl (by simp only [List.map_toArray, List.map_cons, List.map_nil]; rfl)) rfl ((i_forsyth_Read.calls k t1 t6 t7 t8 _ A89.out).mono ?_); rintro e_ w111 ⟨rfl, ln_t6, hb_⟩; have LN_t6 := hid ln_t6; clear ln_t6; replace BKr := hid (BKr.out.below hb_ BKr.out.lt); replace BKb5 := hid (BKb5.out.below hb_ BKb5.out.lt); replace HL := hid (HL.out.below hb_ HL.out.size); clear hb_)
       | ((with_reducible refine gate_d (N := 6) rfl ?_); obtain ⟨gb9, hgb9⟩ : ∃ g_, w111.heap.size = g_ := ⟨_, rfl⟩; refine ag_alloc boardT gb9 hgb9 rfl rfl ?_; intro w112 hb_ hB_ hs_; have GEb9 : Hid (w.heap.size ≤ gb9) := hid (by have := HL.out.size; omega); have NBr_b9 : Hid (g ≠ gb9) := hid (by have := BKr.out.lt; omega); have NBb9_r : Hid (gb9 ≠ g) := hid (by have := NBr_b9.out; omega); replace BKr := hid (BKr.out.below hb_ (by rw [← hgb9]; exact BKr.out.lt)); have NBb5_b9 : Hid (gb5 ≠ gb9) := hid (by have := BKb5.out.lt; omega); have NBb9_b5 : Hid (gb9 ≠ gb5) := hid (by have := NBb5_b9.out; omega); replace BKb5 := hid (BKb5.out.below hb_ (by rw [← hgb9]; exact BKb5.out.lt)); replace HL := hid (HL.out.below hb_ (GEb9.out)); have BKb9 := hid hB_; clear hb_ hB_ hs_ hgb9)
       | ((with_reducible refine gate_s (t := 25) (p := 6) rfl ?_); refine ag_store boardT gb9 0 (bv zL) (bv t6) (bv t6) BKb9.out (by rw [show (bv t6) = av (Value.int .i8) t6 from rfl, av_size]; exact LN_t6.out) (av_le zL_len) (av_one (fun _ => rfl)) (av_put zL_len LN_t6.out) rfl _ _ rfl rfl rfl ?_; intro w113 ho_ hB_; replace BKr := hid (BKr.out.off ho_ NBr_b9.out); replace BKb5 := hid (BKb5.out.off ho_ NBb5_b9.out); replace HL := hid (HL.out.off ho_ (.inr GEb9.out)); replace BKb9 := hid hB_; clear ho_ hB_)
       | ((with_reducible refine gate_d (N := 59) rfl ?_); refine ag_fix (.pointer (some ⟨gb5, 2, none⟩)) (ex_field 48 2 (.pointer (some ⟨gb5, 0, none⟩)) (.pointer (some ⟨gb5, 2, none⟩)) (fa48_2_0 gb5) _ rfl rfl) rfl ?_)
       | ((with_reducible refine gate_d (N := 60) rfl ?_); refine ag_fix (.int .i64 t4) (ex_get sT32 gb5 (2) (.int .i64 t4) (#[.int .i64 t2, .int .i64 t3, .int .i64 t4]) BKb5.out rfl _ rfl rfl) rfl ?_)
       | ((with_reducible refine gate_d (N := 34) rfl ?_); refine ag_fix (.agg (bv t6)) (ex_load boardT gb9 0 (bv t6) (bv t6) BKb9.out (av_le LN_t6.out) (av_ex LN_t6.out) _ rfl rfl) rfl ?_)
       | ((with_reducible refine gate_d (N := 36) rfl ?_); refine ag_fix (.pointer (some ⟨g, 3, none⟩)) (ex_field 40 3 (.pointer (some ⟨g, 0, none⟩)) (.pointer (some ⟨g, 3, none⟩)) (fa40_3_0 g) _ rfl rfl) rfl ?_)
       | ((with_reducible refine gate_d (N := 37) rfl ?_); refine ag_fix (.pointer (some ⟨g, 3, none⟩)) (ex_field 31 0 (.pointer (some ⟨g, 3, none⟩)) (.pointer (some ⟨g, 3, none⟩)) (fa31_0_3 g) _ rfl rfl) rfl ?_)
       | ((with_reducible refine gate_d (N := 38) rfl ?_); refine ag_fix (.pointer (some ⟨g, 3, none⟩)) (ex_field 27 0 (.pointer (some ⟨g, 3, none⟩)) (.pointer (some ⟨g, 3, none⟩)) (fa27_0_3 g) _ rfl rfl) rfl ?_)
       | ((with_reducible refine gate_s (t := 25) (p := 38) rfl ?_); refine ag_store boardT g 3 (yv [.string s0, .int .i64 s1, .int .i64 s2] (Value.int .i8) s3 [.int .i64 s4, .int .i64 s5, .int .i64 s6, .int .i64 s7, .int .i64 s8, .int .i64 s9, .bool s10, .bool s11, .bool s12, .int .i64 s13, .int .i64 s14, .int .i64 s15, s16]) (bv t6) (yv [.string s0, .int .i64 s1, .int .i64 s2] (Value.int .i8) t6 [.int .i64 s4, .int .i64 s5, .int .i64 s6, .int .i64 s7, .int .i64 s8, .int .i64 s9, .bool s10, .bool s11, .bool s12, .int .i64 s13, .int .i64 s14, .int .i64 s15, s16]) BKr.out (by rw [show (bv t6) = av (Value.int .i8) t6 from rfl, av_size]; exact LN_t6.out) (yv_le (a := 3) (n := 64) (c := 13) rfl LN_s3.out rfl (m := 67) (by decide)) (av_one (fun _ => rfl)) (yv_puta (a := 3) (n := 64) rfl LN_s3.out LN_t6.out) rfl _ _ rfl rfl rfl ?_; intro w114 ho_ hB_; replace BKb5 := hid (BKb5.out.off ho_ NBb5_r.out); replace BKb9 := hid (BKb9.out.off ho_ NBb9_r.out); replace HL := hid (HL.out.off ho_ (.inl rfl)); replace BKr := hid hB_; clear ho_ hB_)
       | ((with_reducible refine gate_d (N := 40) rfl ?_); refine ag_fix (.agg #[.int .i64 t2, .int .i64 t3, .int .i64 t4]) (ex_load aT48 gb5 0 #[.int .i64 t2, .int .i64 t3, .int .i64 t4] #[.int .i64 t2, .int .i64 t3, .int .i64 t4] BKb5.out (by simp) rfl _ rfl rfl) rfl ?_)
       | (go_at_call 21; clear k115; refine (i_task_reader_step.calls s0 s1 s2 t6 s4 s5 s6 s7 s8 s9 s10 s11 s12 s13 s14 s15 s16 t2 t3 t4 LN_t6.out t10 t11 t12 t13 t14 t15 t16 t17 t18 t19 t20 t21 t22 t23 t24 t25 t26 t27 g _ BKr.out A109.out).mono ?_; rintro e_ w116 ⟨rfl, ln_t14, hB_, hx_⟩; have LN_t14 := hid ln_t14; clear ln_t14; replace BKb5 := hid (BKb5.out.bex hx_ BKb5.out.lt NBb5_r.out); replace BKb9 := hid (BKb9.out.bex hx_ BKb9.out.lt NBb9_r.out); replace HL := hid (HL.out.bex hx_ HL.out.size (.inl rfl)); replace BKr := hid hB_; clear hx_ hB_))
      (try simp only [Act.put, sI, sZ, sS])
      (first | go_end0 | refine bodyPost_ret (results_none rfl _ _ _) rfl ?_)
      exact ⟨by first | rfl | (simp; done), LN_t14.out, (by exact BKr.out), HL.out⟩
     ·
      rw [if_neg c108] at H
      have c108b0 : (t8 == 0) = false := beq_eq_false_iff_ne.mpr c108
      have c108b1 : (t8 != 0) = true := bne_iff_ne.mpr c108
      have hc108 := hid c108
      clear c108
      simp only [Option.some.injEq, Prod.mk.injEq] at H
      obtain ⟨rfl, rfl, rfl, rfl, rfl, rfl, rfl, rfl, rfl, rfl, rfl, rfl, rfl, rfl, rfl, rfl, rfl⟩ := H
      have k117 := True.intro
      go_wp2_with (first
       | ((with_reducible refine gate_d (N := 29) rfl ?_); clear k117; refine wl_dyn 25 #[.string t1] (ex_dyn Try.func25 (by kernel_rfl) (by kernel_rfl) ((fnv a1)) (by rw [hc88.out]; first | done | rfl) _ _ _ rfl rfl (by simp only [List.map_toArray, List.map_cons, List.map_nil]; rfl)) rfl ((i_forsyth_Read.calls k t1 t6 t7 t8 _ A89.out).mono ?_); rintro e_ w118 ⟨rfl, ln_t6, hb_⟩; have LN_t6 := hid ln_t6; clear ln_t6; replace BKr := hid (BKr.out.below hb_ BKr.out.lt); replace BKb5 := hid (BKb5.out.below hb_ BKb5.out.lt); replace HL := hid (HL.out.below hb_ HL.out.size); clear hb_)
       | ((with_reducible refine gate_d (N := 6) rfl ?_); obtain ⟨gb9, hgb9⟩ : ∃ g_, w118.heap.size = g_ := ⟨_, rfl⟩; refine ag_alloc boardT gb9 hgb9 rfl rfl ?_; intro w119 hb_ hB_ hs_; have GEb9 : Hid (w.heap.size ≤ gb9) := hid (by have := HL.out.size; omega); have NBr_b9 : Hid (g ≠ gb9) := hid (by have := BKr.out.lt; omega); have NBb9_r : Hid (gb9 ≠ g) := hid (by have := NBr_b9.out; omega); replace BKr := hid (BKr.out.below hb_ (by rw [← hgb9]; exact BKr.out.lt)); have NBb5_b9 : Hid (gb5 ≠ gb9) := hid (by have := BKb5.out.lt; omega); have NBb9_b5 : Hid (gb9 ≠ gb5) := hid (by have := NBb5_b9.out; omega); replace BKb5 := hid (BKb5.out.below hb_ (by rw [← hgb9]; exact BKb5.out.lt)); replace HL := hid (HL.out.below hb_ (GEb9.out)); have BKb9 := hid hB_; clear hb_ hB_ hs_ hgb9)
       | ((with_reducible refine gate_s (t := 25) (p := 6) rfl ?_); refine ag_store boardT gb9 0 (bv zL) (bv t6) (bv t6) BKb9.out (by rw [show (bv t6) = av (Value.int .i8) t6 from rfl, av_size]; exact LN_t6.out) (av_le zL_len) (av_one (fun _ => rfl)) (av_put zL_len LN_t6.out) rfl _ _ rfl rfl rfl ?_; intro w120 ho_ hB_; replace BKr := hid (BKr.out.off ho_ NBr_b9.out); replace BKb5 := hid (BKb5.out.off ho_ NBb5_b9.out); replace HL := hid (HL.out.off ho_ (.inr GEb9.out)); replace BKb9 := hid hB_; clear ho_ hB_)
       | ((with_reducible refine gate_d (N := 59) rfl ?_); refine ag_fix (.pointer (some ⟨gb5, 2, none⟩)) (ex_field 48 2 (.pointer (some ⟨gb5, 0, none⟩)) (.pointer (some ⟨gb5, 2, none⟩)) (fa48_2_0 gb5) _ rfl rfl) rfl ?_)
       | ((with_reducible refine gate_d (N := 60) rfl ?_); refine ag_fix (.int .i64 t4) (ex_get sT32 gb5 (2) (.int .i64 t4) (#[.int .i64 t2, .int .i64 t3, .int .i64 t4]) BKb5.out rfl _ rfl rfl) rfl ?_)
       | ((with_reducible refine gate_d (N := 72) rfl ?_); refine ag_fix (.pointer (some ⟨g, 1, none⟩)) (ex_field 40 1 (.pointer (some ⟨g, 0, none⟩)) (.pointer (some ⟨g, 1, none⟩)) (fa40_1_0 g) _ rfl rfl) rfl ?_)
       | ((with_reducible refine gate_d (N := 73) rfl ?_); refine ag_fix (.int .i64 s1) (ex_get sT3 g (1) (.int .i64 s1) ((yv [.string s0, .int .i64 s1, .int .i64 s2] (Value.int .i8) s3 [.int .i64 s4, .int .i64 s5, .int .i64 s6, .int .i64 s7, .int .i64 s8, .int .i64 s9, .bool s10, .bool s11, .bool s12, .int .i64 s13, .int .i64 s14, .int .i64 s15, s16])) BKr.out ((yv_pre (a := 3) rfl 1 (by decide)).trans rfl) _ rfl rfl) rfl ?_)
       | ((with_reducible refine gate_d (N := 77) rfl ?_); refine ag_fix (.pointer (some ⟨g, 1, none⟩)) (ex_field 40 1 (.pointer (some ⟨g, 0, none⟩)) (.pointer (some ⟨g, 1, none⟩)) (fa40_1_0 g) _ rfl rfl) rfl ?_)
       | ((with_reducible refine gate_s (t := 3) (p := 77) rfl ?_); refine ag_set sT3 g (1) (.int .i64 (wrap64 (s1 + t7))) (yv [.string s0, .int .i64 s1, .int .i64 s2] (Value.int .i8) s3 [.int .i64 s4, .int .i64 s5, .int .i64 s6, .int .i64 s7, .int .i64 s8, .int .i64 s9, .bool s10, .bool s11, .bool s12, .int .i64 s13, .int .i64 s14, .int .i64 s15, s16]) (yv [.string s0, .int .i64 (wrap64 (s1 + t7)), .int .i64 s2] (Value.int .i8) s3 [.int .i64 s4, .int .i64 s5, .int .i64 s6, .int .i64 s7, .int .i64 s8, .int .i64 s9, .bool s10, .bool s11, .bool s12, .int .i64 s13, .int .i64 s14, .int .i64 s15, s16]) BKr.out (yv_lt (a := 3) (n := 64) (c := 13) rfl LN_s3.out rfl (m := 1) (by decide)) rfl rfl ((yv_setp (a := 3) rfl 1 (by decide) _).trans rfl) rfl _ _ rfl rfl rfl ?_; intro w121 ho_ hB_; replace BKb5 := hid (BKb5.out.off ho_ NBb5_r.out); replace BKb9 := hid (BKb9.out.off ho_ NBb9_r.out); replace HL := hid (HL.out.off ho_ (.inl rfl)); replace BKr := hid hB_; clear ho_ hB_)
       | ((with_reducible refine gate_d (N := 79) rfl ?_); refine ag_fix (.pointer (some ⟨g, 2, none⟩)) (ex_field 40 2 (.pointer (some ⟨g, 0, none⟩)) (.pointer (some ⟨g, 2, none⟩)) (fa40_2_0 g) _ rfl rfl) rfl ?_)
       | ((with_reducible refine gate_s (t := 32) (p := 79) rfl ?_); refine ag_set sT32 g (2) (.int .i64 2) (yv [.string s0, .int .i64 (wrap64 (s1 + t7)), .int .i64 s2] (Value.int .i8) s3 [.int .i64 s4, .int .i64 s5, .int .i64 s6, .int .i64 s7, .int .i64 s8, .int .i64 s9, .bool s10, .bool s11, .bool s12, .int .i64 s13, .int .i64 s14, .int .i64 s15, s16]) (yv [.string s0, .int .i64 (wrap64 (s1 + t7)), .int .i64 2] (Value.int .i8) s3 [.int .i64 s4, .int .i64 s5, .int .i64 s6, .int .i64 s7, .int .i64 s8, .int .i64 s9, .bool s10, .bool s11, .bool s12, .int .i64 s13, .int .i64 s14, .int .i64 s15, s16]) BKr.out (yv_lt (a := 3) (n := 64) (c := 13) rfl LN_s3.out rfl (m := 2) (by decide)) rfl rfl ((yv_setp (a := 3) rfl 2 (by decide) _).trans rfl) rfl _ _ rfl rfl rfl ?_; intro w122 ho_ hB_; replace BKb5 := hid (BKb5.out.off ho_ NBb5_r.out); replace BKb9 := hid (BKb9.out.off ho_ NBb9_r.out); replace HL := hid (HL.out.off ho_ (.inl rfl)); replace BKr := hid hB_; clear ho_ hB_))
      (try simp only [Act.put, sI, sZ, sS])
      (first | go_end0 | refine bodyPost_ret (results_none rfl _ _ _) rfl ?_)
      exact ⟨by first | rfl | (simp; done), LN_s3.out, (by exact BKr.out), HL.out⟩
    ·
     rw [if_neg c107] at H
     have c107b0 : (t4 == 0) = false := beq_eq_false_iff_ne.mpr c107
     have c107b1 : (t4 != 0) = true := bne_iff_ne.mpr c107
     have hc107 := hid c107
     clear c107
     replace H := Option.bind_eq_some_iff.mp H
     obtain ⟨⟨t28, t29, t30, t31, t32, t33, t34, t35, t36, t37, t38, t39, t40, t41, t42, t43, t44, t45⟩, A123_, H⟩ := H
     dsimp only at H
     have A123 := hid A123_
     clear A123_
     simp only [Option.some.injEq, Prod.mk.injEq] at H
     obtain ⟨rfl, rfl, rfl, rfl, rfl, rfl, rfl, rfl, rfl, rfl, rfl, rfl, rfl, rfl, rfl, rfl, rfl⟩ := H
     have k124 := True.intro
     have k128 := True.intro
     go_wp2_with (first
      | ((with_reducible refine gate_d (N := 29) rfl ?_); clear k124; refine wl_dyn 25 #[.string t1] (ex_dyn Try.func25 (by kernel_rfl) (by kernel_rfl) ((fnv a1)) (by rw [hc88.out]; first | done | rfl) _ _ _ rfl rfl (by simp only [List.map_toArray, List.map_cons, List.map_nil]; rfl)) rfl ((i_forsyth_Read.calls k t1 t6 t7 t8 _ A89.out).mono ?_); rintro e_ w125 ⟨rfl, ln_t6, hb_⟩; have LN_t6 := hid ln_t6; clear ln_t6; replace BKr := hid (BKr.out.below hb_ BKr.out.lt); replace BKb5 := hid (BKb5.out.below hb_ BKb5.out.lt); replace HL := hid (HL.out.below hb_ HL.out.size); clear hb_)
      | ((with_reducible refine gate_d (N := 6) rfl ?_); obtain ⟨gb9, hgb9⟩ : ∃ g_, w125.heap.size = g_ := ⟨_, rfl⟩; refine ag_alloc boardT gb9 hgb9 rfl rfl ?_; intro w126 hb_ hB_ hs_; have GEb9 : Hid (w.heap.size ≤ gb9) := hid (by have := HL.out.size; omega); have NBr_b9 : Hid (g ≠ gb9) := hid (by have := BKr.out.lt; omega); have NBb9_r : Hid (gb9 ≠ g) := hid (by have := NBr_b9.out; omega); replace BKr := hid (BKr.out.below hb_ (by rw [← hgb9]; exact BKr.out.lt)); have NBb5_b9 : Hid (gb5 ≠ gb9) := hid (by have := BKb5.out.lt; omega); have NBb9_b5 : Hid (gb9 ≠ gb5) := hid (by have := NBb5_b9.out; omega); replace BKb5 := hid (BKb5.out.below hb_ (by rw [← hgb9]; exact BKb5.out.lt)); replace HL := hid (HL.out.below hb_ (GEb9.out)); have BKb9 := hid hB_; clear hb_ hB_ hs_ hgb9)
      | ((with_reducible refine gate_s (t := 25) (p := 6) rfl ?_); refine ag_store boardT gb9 0 (bv zL) (bv t6) (bv t6) BKb9.out (by rw [show (bv t6) = av (Value.int .i8) t6 from rfl, av_size]; exact LN_t6.out) (av_le zL_len) (av_one (fun _ => rfl)) (av_put zL_len LN_t6.out) rfl _ _ rfl rfl rfl ?_; intro w127 ho_ hB_; replace BKr := hid (BKr.out.off ho_ NBr_b9.out); replace BKb5 := hid (BKb5.out.off ho_ NBb5_b9.out); replace HL := hid (HL.out.off ho_ (.inr GEb9.out)); replace BKb9 := hid hB_; clear ho_ hB_)
      | ((with_reducible refine gate_d (N := 59) rfl ?_); refine ag_fix (.pointer (some ⟨gb5, 2, none⟩)) (ex_field 48 2 (.pointer (some ⟨gb5, 0, none⟩)) (.pointer (some ⟨gb5, 2, none⟩)) (fa48_2_0 gb5) _ rfl rfl) rfl ?_)
      | ((with_reducible refine gate_d (N := 60) rfl ?_); refine ag_fix (.int .i64 t4) (ex_get sT32 gb5 (2) (.int .i64 t4) (#[.int .i64 t2, .int .i64 t3, .int .i64 t4]) BKb5.out rfl _ rfl rfl) rfl ?_)
      | ((with_reducible refine gate_d (N := 63) rfl ?_); refine ag_fix (.agg #[.int .i64 t2, .int .i64 t3, .int .i64 t4]) (ex_load aT48 gb5 0 #[.int .i64 t2, .int .i64 t3, .int .i64 t4] #[.int .i64 t2, .int .i64 t3, .int .i64 t4] BKb5.out (by simp) rfl _ rfl rfl) rfl ?_)
      | (go_at_call 21; clear k128; refine (i_task_reader_step.calls s0 s1 s2 s3 s4 s5 s6 s7 s8 s9 s10 s11 s12 s13 s14 s15 s16 t2 t3 t4 LN_s3.out t28 t29 t30 t31 t32 t33 t34 t35 t36 t37 t38 t39 t40 t41 t42 t43 t44 t45 g _ BKr.out A123.out).mono ?_; rintro e_ w129 ⟨rfl, ln_t32, hB_, hx_⟩; have LN_t32 := hid ln_t32; clear ln_t32; replace BKb5 := hid (BKb5.out.bex hx_ BKb5.out.lt NBb5_r.out); replace BKb9 := hid (BKb9.out.bex hx_ BKb9.out.lt NBb9_r.out); replace HL := hid (HL.out.bex hx_ HL.out.size (.inl rfl)); replace BKr := hid hB_; clear hx_ hB_))
     (try simp only [Act.put, sI, sZ, sS])
     (first | go_end0 | refine bodyPost_ret (results_none rfl _ _ _) rfl ?_)
     exact ⟨by first | rfl | (simp; done), LN_t32.out, (by exact BKr.out), HL.out⟩
  ·
   rw [if_neg c88] at H
   have c88b0 : (a1 == 25) = false := beq_eq_false_iff_ne.mpr c88
   have c88b1 : (a1 != 25) = true := bne_iff_ne.mpr c88
   have hc88 := hid c88
   clear c88
   by_cases c130 : a1 = 26
   ·
    rw [if_pos c130] at H
    have c130b0 : (a1 == 26) = true := beq_iff_eq.mpr c130
    have c130b1 : (a1 != 26) = false := bne_eq_false_iff_eq.mpr c130
    have hc130 := hid c130
    clear c130
    have H' := hid H
    clear H
    go_enter Try.func24, Try.ntmps24
    go_wp2_with (first
     | ((with_reducible refine gate_d (N := 11) rfl ?_); refine ag_fix (.pointer (some ⟨g, 2, none⟩)) (ex_field 40 2 (.pointer (some ⟨g, 0, none⟩)) (.pointer (some ⟨g, 2, none⟩)) (fa40_2_0 g) _ rfl rfl) rfl ?_)
     | ((with_reducible refine gate_d (N := 12) rfl ?_); refine ag_fix (.int .i64 s2) (ex_get sT32 g (2) (.int .i64 s2) ((yv [.string s0, .int .i64 s1, .int .i64 s2] (Value.int .i8) s3 [.int .i64 s4, .int .i64 s5, .int .i64 s6, .int .i64 s7, .int .i64 s8, .int .i64 s9, .bool s10, .bool s11, .bool s12, .int .i64 s13, .int .i64 s14, .int .i64 s15, s16])) BKr.out ((yv_pre (a := 3) rfl 2 (by decide)).trans rfl) _ rfl rfl) rfl ?_))
    (try simp only [Act.put, sI, sZ, sS])
    have WR64 := i64_w
    have WR32 := i32_w
    have WR8 := u8_w
    have WRU := u32_w
    apply sq_join (F := fun gb5 w'_ => (Bex g w.heap.size w w'_) ∧ (Blk w'_ g 40 (yv [.string s0, .int .i64 s1, .int .i64 s2] (Value.int .i8) s3 [.int .i64 s4, .int .i64 s5, .int .i64 s6, .int .i64 s7, .int .i64 s8, .int .i64 s9, .bool s10, .bool s11, .bool s12, .int .i64 s13, .int .i64 s14, .int .i64 s15, s16])) ∧ (Blk w'_ gb5 48 #[.int .i64 t2, .int .i64 t3, .int .i64 t4]) ∧ (w.heap.size ≤ gb5) ∧ (g ≠ gb5) ∧ (gb5 ≠ g))
    ·
     refine st_region (fun w'_ => Bex g w.heap.size w w'_ ∧ Blk w'_ g 40 (yv [.string s0, .int .i64 s1, .int .i64 s2] (Value.int .i8) s3 [.int .i64 s4, .int .i64 s5, .int .i64 s6, .int .i64 s7, .int .i64 s8, .int .i64 s9, .bool s10, .bool s11, .bool s12, .int .i64 s13, .int .i64 s14, .int .i64 s15, s16]) ∧ True) [8, 14] (.pure 0 (.pure 1 (.pure 2 (.take 3 (.pure 4 (.pure 5 (.pure 6 (.take 7 (.f2 8 (.pure 9 (.pure 10 (.pure 11 (.act 12 (.pure 13 (.act 14 .nil)))))) 12 (.act 8 (.pure 9 (.pure 10 (.pure 11 (.pure 13 (.act 14 .nil))))))))))))))) (by kernel_rfl) (by kernel_rfl) (by kernel_rfl) rfl ?_
     intro w132 hb_
     replace BKr := hid (BKr.out.below hb_ BKr.out.lt)
     replace HL := hid (HL.out.below hb_ HL.out.size)
     clear hb_
     refine st_pure (.pointer (some ⟨g, 0, none⟩)) rfl (fun w'_ => ex_mv (.tmp 0) (.inl rfl) _ rfl) rfl rfl ?_
     intro ts_ ht_; simp only [sI, sZ, sS] at ht_; subst ht_
     refine st_pure (.pointer (some ⟨g, 0, none⟩)) rfl (fun w'_ => by go_simp <;> (unfold wrap64; omega)) rfl rfl ?_
     intro ts_ ht_; simp only [sI, sZ, sS] at ht_; subst ht_
     refine st_pure (.pointer (some ⟨g, 0, none⟩)) rfl (fun w'_ => ex_field 40 0 (.pointer (some ⟨g, 0, none⟩)) (.pointer (some ⟨g, 0, none⟩)) (fa40_0_0 g) _ rfl rfl) rfl rfl ?_
     intro ts_ ht_; simp only [sI, sZ, sS] at ht_; subst ht_
     refine st_take (.string s0) ⟨HL.out, BKr.out, trivial⟩ rfl (fun w'_ hS_ => ex_get sT9 g (0) (.string s0) ((yv [.string s0, .int .i64 s1, .int .i64 s2] (Value.int .i8) s3 [.int .i64 s4, .int .i64 s5, .int .i64 s6, .int .i64 s7, .int .i64 s8, .int .i64 s9, .bool s10, .bool s11, .bool s12, .int .i64 s13, .int .i64 s14, .int .i64 s15, s16])) hS_.2.1 ((yv_pre (a := 3) rfl 0 (by decide)).trans rfl) _ rfl rfl) rfl rfl ?_
     intro ts_ ht_; simp only [sI, sZ, sS] at ht_; subst ht_
     refine st_pure (.pointer (some ⟨g, 0, none⟩)) rfl (fun w'_ => ex_mv (.tmp 0) (.inl rfl) _ rfl) rfl rfl ?_
     intro ts_ ht_; simp only [sI, sZ, sS] at ht_; subst ht_
     refine st_pure (.pointer (some ⟨g, 0, none⟩)) rfl (fun w'_ => by go_simp <;> (unfold wrap64; omega)) rfl rfl ?_
     intro ts_ ht_; simp only [sI, sZ, sS] at ht_; subst ht_
     refine st_pure (.pointer (some ⟨g, 1, none⟩)) rfl (fun w'_ => ex_field 40 1 (.pointer (some ⟨g, 0, none⟩)) (.pointer (some ⟨g, 1, none⟩)) (fa40_1_0 g) _ rfl rfl) rfl rfl ?_
     intro ts_ ht_; simp only [sI, sZ, sS] at ht_; subst ht_
     refine st_take (.int .i64 s1) ⟨HL.out, BKr.out, trivial⟩ rfl (fun w'_ hS_ => ex_get sT3 g (1) (.int .i64 s1) ((yv [.string s0, .int .i64 s1, .int .i64 s2] (Value.int .i8) s3 [.int .i64 s4, .int .i64 s5, .int .i64 s6, .int .i64 s7, .int .i64 s8, .int .i64 s9, .bool s10, .bool s11, .bool s12, .int .i64 s13, .int .i64 s14, .int .i64 s15, s16])) hS_.2.1 ((yv_pre (a := 3) rfl 1 (by decide)).trans rfl) _ rfl rfl) rfl rfl ?_
     intro ts_ ht_; simp only [sI, sZ, sS] at ht_; subst ht_
     refine st_f2 ?_ ?_
     ·
      refine st_op rfl (fun Q'_ hQ_ => ?_)
      refine wl_call 36 #[.string s0, .int .i64 s1] (by go_simp) rfl ((i_lex_Line.calls s0 s1 t1 t2 t3 t4 _ A87.out).mono ?_)
      rintro e_ w134 ⟨rfl, hb_⟩
      replace BKr := hid (BKr.out.below hb_ BKr.out.lt)
      replace HL := hid (HL.out.below hb_ HL.out.size)
      clear hb_
      refine ⟨_, rfl, ?_⟩
      refine hQ_ _ _ (fun h_ => absurd h_ (by decide)) ?_
      clear hQ_ Q'_
      simp only [Act.put, sI, sZ, sS]
      refine st_pure (.tuple #[.string t1, .agg #[.int .i64 t2, .int .i64 t3, .int .i64 t4]]) rfl (fun w'_ => ex_mv (.tmp 23) (.inl rfl) _ rfl) rfl rfl ?_
      intro ts_ ht_; simp only [sI, sZ, sS] at ht_; subst ht_
      refine st_pure (.string t1) rfl (fun w'_ => by go_simp <;> (unfold wrap64; omega)) rfl rfl ?_
      intro ts_ ht_; simp only [sI, sZ, sS] at ht_; subst ht_
      refine st_pure (.agg #[.int .i64 t2, .int .i64 t3, .int .i64 t4]) rfl (fun w'_ => by go_simp <;> (unfold wrap64; omega)) rfl rfl ?_
      intro ts_ ht_; simp only [sI, sZ, sS] at ht_; subst ht_
      refine st_act ?_
      refine st_op rfl (fun Q'_ hQ_ => ?_)
      (with_reducible refine gate_d (N := 5) rfl ?_)
      obtain ⟨gb5, hgb5⟩ : ∃ g_, w134.heap.size = g_ := ⟨_, rfl⟩
      refine ag_alloc aT48 gb5 hgb5 rfl rfl ?_
      intro w135 hb_ hB_ hs_
      have GEb5 : Hid (w.heap.size ≤ gb5) := hid (by have := HL.out.size; omega)
      have NBr_b5 : Hid (g ≠ gb5) := hid (by have := BKr.out.lt; omega)
      have NBb5_r : Hid (gb5 ≠ g) := hid (by have := NBr_b5.out; omega)
      replace BKr := hid (BKr.out.below hb_ (by rw [← hgb5]; exact BKr.out.lt))
      replace HL := hid (HL.out.below hb_ (GEb5.out))
      have BKb5 := hid hB_
      clear hb_ hB_ hs_ hgb5
      refine act_end ?_
      refine hQ_ _ _ (fun _ => ⟨HL.out, BKr.out, trivial⟩) ?_
      clear hQ_ Q'_
      simp only [Act.put, sI, sZ, sS]
      refine st_pure (.string t1) rfl (fun w'_ => ex_mv (.tmp 24) (.inr rfl) _ rfl) rfl rfl ?_
      intro ts_ ht_; simp only [sI, sZ, sS] at ht_; subst ht_
      refine st_act ?_
      refine st_op rfl (fun Q'_ hQ_ => ?_)
      (with_reducible refine gate_s (t := 48) (p := 5) rfl ?_)
      refine ag_store aT48 gb5 0 #[.int .i64 0, .int .i64 0, .int .i64 0] #[.int .i64 t2, .int .i64 t3, .int .i64 t4] #[.int .i64 t2, .int .i64 t3, .int .i64 t4] BKb5.out rfl (by simp) (by intro v_ hv_; simp at hv_; rcases hv_ with rfl | rfl | rfl <;> first | rfl) rfl rfl _ _ rfl rfl rfl ?_
      intro w136 ho_ hB_
      replace BKr := hid (BKr.out.off ho_ NBr_b5.out)
      replace HL := hid (HL.out.off ho_ (.inr GEb5.out))
      replace BKb5 := hid hB_
      clear ho_ hB_
      refine act_end ?_
      refine hQ_ _ _ (fun h_ => absurd h_ (by decide)) ?_
      clear hQ_ Q'_
      simp only [Act.put]
      exact st_end ⟨rfl, gb5, rfl, HL.out, BKr.out, BKb5.out, GEb5.out, NBr_b5.out, NBb5_r.out⟩
     ·
      refine st_op rfl (fun Q'_ hQ_ => ?_)
      (with_reducible refine gate_d (N := 5) rfl ?_)
      obtain ⟨gb5, hgb5⟩ : ∃ g_, w132.heap.size = g_ := ⟨_, rfl⟩
      refine ag_alloc aT48 gb5 hgb5 rfl rfl ?_
      intro w137 hb_ hB_ hs_
      have GEb5 : Hid (w.heap.size ≤ gb5) := hid (by have := HL.out.size; omega)
      have NBr_b5 : Hid (g ≠ gb5) := hid (by have := BKr.out.lt; omega)
      have NBb5_r : Hid (gb5 ≠ g) := hid (by have := NBr_b5.out; omega)
      replace BKr := hid (BKr.out.below hb_ (by rw [← hgb5]; exact BKr.out.lt))
      replace HL := hid (HL.out.below hb_ (GEb5.out))
      have BKb5 := hid hB_
      clear hb_ hB_ hs_ hgb5
      refine act_end ?_
      refine hQ_ _ _ (fun _ => ⟨HL.out, BKr.out, trivial⟩) ?_
      clear hQ_ Q'_
      simp only [Act.put, sI, sZ, sS]
      refine st_act ?_
      refine st_op rfl (fun Q'_ hQ_ => ?_)
      refine wl_call 36 #[.string s0, .int .i64 s1] (by go_simp) rfl ((i_lex_Line.calls s0 s1 t1 t2 t3 t4 _ A87.out).mono ?_)
      rintro e_ w139 ⟨rfl, hb_⟩
      replace BKr := hid (BKr.out.below hb_ BKr.out.lt)
      replace BKb5 := hid (BKb5.out.below hb_ BKb5.out.lt)
      replace HL := hid (HL.out.below hb_ HL.out.size)
      clear hb_
      refine ⟨_, rfl, ?_⟩
      refine hQ_ _ _ (fun h_ => absurd h_ (by decide)) ?_
      clear hQ_ Q'_
      simp only [Act.put, sI, sZ, sS]
      refine st_pure (.tuple #[.string t1, .agg #[.int .i64 t2, .int .i64 t3, .int .i64 t4]]) rfl (fun w'_ => ex_mv (.tmp 23) (.inl rfl) _ rfl) rfl rfl ?_
      intro ts_ ht_; simp only [sI, sZ, sS] at ht_; subst ht_
      refine st_pure (.string t1) rfl (fun w'_ => by go_simp <;> (unfold wrap64; omega)) rfl rfl ?_
      intro ts_ ht_; simp only [sI, sZ, sS] at ht_; subst ht_
      refine st_pure (.agg #[.int .i64 t2, .int .i64 t3, .int .i64 t4]) rfl (fun w'_ => by go_simp <;> (unfold wrap64; omega)) rfl rfl ?_
      intro ts_ ht_; simp only [sI, sZ, sS] at ht_; subst ht_
      refine st_pure (.string t1) rfl (fun w'_ => ex_mv (.tmp 24) (.inr rfl) _ rfl) rfl rfl ?_
      intro ts_ ht_; simp only [sI, sZ, sS] at ht_; subst ht_
      refine st_act ?_
      refine st_op rfl (fun Q'_ hQ_ => ?_)
      (with_reducible refine gate_s (t := 48) (p := 5) rfl ?_)
      refine ag_store aT48 gb5 0 #[.int .i64 0, .int .i64 0, .int .i64 0] #[.int .i64 t2, .int .i64 t3, .int .i64 t4] #[.int .i64 t2, .int .i64 t3, .int .i64 t4] BKb5.out rfl (by simp) (by intro v_ hv_; simp at hv_; rcases hv_ with rfl | rfl | rfl <;> first | rfl) rfl rfl _ _ rfl rfl rfl ?_
      intro w140 ho_ hB_
      replace BKr := hid (BKr.out.off ho_ NBr_b5.out)
      replace HL := hid (HL.out.off ho_ (.inr GEb5.out))
      replace BKb5 := hid hB_
      clear ho_ hB_
      refine act_end ?_
      refine hQ_ _ _ (fun h_ => absurd h_ (by decide)) ?_
      clear hQ_ Q'_
      simp only [Act.put]
      exact st_end ⟨rfl, gb5, rfl, HL.out, BKr.out, BKb5.out, GEb5.out, NBr_b5.out, NBb5_r.out⟩
    rintro gb5 w141 ⟨HL_, BKr_, BKb5_, GEb5_, NBr_b5_, NBb5_r_⟩
    clear HL BKr
    have HL := hid HL_
    clear HL_
    have BKr := hid BKr_
    clear BKr_
    have BKb5 := hid BKb5_
    clear BKb5_
    have GEb5 := hid GEb5_
    clear GEb5_
    have NBr_b5 := hid NBr_b5_
    clear NBr_b5_
    have NBb5_r := hid NBb5_r_
    clear NBb5_r_
    (try simp only [Act.put, sI, sZ, sS])
    have H := H'.out
    clear H'
    replace H := Option.bind_eq_some_iff.mp H
    obtain ⟨⟨t46, t47, t48⟩, A131_, H⟩ := H
    dsimp only at H
    have A131 := hid A131_
    clear A131_
    by_cases c142 : t48 = 2
    ·
     rw [if_pos c142] at H
     have c142b0 : (t48 == 2) = true := beq_iff_eq.mpr c142
     have c142b1 : (t48 != 2) = false := bne_eq_false_iff_eq.mpr c142
     have hc142 := hid c142
     clear c142
     simp only [Option.some.injEq, Prod.mk.injEq] at H
     obtain ⟨rfl, rfl, rfl, rfl, rfl, rfl, rfl, rfl, rfl, rfl, rfl, rfl, rfl, rfl, rfl, rfl, rfl⟩ := H
     have k143 := True.intro
     go_wp2_with (first
      | ((with_reducible refine gate_d (N := 29) rfl ?_); clear k143; refine wl_dyn 26 #[.string t1] (ex_dyn Try.func26 (by kernel_rfl) (by kernel_rfl) ((fnv a1)) (by rw [hc130.out]; first | done | rfl) _ _ _ rfl rfl (by simp only [List.map_toArray, List.map_cons, List.map_nil]; rfl)) rfl ((i_roll_Read.calls k t1 t46 t47 t48 _ A131.out).mono ?_); rintro e_ w144 ⟨rfl, ln_t46, hb_⟩; have LN_t46 := hid ln_t46; clear ln_t46; replace BKr := hid (BKr.out.below hb_ BKr.out.lt); replace BKb5 := hid (BKb5.out.below hb_ BKb5.out.lt); replace HL := hid (HL.out.below hb_ HL.out.size); clear hb_)
      | ((with_reducible refine gate_d (N := 6) rfl ?_); obtain ⟨gb49, hgb49⟩ : ∃ g_, w144.heap.size = g_ := ⟨_, rfl⟩; refine ag_alloc boardT gb49 hgb49 rfl rfl ?_; intro w145 hb_ hB_ hs_; have GEb49 : Hid (w.heap.size ≤ gb49) := hid (by have := HL.out.size; omega); have NBr_b49 : Hid (g ≠ gb49) := hid (by have := BKr.out.lt; omega); have NBb49_r : Hid (gb49 ≠ g) := hid (by have := NBr_b49.out; omega); replace BKr := hid (BKr.out.below hb_ (by rw [← hgb49]; exact BKr.out.lt)); have NBb5_b49 : Hid (gb5 ≠ gb49) := hid (by have := BKb5.out.lt; omega); have NBb49_b5 : Hid (gb49 ≠ gb5) := hid (by have := NBb5_b49.out; omega); replace BKb5 := hid (BKb5.out.below hb_ (by rw [← hgb49]; exact BKb5.out.lt)); replace HL := hid (HL.out.below hb_ (GEb49.out)); have BKb49 := hid hB_; clear hb_ hB_ hs_ hgb49)
      | ((with_reducible refine gate_s (t := 25) (p := 6) rfl ?_); refine ag_store boardT gb49 0 (bv zL) (bv t46) (bv t46) BKb49.out (by rw [show (bv t46) = av (Value.int .i8) t46 from rfl, av_size]; exact LN_t46.out) (av_le zL_len) (av_one (fun _ => rfl)) (av_put zL_len LN_t46.out) rfl _ _ rfl rfl rfl ?_; intro w146 ho_ hB_; replace BKr := hid (BKr.out.off ho_ NBr_b49.out); replace BKb5 := hid (BKb5.out.off ho_ NBb5_b49.out); replace HL := hid (HL.out.off ho_ (.inr GEb49.out)); replace BKb49 := hid hB_; clear ho_ hB_)
      | ((with_reducible refine gate_d (N := 49) rfl ?_); refine ag_fix (.pointer (some ⟨g, 1, none⟩)) (ex_field 40 1 (.pointer (some ⟨g, 0, none⟩)) (.pointer (some ⟨g, 1, none⟩)) (fa40_1_0 g) _ rfl rfl) rfl ?_)
      | ((with_reducible refine gate_d (N := 50) rfl ?_); refine ag_fix (.int .i64 s1) (ex_get sT3 g (1) (.int .i64 s1) ((yv [.string s0, .int .i64 s1, .int .i64 s2] (Value.int .i8) s3 [.int .i64 s4, .int .i64 s5, .int .i64 s6, .int .i64 s7, .int .i64 s8, .int .i64 s9, .bool s10, .bool s11, .bool s12, .int .i64 s13, .int .i64 s14, .int .i64 s15, s16])) BKr.out ((yv_pre (a := 3) rfl 1 (by decide)).trans rfl) _ rfl rfl) rfl ?_)
      | ((with_reducible refine gate_d (N := 55) rfl ?_); refine ag_fix (.pointer (some ⟨g, 1, none⟩)) (ex_field 40 1 (.pointer (some ⟨g, 0, none⟩)) (.pointer (some ⟨g, 1, none⟩)) (fa40_1_0 g) _ rfl rfl) rfl ?_)
      | ((with_reducible refine gate_s (t := 3) (p := 55) rfl ?_); refine ag_set sT3 g (1) (.int .i64 (wrap64 (s1 + t47))) (yv [.string s0, .int .i64 s1, .int .i64 s2] (Value.int .i8) s3 [.int .i64 s4, .int .i64 s5, .int .i64 s6, .int .i64 s7, .int .i64 s8, .int .i64 s9, .bool s10, .bool s11, .bool s12, .int .i64 s13, .int .i64 s14, .int .i64 s15, s16]) (yv [.string s0, .int .i64 (wrap64 (s1 + t47)), .int .i64 s2] (Value.int .i8) s3 [.int .i64 s4, .int .i64 s5, .int .i64 s6, .int .i64 s7, .int .i64 s8, .int .i64 s9, .bool s10, .bool s11, .bool s12, .int .i64 s13, .int .i64 s14, .int .i64 s15, s16]) BKr.out (yv_lt (a := 3) (n := 64) (c := 13) rfl LN_s3.out rfl (m := 1) (by decide)) rfl rfl ((yv_setp (a := 3) rfl 1 (by decide) _).trans rfl) rfl _ _ rfl rfl rfl ?_; intro w147 ho_ hB_; replace BKb5 := hid (BKb5.out.off ho_ NBb5_r.out); replace BKb49 := hid (BKb49.out.off ho_ NBb49_r.out); replace HL := hid (HL.out.off ho_ (.inl rfl)); replace BKr := hid hB_; clear ho_ hB_)
      | ((with_reducible refine gate_d (N := 57) rfl ?_); refine ag_fix (.pointer (some ⟨g, 2, none⟩)) (ex_field 40 2 (.pointer (some ⟨g, 0, none⟩)) (.pointer (some ⟨g, 2, none⟩)) (fa40_2_0 g) _ rfl rfl) rfl ?_)
      | ((with_reducible refine gate_s (t := 32) (p := 57) rfl ?_); refine ag_set sT32 g (2) (.int .i64 t48) (yv [.string s0, .int .i64 (wrap64 (s1 + t47)), .int .i64 s2] (Value.int .i8) s3 [.int .i64 s4, .int .i64 s5, .int .i64 s6, .int .i64 s7, .int .i64 s8, .int .i64 s9, .bool s10, .bool s11, .bool s12, .int .i64 s13, .int .i64 s14, .int .i64 s15, s16]) (yv [.string s0, .int .i64 (wrap64 (s1 + t47)), .int .i64 t48] (Value.int .i8) s3 [.int .i64 s4, .int .i64 s5, .int .i64 s6, .int .i64 s7, .int .i64 s8, .int .i64 s9, .bool s10, .bool s11, .bool s12, .int .i64 s13, .int .i64 s14, .int .i64 s15, s16]) BKr.out (yv_lt (a := 3) (n := 64) (c := 13) rfl LN_s3.out rfl (m := 2) (by decide)) rfl rfl ((yv_setp (a := 3) rfl 2 (by decide) _).trans rfl) rfl _ _ rfl rfl rfl ?_; intro w148 ho_ hB_; replace BKb5 := hid (BKb5.out.off ho_ NBb5_r.out); replace BKb49 := hid (BKb49.out.off ho_ NBb49_r.out); replace HL := hid (HL.out.off ho_ (.inl rfl)); replace BKr := hid hB_; clear ho_ hB_))
     (try simp only [Act.put, sI, sZ, sS])
     (first | go_end0 | refine bodyPost_ret (results_none rfl _ _ _) rfl ?_)
     exact ⟨by first | rfl | (simp; done), LN_s3.out, (by exact BKr.out), HL.out⟩
    ·
     rw [if_neg c142] at H
     have c142b0 : (t48 == 2) = false := beq_eq_false_iff_ne.mpr c142
     have c142b1 : (t48 != 2) = true := bne_iff_ne.mpr c142
     have hc142 := hid c142
     clear c142
     by_cases c149 : t4 = 0
     ·
      rw [if_pos c149] at H
      have c149b0 : (t4 == 0) = true := beq_iff_eq.mpr c149
      have c149b1 : (t4 != 0) = false := bne_eq_false_iff_eq.mpr c149
      have hc149 := hid c149
      clear c149
      by_cases c150 : t48 = 0
      ·
       rw [if_pos c150] at H
       have c150b0 : (t48 == 0) = true := beq_iff_eq.mpr c150
       have c150b1 : (t48 != 0) = false := bne_eq_false_iff_eq.mpr c150
       have hc150 := hid c150
       clear c150
       replace H := Option.bind_eq_some_iff.mp H
       obtain ⟨⟨t50, t51, t52, t53, t54, t55, t56, t57, t58, t59, t60, t61, t62, t63, t64, t65, t66, t67⟩, A151_, H⟩ := H
       dsimp only at H
       have A151 := hid A151_
       clear A151_
       simp only [Option.some.injEq, Prod.mk.injEq] at H
       obtain ⟨rfl, rfl, rfl, rfl, rfl, rfl, rfl, rfl, rfl, rfl, rfl, rfl, rfl, rfl, rfl, rfl, rfl⟩ := H
       have k152 := True.intro
       have k157 := True.intro
       go_wp2_with (first
        | ((with_reducible refine gate_d (N := 29) rfl ?_); clear k152; refine wl_dyn 26 #[.string t1] (ex_dyn Try.func26 (by kernel_rfl) (by kernel_rfl) ((fnv a1)) (by rw [hc130.out]; first | done | rfl) _ _ _ rfl rfl (by simp only [List.map_toArray, List.map_cons, List.map_nil]; rfl)) rfl ((i_roll_Read.calls k t1 t46 t47 t48 _ A131.out).mono ?_); rintro e_ w153 ⟨rfl, ln_t46, hb_⟩; have LN_t46 := hid ln_t46; clear ln_t46; replace BKr := hid (BKr.out.below hb_ BKr.out.lt); replace BKb5 := hid (BKb5.out.below hb_ BKb5.out.lt); replace HL := hid (HL.out.below hb_ HL.out.size); clear hb_)
        | ((with_reducible refine gate_d (N := 6) rfl ?_); obtain ⟨gb49, hgb49⟩ : ∃ g_, w153.heap.size = g_ := ⟨_, rfl⟩; refine ag_alloc boardT gb49 hgb49 rfl rfl ?_; intro w154 hb_ hB_ hs_; have GEb49 : Hid (w.heap.size ≤ gb49) := hid (by have := HL.out.size; omega); have NBr_b49 : Hid (g ≠ gb49) := hid (by have := BKr.out.lt; omega); have NBb49_r : Hid (gb49 ≠ g) := hid (by have := NBr_b49.out; omega); replace BKr := hid (BKr.out.below hb_ (by rw [← hgb49]; exact BKr.out.lt)); have NBb5_b49 : Hid (gb5 ≠ gb49) := hid (by have := BKb5.out.lt; omega); have NBb49_b5 : Hid (gb49 ≠ gb5) := hid (by have := NBb5_b49.out; omega); replace BKb5 := hid (BKb5.out.below hb_ (by rw [← hgb49]; exact BKb5.out.lt)); replace HL := hid (HL.out.below hb_ (GEb49.out)); have BKb49 := hid hB_; clear hb_ hB_ hs_ hgb49)
        | ((with_reducible refine gate_s (t := 25) (p := 6) rfl ?_); refine ag_store boardT gb49 0 (bv zL) (bv t46) (bv t46) BKb49.out (by rw [show (bv t46) = av (Value.int .i8) t46 from rfl, av_size]; exact LN_t46.out) (av_le zL_len) (av_one (fun _ => rfl)) (av_put zL_len LN_t46.out) rfl _ _ rfl rfl rfl ?_; intro w155 ho_ hB_; replace BKr := hid (BKr.out.off ho_ NBr_b49.out); replace BKb5 := hid (BKb5.out.off ho_ NBb5_b49.out); replace HL := hid (HL.out.off ho_ (.inr GEb49.out)); replace BKb49 := hid hB_; clear ho_ hB_)
        | ((with_reducible refine gate_d (N := 59) rfl ?_); refine ag_fix (.pointer (some ⟨gb5, 2, none⟩)) (ex_field 48 2 (.pointer (some ⟨gb5, 0, none⟩)) (.pointer (some ⟨gb5, 2, none⟩)) (fa48_2_0 gb5) _ rfl rfl) rfl ?_)
        | ((with_reducible refine gate_d (N := 60) rfl ?_); refine ag_fix (.int .i64 t4) (ex_get sT32 gb5 (2) (.int .i64 t4) (#[.int .i64 t2, .int .i64 t3, .int .i64 t4]) BKb5.out rfl _ rfl rfl) rfl ?_)
        | ((with_reducible refine gate_d (N := 34) rfl ?_); refine ag_fix (.agg (bv t46)) (ex_load boardT gb49 0 (bv t46) (bv t46) BKb49.out (av_le LN_t46.out) (av_ex LN_t46.out) _ rfl rfl) rfl ?_)
        | ((with_reducible refine gate_d (N := 36) rfl ?_); refine ag_fix (.pointer (some ⟨g, 3, none⟩)) (ex_field 40 3 (.pointer (some ⟨g, 0, none⟩)) (.pointer (some ⟨g, 3, none⟩)) (fa40_3_0 g) _ rfl rfl) rfl ?_)
        | ((with_reducible refine gate_d (N := 37) rfl ?_); refine ag_fix (.pointer (some ⟨g, 3, none⟩)) (ex_field 31 0 (.pointer (some ⟨g, 3, none⟩)) (.pointer (some ⟨g, 3, none⟩)) (fa31_0_3 g) _ rfl rfl) rfl ?_)
        | ((with_reducible refine gate_d (N := 38) rfl ?_); refine ag_fix (.pointer (some ⟨g, 3, none⟩)) (ex_field 27 0 (.pointer (some ⟨g, 3, none⟩)) (.pointer (some ⟨g, 3, none⟩)) (fa27_0_3 g) _ rfl rfl) rfl ?_)
        | ((with_reducible refine gate_s (t := 25) (p := 38) rfl ?_); refine ag_store boardT g 3 (yv [.string s0, .int .i64 s1, .int .i64 s2] (Value.int .i8) s3 [.int .i64 s4, .int .i64 s5, .int .i64 s6, .int .i64 s7, .int .i64 s8, .int .i64 s9, .bool s10, .bool s11, .bool s12, .int .i64 s13, .int .i64 s14, .int .i64 s15, s16]) (bv t46) (yv [.string s0, .int .i64 s1, .int .i64 s2] (Value.int .i8) t46 [.int .i64 s4, .int .i64 s5, .int .i64 s6, .int .i64 s7, .int .i64 s8, .int .i64 s9, .bool s10, .bool s11, .bool s12, .int .i64 s13, .int .i64 s14, .int .i64 s15, s16]) BKr.out (by rw [show (bv t46) = av (Value.int .i8) t46 from rfl, av_size]; exact LN_t46.out) (yv_le (a := 3) (n := 64) (c := 13) rfl LN_s3.out rfl (m := 67) (by decide)) (av_one (fun _ => rfl)) (yv_puta (a := 3) (n := 64) rfl LN_s3.out LN_t46.out) rfl _ _ rfl rfl rfl ?_; intro w156 ho_ hB_; replace BKb5 := hid (BKb5.out.off ho_ NBb5_r.out); replace BKb49 := hid (BKb49.out.off ho_ NBb49_r.out); replace HL := hid (HL.out.off ho_ (.inl rfl)); replace BKr := hid hB_; clear ho_ hB_)
        | ((with_reducible refine gate_d (N := 40) rfl ?_); refine ag_fix (.agg #[.int .i64 t2, .int .i64 t3, .int .i64 t4]) (ex_load aT48 gb5 0 #[.int .i64 t2, .int .i64 t3, .int .i64 t4] #[.int .i64 t2, .int .i64 t3, .int .i64 t4] BKb5.out (by simp) rfl _ rfl rfl) rfl ?_)
        | (go_at_call 21; clear k157; refine (i_task_reader_step.calls s0 s1 s2 t46 s4 s5 s6 s7 s8 s9 s10 s11 s12 s13 s14 s15 s16 t2 t3 t4 LN_t46.out t50 t51 t52 t53 t54 t55 t56 t57 t58 t59 t60 t61 t62 t63 t64 t65 t66 t67 g _ BKr.out A151.out).mono ?_; rintro e_ w158 ⟨rfl, ln_t54, hB_, hx_⟩; have LN_t54 := hid ln_t54; clear ln_t54; replace BKb5 := hid (BKb5.out.bex hx_ BKb5.out.lt NBb5_r.out); replace BKb49 := hid (BKb49.out.bex hx_ BKb49.out.lt NBb49_r.out); replace HL := hid (HL.out.bex hx_ HL.out.size (.inl rfl)); replace BKr := hid hB_; clear hx_ hB_))
       (try simp only [Act.put, sI, sZ, sS])
       (first | go_end0 | refine bodyPost_ret (results_none rfl _ _ _) rfl ?_)
       exact ⟨by first | rfl | (simp; done), LN_t54.out, (by exact BKr.out), HL.out⟩
      ·
       rw [if_neg c150] at H
       have c150b0 : (t48 == 0) = false := beq_eq_false_iff_ne.mpr c150
       have c150b1 : (t48 != 0) = true := bne_iff_ne.mpr c150
       have hc150 := hid c150
       clear c150
       simp only [Option.some.injEq, Prod.mk.injEq] at H
       obtain ⟨rfl, rfl, rfl, rfl, rfl, rfl, rfl, rfl, rfl, rfl, rfl, rfl, rfl, rfl, rfl, rfl, rfl⟩ := H
       have k159 := True.intro
       go_wp2_with (first
        | ((with_reducible refine gate_d (N := 29) rfl ?_); clear k159; refine wl_dyn 26 #[.string t1] (ex_dyn Try.func26 (by kernel_rfl) (by kernel_rfl) ((fnv a1)) (by rw [hc130.out]; first | done | rfl) _ _ _ rfl rfl (by simp only [List.map_toArray, List.map_cons, List.map_nil]; rfl)) rfl ((i_roll_Read.calls k t1 t46 t47 t48 _ A131.out).mono ?_); rintro e_ w160 ⟨rfl, ln_t46, hb_⟩; have LN_t46 := hid ln_t46; clear ln_t46; replace BKr := hid (BKr.out.below hb_ BKr.out.lt); replace BKb5 := hid (BKb5.out.below hb_ BKb5.out.lt); replace HL := hid (HL.out.below hb_ HL.out.size); clear hb_)
        | ((with_reducible refine gate_d (N := 6) rfl ?_); obtain ⟨gb49, hgb49⟩ : ∃ g_, w160.heap.size = g_ := ⟨_, rfl⟩; refine ag_alloc boardT gb49 hgb49 rfl rfl ?_; intro w161 hb_ hB_ hs_; have GEb49 : Hid (w.heap.size ≤ gb49) := hid (by have := HL.out.size; omega); have NBr_b49 : Hid (g ≠ gb49) := hid (by have := BKr.out.lt; omega); have NBb49_r : Hid (gb49 ≠ g) := hid (by have := NBr_b49.out; omega); replace BKr := hid (BKr.out.below hb_ (by rw [← hgb49]; exact BKr.out.lt)); have NBb5_b49 : Hid (gb5 ≠ gb49) := hid (by have := BKb5.out.lt; omega); have NBb49_b5 : Hid (gb49 ≠ gb5) := hid (by have := NBb5_b49.out; omega); replace BKb5 := hid (BKb5.out.below hb_ (by rw [← hgb49]; exact BKb5.out.lt)); replace HL := hid (HL.out.below hb_ (GEb49.out)); have BKb49 := hid hB_; clear hb_ hB_ hs_ hgb49)
        | ((with_reducible refine gate_s (t := 25) (p := 6) rfl ?_); refine ag_store boardT gb49 0 (bv zL) (bv t46) (bv t46) BKb49.out (by rw [show (bv t46) = av (Value.int .i8) t46 from rfl, av_size]; exact LN_t46.out) (av_le zL_len) (av_one (fun _ => rfl)) (av_put zL_len LN_t46.out) rfl _ _ rfl rfl rfl ?_; intro w162 ho_ hB_; replace BKr := hid (BKr.out.off ho_ NBr_b49.out); replace BKb5 := hid (BKb5.out.off ho_ NBb5_b49.out); replace HL := hid (HL.out.off ho_ (.inr GEb49.out)); replace BKb49 := hid hB_; clear ho_ hB_)
        | ((with_reducible refine gate_d (N := 59) rfl ?_); refine ag_fix (.pointer (some ⟨gb5, 2, none⟩)) (ex_field 48 2 (.pointer (some ⟨gb5, 0, none⟩)) (.pointer (some ⟨gb5, 2, none⟩)) (fa48_2_0 gb5) _ rfl rfl) rfl ?_)
        | ((with_reducible refine gate_d (N := 60) rfl ?_); refine ag_fix (.int .i64 t4) (ex_get sT32 gb5 (2) (.int .i64 t4) (#[.int .i64 t2, .int .i64 t3, .int .i64 t4]) BKb5.out rfl _ rfl rfl) rfl ?_)
        | ((with_reducible refine gate_d (N := 72) rfl ?_); refine ag_fix (.pointer (some ⟨g, 1, none⟩)) (ex_field 40 1 (.pointer (some ⟨g, 0, none⟩)) (.pointer (some ⟨g, 1, none⟩)) (fa40_1_0 g) _ rfl rfl) rfl ?_)
        | ((with_reducible refine gate_d (N := 73) rfl ?_); refine ag_fix (.int .i64 s1) (ex_get sT3 g (1) (.int .i64 s1) ((yv [.string s0, .int .i64 s1, .int .i64 s2] (Value.int .i8) s3 [.int .i64 s4, .int .i64 s5, .int .i64 s6, .int .i64 s7, .int .i64 s8, .int .i64 s9, .bool s10, .bool s11, .bool s12, .int .i64 s13, .int .i64 s14, .int .i64 s15, s16])) BKr.out ((yv_pre (a := 3) rfl 1 (by decide)).trans rfl) _ rfl rfl) rfl ?_)
        | ((with_reducible refine gate_d (N := 77) rfl ?_); refine ag_fix (.pointer (some ⟨g, 1, none⟩)) (ex_field 40 1 (.pointer (some ⟨g, 0, none⟩)) (.pointer (some ⟨g, 1, none⟩)) (fa40_1_0 g) _ rfl rfl) rfl ?_)
        | ((with_reducible refine gate_s (t := 3) (p := 77) rfl ?_); refine ag_set sT3 g (1) (.int .i64 (wrap64 (s1 + t47))) (yv [.string s0, .int .i64 s1, .int .i64 s2] (Value.int .i8) s3 [.int .i64 s4, .int .i64 s5, .int .i64 s6, .int .i64 s7, .int .i64 s8, .int .i64 s9, .bool s10, .bool s11, .bool s12, .int .i64 s13, .int .i64 s14, .int .i64 s15, s16]) (yv [.string s0, .int .i64 (wrap64 (s1 + t47)), .int .i64 s2] (Value.int .i8) s3 [.int .i64 s4, .int .i64 s5, .int .i64 s6, .int .i64 s7, .int .i64 s8, .int .i64 s9, .bool s10, .bool s11, .bool s12, .int .i64 s13, .int .i64 s14, .int .i64 s15, s16]) BKr.out (yv_lt (a := 3) (n := 64) (c := 13) rfl LN_s3.out rfl (m := 1) (by decide)) rfl rfl ((yv_setp (a := 3) rfl 1 (by decide) _).trans rfl) rfl _ _ rfl rfl rfl ?_; intro w163 ho_ hB_; replace BKb5 := hid (BKb5.out.off ho_ NBb5_r.out); replace BKb49 := hid (BKb49.out.off ho_ NBb49_r.out); replace HL := hid (HL.out.off ho_ (.inl rfl)); replace BKr := hid hB_; clear ho_ hB_)
        | ((with_reducible refine gate_d (N := 79) rfl ?_); refine ag_fix (.pointer (some ⟨g, 2, none⟩)) (ex_field 40 2 (.pointer (some ⟨g, 0, none⟩)) (.pointer (some ⟨g, 2, none⟩)) (fa40_2_0 g) _ rfl rfl) rfl ?_)
        | ((with_reducible refine gate_s (t := 32) (p := 79) rfl ?_); refine ag_set sT32 g (2) (.int .i64 2) (yv [.string s0, .int .i64 (wrap64 (s1 + t47)), .int .i64 s2] (Value.int .i8) s3 [.int .i64 s4, .int .i64 s5, .int .i64 s6, .int .i64 s7, .int .i64 s8, .int .i64 s9, .bool s10, .bool s11, .bool s12, .int .i64 s13, .int .i64 s14, .int .i64 s15, s16]) (yv [.string s0, .int .i64 (wrap64 (s1 + t47)), .int .i64 2] (Value.int .i8) s3 [.int .i64 s4, .int .i64 s5, .int .i64 s6, .int .i64 s7, .int .i64 s8, .int .i64 s9, .bool s10, .bool s11, .bool s12, .int .i64 s13, .int .i64 s14, .int .i64 s15, s16]) BKr.out (yv_lt (a := 3) (n := 64) (c := 13) rfl LN_s3.out rfl (m := 2) (by decide)) rfl rfl ((yv_setp (a := 3) rfl 2 (by decide) _).trans rfl) rfl _ _ rfl rfl rfl ?_; intro w164 ho_ hB_; replace BKb5 := hid (BKb5.out.off ho_ NBb5_r.out); replace BKb49 := hid (BKb49.out.off ho_ NBb49_r.out); replace HL := hid (HL.out.off ho_ (.inl rfl)); replace BKr := hid hB_; clear ho_ hB_))
       (try simp only [Act.put, sI, sZ, sS])
       (first | go_end0 | refine bodyPost_ret (results_none rfl _ _ _) rfl ?_)
       exact ⟨by first | rfl | (simp; done), LN_s3.out, (by exact BKr.out), HL.out⟩
     ·
      rw [if_neg c149] at H
      have c149b0 : (t4 == 0) = false := beq_eq_false_iff_ne.mpr c149
      have c149b1 : (t4 != 0) = true := bne_iff_ne.mpr c149
      have hc149 := hid c149
      clear c149
      replace H := Option.bind_eq_some_iff.mp H
      obtain ⟨⟨t68, t69, t70, t71, t72, t73, t74, t75, t76, t77, t78, t79, t80, t81, t82, t83, t84, t85⟩, A165_, H⟩ := H
      dsimp only at H
      have A165 := hid A165_
      clear A165_
      simp only [Option.some.injEq, Prod.mk.injEq] at H
      obtain ⟨rfl, rfl, rfl, rfl, rfl, rfl, rfl, rfl, rfl, rfl, rfl, rfl, rfl, rfl, rfl, rfl, rfl⟩ := H
      have k166 := True.intro
      have k170 := True.intro
      go_wp2_with (first
       | ((with_reducible refine gate_d (N := 29) rfl ?_); clear k166; refine wl_dyn 26 #[.string t1] (ex_dyn Try.func26 (by kernel_rfl) (by kernel_rfl) ((fnv a1)) (by rw [hc130.out]; first | done | rfl) _ _ _ rfl rfl (by simp only [List.map_toArray, List.map_cons, List.map_nil]; rfl)) rfl ((i_roll_Read.calls k t1 t46 t47 t48 _ A131.out).mono ?_); rintro e_ w167 ⟨rfl, ln_t46, hb_⟩; have LN_t46 := hid ln_t46; clear ln_t46; replace BKr := hid (BKr.out.below hb_ BKr.out.lt); replace BKb5 := hid (BKb5.out.below hb_ BKb5.out.lt); replace HL := hid (HL.out.below hb_ HL.out.size); clear hb_)
       | ((with_reducible refine gate_d (N := 6) rfl ?_); obtain ⟨gb49, hgb49⟩ : ∃ g_, w167.heap.size = g_ := ⟨_, rfl⟩; refine ag_alloc boardT gb49 hgb49 rfl rfl ?_; intro w168 hb_ hB_ hs_; have GEb49 : Hid (w.heap.size ≤ gb49) := hid (by have := HL.out.size; omega); have NBr_b49 : Hid (g ≠ gb49) := hid (by have := BKr.out.lt; omega); have NBb49_r : Hid (gb49 ≠ g) := hid (by have := NBr_b49.out; omega); replace BKr := hid (BKr.out.below hb_ (by rw [← hgb49]; exact BKr.out.lt)); have NBb5_b49 : Hid (gb5 ≠ gb49) := hid (by have := BKb5.out.lt; omega); have NBb49_b5 : Hid (gb49 ≠ gb5) := hid (by have := NBb5_b49.out; omega); replace BKb5 := hid (BKb5.out.below hb_ (by rw [← hgb49]; exact BKb5.out.lt)); replace HL := hid (HL.out.below hb_ (GEb49.out)); have BKb49 := hid hB_; clear hb_ hB_ hs_ hgb49)
       | ((with_reducible refine gate_s (t := 25) (p := 6) rfl ?_); refine ag_store boardT gb49 0 (bv zL) (bv t46) (bv t46) BKb49.out (by rw [show (bv t46) = av (Value.int .i8) t46 from rfl, av_size]; exact LN_t46.out) (av_le zL_len) (av_one (fun _ => rfl)) (av_put zL_len LN_t46.out) rfl _ _ rfl rfl rfl ?_; intro w169 ho_ hB_; replace BKr := hid (BKr.out.off ho_ NBr_b49.out); replace BKb5 := hid (BKb5.out.off ho_ NBb5_b49.out); replace HL := hid (HL.out.off ho_ (.inr GEb49.out)); replace BKb49 := hid hB_; clear ho_ hB_)
       | ((with_reducible refine gate_d (N := 59) rfl ?_); refine ag_fix (.pointer (some ⟨gb5, 2, none⟩)) (ex_field 48 2 (.pointer (some ⟨gb5, 0, none⟩)) (.pointer (some ⟨gb5, 2, none⟩)) (fa48_2_0 gb5) _ rfl rfl) rfl ?_)
       | ((with_reducible refine gate_d (N := 60) rfl ?_); refine ag_fix (.int .i64 t4) (ex_get sT32 gb5 (2) (.int .i64 t4) (#[.int .i64 t2, .int .i64 t3, .int .i64 t4]) BKb5.out rfl _ rfl rfl) rfl ?_)
       | ((with_reducible refine gate_d (N := 63) rfl ?_); refine ag_fix (.agg #[.int .i64 t2, .int .i64 t3, .int .i64 t4]) (ex_load aT48 gb5 0 #[.int .i64 t2, .int .i64 t3, .int .i64 t4] #[.int .i64 t2, .int .i64 t3, .int .i64 t4] BKb5.out (by simp) rfl _ rfl rfl) rfl ?_)
       | (go_at_call 21; clear k170; refine (i_task_reader_step.calls s0 s1 s2 s3 s4 s5 s6 s7 s8 s9 s10 s11 s12 s13 s14 s15 s16 t2 t3 t4 LN_s3.out t68 t69 t70 t71 t72 t73 t74 t75 t76 t77 t78 t79 t80 t81 t82 t83 t84 t85 g _ BKr.out A165.out).mono ?_; rintro e_ w171 ⟨rfl, ln_t72, hB_, hx_⟩; have LN_t72 := hid ln_t72; clear ln_t72; replace BKb5 := hid (BKb5.out.bex hx_ BKb5.out.lt NBb5_r.out); replace BKb49 := hid (BKb49.out.bex hx_ BKb49.out.lt NBb49_r.out); replace HL := hid (HL.out.bex hx_ HL.out.size (.inl rfl)); replace BKr := hid hB_; clear hx_ hB_))
      (try simp only [Act.put, sI, sZ, sS])
      (first | go_end0 | refine bodyPost_ret (results_none rfl _ _ _) rfl ?_)
      exact ⟨by first | rfl | (simp; done), LN_t72.out, (by exact BKr.out), HL.out⟩
   ·
    rw [if_neg c130] at H
    exact absurd H (by simp)
 ·
  rw [if_neg c86] at H
  have c86b0 : (s2 == 0) = false := beq_eq_false_iff_ne.mpr c86
  have c86b1 : (s2 != 0) = true := bne_iff_ne.mpr c86
  have hc86 := hid c86
  clear c86
  simp only [Option.some.injEq, Prod.mk.injEq] at H
  obtain ⟨rfl, rfl, rfl, rfl, rfl, rfl, rfl, rfl, rfl, rfl, rfl, rfl, rfl, rfl, rfl, rfl, rfl⟩ := H
  go_enter Try.func24, Try.ntmps24
  go_wp2_with (first
   | ((with_reducible refine gate_d (N := 11) rfl ?_); refine ag_fix (.pointer (some ⟨g, 2, none⟩)) (ex_field 40 2 (.pointer (some ⟨g, 0, none⟩)) (.pointer (some ⟨g, 2, none⟩)) (fa40_2_0 g) _ rfl rfl) rfl ?_)
   | ((with_reducible refine gate_d (N := 12) rfl ?_); refine ag_fix (.int .i64 s2) (ex_get sT32 g (2) (.int .i64 s2) ((yv [.string s0, .int .i64 s1, .int .i64 s2] (Value.int .i8) s3 [.int .i64 s4, .int .i64 s5, .int .i64 s6, .int .i64 s7, .int .i64 s8, .int .i64 s9, .bool s10, .bool s11, .bool s12, .int .i64 s13, .int .i64 s14, .int .i64 s15, s16])) BKr.out ((yv_pre (a := 3) rfl 2 (by decide)).trans rfl) _ rfl rfl) rfl ?_))
  (try simp only [Act.put, sI, sZ, sS])
  (first | go_end0 | refine bodyPost_ret (results_none rfl _ _ _) rfl ?_)
  exact ⟨by first | rfl | (simp; done), LN_s3.out, (by exact BKr.out), HL.out⟩
mutual
def i_task_reader_castle.l0 : Nat → Int → Int → ByteArray → Int → Int → List Int → Int → Int → Int → Int → Int → Int → Bool → Bool → Bool → Int → Int → Int → Value → Option (ByteArray × Int × Int × (List Int) × Int × Int × Int × Int × Int × Int × Bool × Bool × Bool × Int × Int × Int × Value)
  | 0, _, _, _, _, _, _, _, _, _, _, _, _, _, _, _, _, _, _, _ => none
  | k + 1, x2_0, x3_0, yr_0_0, yr_1_0, yr_2_0, yr_3_0, yr_4_0, yr_5_0, yr_6_0, yr_7_0, yr_8_0, yr_9_0, yr_10_0, yr_11_0, yr_12_0, yr_13_0, yr_14_0, yr_15_0, yr_16_0 => if yr_2_0 = 0 then (i_task_reader_castle.l1 k x2_0 x3_0 yr_0_0 yr_1_0 yr_2_0 yr_3_0 yr_4_0 yr_5_0 yr_6_0 yr_7_0 yr_8_0 yr_9_0 yr_10_0 yr_11_0 yr_12_0 yr_13_0 yr_14_0 yr_15_0 yr_16_0 ([] : List ByteArray) x2_0) else (some (yr_0_0, yr_1_0, yr_2_0, yr_3_0, yr_4_0, yr_5_0, yr_6_0, yr_7_0, yr_8_0, yr_9_0, yr_10_0, yr_11_0, yr_12_0, yr_13_0, yr_14_0, yr_15_0, yr_16_0))
def i_task_reader_castle.l1 : Nat → Int → Int → ByteArray → Int → Int → List Int → Int → Int → Int → Int → Int → Int → Bool → Bool → Bool → Int → Int → Int → Value → List ByteArray → Int → Option (ByteArray × Int × Int × (List Int) × Int × Int × Int × Int × Int × Int × Bool × Bool × Bool × Int × Int × Int × Value)
  | 0, _, _, _, _, _, _, _, _, _, _, _, _, _, _, _, _, _, _, _, _, _ => none
  | k + 1, x2_0, x3_0, yr_0_0, yr_1_0, yr_2_0, yr_3_0, yr_4_0, yr_5_0, yr_6_0, yr_7_0, yr_8_0, yr_9_0, yr_10_0, yr_11_0, yr_12_0, yr_13_0, yr_14_0, yr_15_0, yr_16_0, x4_1, x5_1 => if x5_1 < 4 then (if 0 ≤ x5_1 then (if x5_1 ≤ (wrap64 (x5_1 + 1)) then (if (wrap64 (x5_1 + 1)) ≤ 4 then (if x4_1.length < 8796093022208 then (i_task_reader_castle.l1 k x2_0 x3_0 yr_0_0 yr_1_0 yr_2_0 yr_3_0 yr_4_0 yr_5_0 yr_6_0 yr_7_0 yr_8_0 yr_9_0 yr_10_0 yr_11_0 yr_12_0 yr_13_0 yr_14_0 yr_15_0 yr_16_0 (x4_1 ++ [(⟨#[75, 81, 107, 113]⟩ : ByteArray).extract (x5_1 : Int).toNat ((wrap64 (x5_1 + 1)) : Int).toNat]) (wrap64 (x5_1 + 1))) else (none)) else (none)) else (none)) else (none)) else (if x3_0 > 0 then (if x4_1.length < 8796093022208 then ((i_task_reader_oneOf.f k yr_0_0 yr_1_0 yr_2_0 yr_3_0 yr_4_0 yr_5_0 yr_6_0 yr_7_0 yr_8_0 yr_9_0 yr_10_0 yr_11_0 yr_12_0 yr_13_0 yr_14_0 yr_15_0 yr_16_0 (x4_1 ++ [(⟨#[10]⟩ : ByteArray)])).bind fun bt137 => (if bt137.2.2.2.1 = 0 then (if 0 ≤ bt137.1 then (if bt137.1 < ((x4_1 ++ [(⟨#[10]⟩ : ByteArray)]).length : Int) then (if (nt (x4_1 ++ [(⟨#[10]⟩ : ByteArray)]) bt137.1.toNat ByteArray.empty).toList = ([10] : List UInt8) then (some (bt137.2.1, wrap64 (bt137.2.2.1 - 1), bt137.2.2.2.1, bt137.2.2.2.2.1, bt137.2.2.2.2.2.1, bt137.2.2.2.2.2.2.1, bt137.2.2.2.2.2.2.2.1, bt137.2.2.2.2.2.2.2.2.1, bt137.2.2.2.2.2.2.2.2.2.1, bt137.2.2.2.2.2.2.2.2.2.2.1, bt137.2.2.2.2.2.2.2.2.2.2.2.1, bt137.2.2.2.2.2.2.2.2.2.2.2.2.1, bt137.2.2.2.2.2.2.2.2.2.2.2.2.2.1, bt137.2.2.2.2.2.2.2.2.2.2.2.2.2.2.1, bt137.2.2.2.2.2.2.2.2.2.2.2.2.2.2.2.1, bt137.2.2.2.2.2.2.2.2.2.2.2.2.2.2.2.2.1, bt137.2.2.2.2.2.2.2.2.2.2.2.2.2.2.2.2.2)) else (if 0 ≤ (wrap64 (x2_0 + bt137.1)) then (if (wrap64 (x2_0 + bt137.1)) ≤ 64 then ((some (wrap64 (1 * 2 ^ (wrap64 (x2_0 + bt137.1)).toNat))).bind fun s156 => (i_task_reader_castle.l0 k (wrap64 (x2_0 + (wrap64 (bt137.1 + 1)))) (wrap64 (x3_0 + 1)) bt137.2.1 bt137.2.2.1 bt137.2.2.2.1 bt137.2.2.2.2.1 bt137.2.2.2.2.2.1 (Go.bits .or .i64 bt137.2.2.2.2.2.2.1 s156) bt137.2.2.2.2.2.2.2.1 bt137.2.2.2.2.2.2.2.2.1 bt137.2.2.2.2.2.2.2.2.2.1 bt137.2.2.2.2.2.2.2.2.2.2.1 bt137.2.2.2.2.2.2.2.2.2.2.2.1 bt137.2.2.2.2.2.2.2.2.2.2.2.2.1 bt137.2.2.2.2.2.2.2.2.2.2.2.2.2.1 bt137.2.2.2.2.2.2.2.2.2.2.2.2.2.2.1 bt137.2.2.2.2.2.2.2.2.2.2.2.2.2.2.2.1 bt137.2.2.2.2.2.2.2.2.2.2.2.2.2.2.2.2.1 bt137.2.2.2.2.2.2.2.2.2.2.2.2.2.2.2.2.2)) else (none)) else (none))) else (none)) else (none)) else (some (bt137.2.1, bt137.2.2.1, bt137.2.2.2.1, bt137.2.2.2.2.1, bt137.2.2.2.2.2.1, bt137.2.2.2.2.2.2.1, bt137.2.2.2.2.2.2.2.1, bt137.2.2.2.2.2.2.2.2.1, bt137.2.2.2.2.2.2.2.2.2.1, bt137.2.2.2.2.2.2.2.2.2.2.1, bt137.2.2.2.2.2.2.2.2.2.2.2.1, bt137.2.2.2.2.2.2.2.2.2.2.2.2.1, bt137.2.2.2.2.2.2.2.2.2.2.2.2.2.1, bt137.2.2.2.2.2.2.2.2.2.2.2.2.2.2.1, bt137.2.2.2.2.2.2.2.2.2.2.2.2.2.2.2.1, bt137.2.2.2.2.2.2.2.2.2.2.2.2.2.2.2.2.1, bt137.2.2.2.2.2.2.2.2.2.2.2.2.2.2.2.2.2)))) else (none)) else ((i_task_reader_oneOf.f k yr_0_0 yr_1_0 yr_2_0 yr_3_0 yr_4_0 yr_5_0 yr_6_0 yr_7_0 yr_8_0 yr_9_0 yr_10_0 yr_11_0 yr_12_0 yr_13_0 yr_14_0 yr_15_0 yr_16_0 x4_1).bind fun bt157 => (if bt157.2.2.2.1 = 0 then (if 0 ≤ bt157.1 then (if bt157.1 < (x4_1.length : Int) then (if (nt x4_1 bt157.1.toNat ByteArray.empty).toList = ([10] : List UInt8) then (some (bt157.2.1, wrap64 (bt157.2.2.1 - 1), bt157.2.2.2.1, bt157.2.2.2.2.1, bt157.2.2.2.2.2.1, bt157.2.2.2.2.2.2.1, bt157.2.2.2.2.2.2.2.1, bt157.2.2.2.2.2.2.2.2.1, bt157.2.2.2.2.2.2.2.2.2.1, bt157.2.2.2.2.2.2.2.2.2.2.1, bt157.2.2.2.2.2.2.2.2.2.2.2.1, bt157.2.2.2.2.2.2.2.2.2.2.2.2.1, bt157.2.2.2.2.2.2.2.2.2.2.2.2.2.1, bt157.2.2.2.2.2.2.2.2.2.2.2.2.2.2.1, bt157.2.2.2.2.2.2.2.2.2.2.2.2.2.2.2.1, bt157.2.2.2.2.2.2.2.2.2.2.2.2.2.2.2.2.1, bt157.2.2.2.2.2.2.2.2.2.2.2.2.2.2.2.2.2)) else (if 0 ≤ (wrap64 (x2_0 + bt157.1)) then (if (wrap64 (x2_0 + bt157.1)) ≤ 64 then ((some (wrap64 (1 * 2 ^ (wrap64 (x2_0 + bt157.1)).toNat))).bind fun s176 => (i_task_reader_castle.l0 k (wrap64 (x2_0 + (wrap64 (bt157.1 + 1)))) (wrap64 (x3_0 + 1)) bt157.2.1 bt157.2.2.1 bt157.2.2.2.1 bt157.2.2.2.2.1 bt157.2.2.2.2.2.1 (Go.bits .or .i64 bt157.2.2.2.2.2.2.1 s176) bt157.2.2.2.2.2.2.2.1 bt157.2.2.2.2.2.2.2.2.1 bt157.2.2.2.2.2.2.2.2.2.1 bt157.2.2.2.2.2.2.2.2.2.2.1 bt157.2.2.2.2.2.2.2.2.2.2.2.1 bt157.2.2.2.2.2.2.2.2.2.2.2.2.1 bt157.2.2.2.2.2.2.2.2.2.2.2.2.2.1 bt157.2.2.2.2.2.2.2.2.2.2.2.2.2.2.1 bt157.2.2.2.2.2.2.2.2.2.2.2.2.2.2.2.1 bt157.2.2.2.2.2.2.2.2.2.2.2.2.2.2.2.2.1 bt157.2.2.2.2.2.2.2.2.2.2.2.2.2.2.2.2.2)) else (none)) else (none))) else (none)) else (none)) else (some (bt157.2.1, bt157.2.2.1, bt157.2.2.2.1, bt157.2.2.2.2.1, bt157.2.2.2.2.2.1, bt157.2.2.2.2.2.2.1, bt157.2.2.2.2.2.2.2.1, bt157.2.2.2.2.2.2.2.2.1, bt157.2.2.2.2.2.2.2.2.2.1, bt157.2.2.2.2.2.2.2.2.2.2.1, bt157.2.2.2.2.2.2.2.2.2.2.2.1, bt157.2.2.2.2.2.2.2.2.2.2.2.2.1, bt157.2.2.2.2.2.2.2.2.2.2.2.2.2.1, bt157.2.2.2.2.2.2.2.2.2.2.2.2.2.2.1, bt157.2.2.2.2.2.2.2.2.2.2.2.2.2.2.2.1, bt157.2.2.2.2.2.2.2.2.2.2.2.2.2.2.2.2.1, bt157.2.2.2.2.2.2.2.2.2.2.2.2.2.2.2.2.2)))))
end
def i_task_reader_castle.f (k : Nat) (s0 : ByteArray) (s1 : Int) (s2 : Int) (s3 : List Int) (s4 : Int) (s5 : Int) (s6 : Int) (s7 : Int) (s8 : Int) (s9 : Int) (s10 : Bool) (s11 : Bool) (s12 : Bool) (s13 : Int) (s14 : Int) (s15 : Int) (s16 : Value) : Option (ByteArray × Int × Int × (List Int) × Int × Int × Int × Int × Int × Int × Bool × Bool × Bool × Int × Int × Int × Value) := i_task_reader_castle.l0 k 0 0 s0 s1 s2 s3 s4 s5 s6 s7 s8 s9 s10 s11 s12 s13 s14 s15 s16
set_option maxHeartbeats 40000000 in
set_option maxRecDepth 100000 in
theorem i_task_reader_castle.calls (k : Nat) (s0 : ByteArray) (s1 : Int) (s2 : Int) (s3 : List Int) (s4 : Int) (s5 : Int) (s6 : Int) (s7 : Int) (s8 : Int) (s9 : Int) (s10 : Bool) (s11 : Bool) (s12 : Bool) (s13 : Int) (s14 : Int) (s15 : Int) (s16 : Value) (hls3 : s3.length = 64) (q0 : ByteArray) (q1 : Int) (q2 : Int) (q3 : List Int) (q4 : Int) (q5 : Int) (q6 : Int) (q7 : Int) (q8 : Int) (q9 : Int) (q10 : Bool) (q11 : Bool) (q12 : Bool) (q13 : Int) (q14 : Int) (q15 : Int) (q16 : Value) (g : Nat) (w : World) (hB : Blk w g 40 (yv [.string s0, .int .i64 s1, .int .i64 s2] (Value.int .i8) s3 [.int .i64 s4, .int .i64 s5, .int .i64 s6, .int .i64 s7, .int .i64 s8, .int .i64 s9, .bool s10, .bool s11, .bool s12, .int .i64 s13, .int .i64 s14, .int .i64 s15, s16])) (h : i_task_reader_castle.f k s0 s1 s2 s3 s4 s5 s6 s7 s8 s9 s10 s11 s12 s13 s14 s15 s16 = some (q0, q1, q2, q3, q4, q5, q6, q7, q8, q9, q10, q11, q12, q13, q14, q15, q16)) :
    Calls Try.prog 19 #[.pointer (some ⟨g, 0, none⟩)] w fun e w' => e = .returned (.tuple #[]) ∧ q3.length = 64 ∧ Blk w' g 40 (yv [.string q0, .int .i64 q1, .int .i64 q2] (Value.int .i8) q3 [.int .i64 q4, .int .i64 q5, .int .i64 q6, .int .i64 q7, .int .i64 q8, .int .i64 q9, .bool q10, .bool q11, .bool q12, .int .i64 q13, .int .i64 q14, .int .i64 q15, q16]) ∧ Bex g w.heap.size w w' := by
 have LN_s3 := hid hls3
 clear hls3
 have BKr := hid hB
 clear hB
 have HL := hid (Bex.refl g w.heap.size w)
 have H : (i_task_reader_castle.l0 k 0 0 s0 s1 s2 s3 s4 s5 s6 s7 s8 s9 s10 s11 s12 s13 s14 s15 s16) = some (q0, q1, q2, q3, q4, q5, q6, q7, q8, q9, q10, q11, q12, q13, q14, q15, q16) := h
 clear h
 have H' := hid H
 clear H
 go_enter Try.func19, Try.ntmps19
 go_wp2_with fail
 (try simp only [Act.put, sI, sZ, sS])
 go_loopg [2, 3] k (fun kq v2 v3 w' => ∃ (x2_0 : Int) (x3_0 : Int) (yr_0_0 : ByteArray) (yr_1_0 : Int) (yr_2_0 : Int) (yr_3_0 : List Int) (yr_4_0 : Int) (yr_5_0 : Int) (yr_6_0 : Int) (yr_7_0 : Int) (yr_8_0 : Int) (yr_9_0 : Int) (yr_10_0 : Bool) (yr_11_0 : Bool) (yr_12_0 : Bool) (yr_13_0 : Int) (yr_14_0 : Int) (yr_15_0 : Int) (yr_16_0 : Value), v2 = .int .i64 x2_0 ∧ v3 = .int .i64 x3_0 ∧ Hid (i_task_reader_castle.l0 kq x2_0 x3_0 yr_0_0 yr_1_0 yr_2_0 yr_3_0 yr_4_0 yr_5_0 yr_6_0 yr_7_0 yr_8_0 yr_9_0 yr_10_0 yr_11_0 yr_12_0 yr_13_0 yr_14_0 yr_15_0 yr_16_0 = some (q0, q1, q2, q3, q4, q5, q6, q7, q8, q9, q10, q11, q12, q13, q14, q15, q16)) ∧ Hid (kq ≤ k) ∧ Hid (yr_3_0.length = 64) ∧ Hid (Blk w' g 40 (yv [.string yr_0_0, .int .i64 yr_1_0, .int .i64 yr_2_0] (Value.int .i8) yr_3_0 [.int .i64 yr_4_0, .int .i64 yr_5_0, .int .i64 yr_6_0, .int .i64 yr_7_0, .int .i64 yr_8_0, .int .i64 yr_9_0, .bool yr_10_0, .bool yr_11_0, .bool yr_12_0, .int .i64 yr_13_0, .int .i64 yr_14_0, .int .i64 yr_15_0, yr_16_0])) ∧ Hid (Bex g w.heap.size w w'))
 case atStart => exact ⟨(0 : Int), (0 : Int), s0, s1, s2, s3, s4, s5, s6, s7, s8, s9, s10, s11, s12, s13, s14, s15, s16, (by first | rfl | (simp; done) | (simp [*]; done)), (by first | rfl | (simp; done) | (simp [*]; done)), H', (hid (by first | omega | (omega))), (hid (by first | rfl | (simp only [List.length_set, List.length_replicate, zL_len, List.length_cons, List.length_nil, LN_s3.out]; done) | (simp [zL_len, LN_s3.out]; done))), (hid (by exact BKr.out)), HL⟩
 case round =>
  clear H'
  clear HL BKr
  obtain ⟨x2_0, x3_0, yr_0_0, yr_1_0, yr_2_0, yr_3_0, yr_4_0, yr_5_0, yr_6_0, yr_7_0, yr_8_0, yr_9_0, yr_10_0, yr_11_0, yr_12_0, yr_13_0, yr_14_0, yr_15_0, yr_16_0, rfl, rfl, HA, HK177, LN_yr_3_0, BKr, HL⟩ := hrel
  cases gk with
  | zero => exact absurd HA.out (by simp [i_task_reader_castle.l0])
  | succ k178 =>
   have H := HA.out
   clear HA
   simp only [i_task_reader_castle.l0] at H
   by_cases c179 : yr_2_0 = 0
   ·
    rw [if_pos c179] at H
    have c179b0 : (yr_2_0 == 0) = true := beq_iff_eq.mpr c179
    have c179b1 : (yr_2_0 != 0) = false := bne_eq_false_iff_eq.mpr c179
    have hc179 := hid c179
    clear c179
    have H' := hid H
    clear H
    go_wp2_with (first
     | ((with_reducible refine gate_d (N := 9) rfl ?_); refine ag_fix (.pointer (some ⟨g, 2, none⟩)) (ex_field 40 2 (.pointer (some ⟨g, 0, none⟩)) (.pointer (some ⟨g, 2, none⟩)) (fa40_2_0 g) _ rfl rfl) rfl ?_)
     | ((with_reducible refine gate_d (N := 10) rfl ?_); refine ag_fix (.int .i64 yr_2_0) (ex_get sT32 g (2) (.int .i64 yr_2_0) ((yv [.string yr_0_0, .int .i64 yr_1_0, .int .i64 yr_2_0] (Value.int .i8) yr_3_0 [.int .i64 yr_4_0, .int .i64 yr_5_0, .int .i64 yr_6_0, .int .i64 yr_7_0, .int .i64 yr_8_0, .int .i64 yr_9_0, .bool yr_10_0, .bool yr_11_0, .bool yr_12_0, .int .i64 yr_13_0, .int .i64 yr_14_0, .int .i64 yr_15_0, yr_16_0])) BKr.out ((yv_pre (a := 3) rfl 2 (by decide)).trans rfl) _ rfl rfl) rfl ?_))
    (try simp only [Act.put, sI, sZ, sS])
    go_loopg [4, 5] k178 (fun kq v4 v5 w' => ∃ (x4_1 : List ByteArray) (ux4_1 : Value) (x5_1 : Int), ux4_1 = v4 ∧ v5 = .int .i64 x5_1 ∧ Hid (i_task_reader_castle.l1 kq x2_0 x3_0 yr_0_0 yr_1_0 yr_2_0 yr_3_0 yr_4_0 yr_5_0 yr_6_0 yr_7_0 yr_8_0 yr_9_0 yr_10_0 yr_11_0 yr_12_0 yr_13_0 yr_14_0 yr_15_0 yr_16_0 x4_1 x5_1 = some (q0, q1, q2, q3, q4, q5, q6, q7, q8, q9, q10, q11, q12, q13, q14, q15, q16)) ∧ Hid (kq ≤ k178) ∧ Hid (Blk w' g 40 (yv [.string yr_0_0, .int .i64 yr_1_0, .int .i64 yr_2_0] (Value.int .i8) yr_3_0 [.int .i64 yr_4_0, .int .i64 yr_5_0, .int .i64 yr_6_0, .int .i64 yr_7_0, .int .i64 yr_8_0, .int .i64 yr_9_0, .bool yr_10_0, .bool yr_11_0, .bool yr_12_0, .int .i64 yr_13_0, .int .i64 yr_14_0, .int .i64 yr_15_0, yr_16_0])) ∧ Hid (Own w' w.heap.size 9 (ux4_1) (x4_1.map Value.string)) ∧ Hid (Bex g w.heap.size w w'))
    case atStart => exact ⟨([] : List ByteArray), (.slice none 0 0), x2_0, (by first | rfl | (simp; done) | (simp [*]; done)), (by first | rfl | (simp; done) | (simp [*]; done)), H', (hid (by first | omega | (have := HK177.out; omega))), (hid (by exact BKr.out)), (hid (Own.nil _ _ _)), HL⟩
    case round =>
     clear H'
     clear HL BKr
     obtain ⟨x4_1, ux4_1, x5_1, rfl, rfl, HA, HK180, BKr, SWx4_1, HL⟩ := hrel
     cases gk with
     | zero => exact absurd HA.out (by simp [i_task_reader_castle.l1])
     | succ k181 =>
      have H := HA.out
      clear HA
      simp only [i_task_reader_castle.l1] at H
      by_cases c182 : x5_1 < 4
      ·
       rw [if_pos c182] at H
       have c182b0 : decide (x5_1 < 4) = true := decide_eq_true c182
       have hc182 := hid c182
       clear c182
       by_cases c183 : 0 ≤ x5_1
       ·
        rw [if_pos c183] at H
        have c183b0 : decide (0 ≤ x5_1) = true := decide_eq_true c183
        have hc183 := hid c183
        clear c183
        by_cases c184 : x5_1 ≤ (wrap64 (x5_1 + 1))
        ·
         rw [if_pos c184] at H
         have c184b0 : decide (x5_1 ≤ (wrap64 (x5_1 + 1))) = true := decide_eq_true c184
         have hc184 := hid c184
         clear c184
         by_cases c185 : (wrap64 (x5_1 + 1)) ≤ 4
         ·
          rw [if_pos c185] at H
          have c185b0 : decide ((wrap64 (x5_1 + 1)) ≤ 4) = true := decide_eq_true c185
          have hc185 := hid c185
          clear c185
          by_cases c186 : x4_1.length < 8796093022208
          ·
           rw [if_pos c186] at H
           have c186b0 : decide (x4_1.length < 8796093022208) = true := decide_eq_true c186
           have hc186 := hid c186
           clear c186
           have H' := hid H
           clear H
           have k189 := True.intro
           go_wp2_with (first
            | ((with_reducible refine gate_d (N := 23) rfl ?_); refine ag_fix (.string ((⟨#[75, 81, 107, 113]⟩ : ByteArray).extract (x5_1 : Int).toNat ((wrap64 (x5_1 + 1)) : Int).toNat)) (ex_cut_lh 9 und_txt (⟨#[75, 81, 107, 113]⟩ : ByteArray) x5_1 (wrap64 (x5_1 + 1)) hc183.out hc184.out hc185.out _ _ _ rfl rfl rfl rfl) rfl ?_)
            | ((with_reducible refine gate_d (N := 24) rfl ?_); obtain ⟨gb133, hgb133⟩ : ∃ g_, wr.heap.size = g_ := ⟨_, rfl⟩; refine ag_lit sT9 (.string ((⟨#[75, 81, 107, 113]⟩ : ByteArray).extract (x5_1 : Int).toNat ((wrap64 (x5_1 + 1)) : Int).toNat)) gb133 hgb133 rfl _ rfl rfl (fun w_ => by kernel_rfl) ?_; intro w187 hb_ hB_ hs_; have GEb133 : Hid (w.heap.size ≤ gb133) := hid (by have := HL.out.size; omega); have NBr_b133 : Hid (g ≠ gb133) := hid (by have := BKr.out.lt; omega); have NBb133_r : Hid (gb133 ≠ g) := hid (by have := NBr_b133.out; omega); replace BKr := hid (BKr.out.below hb_ (by rw [← hgb133]; exact BKr.out.lt)); replace SWx4_1 := hid (SWx4_1.out.below (by rw [hgb133]; exact hb_)); replace HL := hid (HL.out.below hb_ (GEb133.out)); have BKb133 := hid hB_; clear hb_ hB_ hs_ hgb133)
            | (at_builtin; clear k189; refine app_one eT54 w.heap.size (ux4_1) (x4_1.map Value.string) (.string ((⟨#[75, 81, 107, 113]⟩ : ByteArray).extract (x5_1 : Int).toNat ((wrap64 (x5_1 + 1)) : Int).toNat)) gb133 1 SWx4_1.out BKb133.out rfl (by have h_ := hc186.out; rw [List.length_map]; omega) (by have h_ := hc186.out; rw [List.length_map]; unfold maxLen; omega) HL.out.size rfl _ _ rfl rfl rfl ?_; intro uo134 w188 ho_ hb_ hk_ hi_; clear SWx4_1; have SWo134 : Hid (Own w188 w.heap.size 9 (uo134) ((x4_1 ++ [(⟨#[75, 81, 107, 113]⟩ : ByteArray).extract (x5_1 : Int).toNat ((wrap64 (x5_1 + 1)) : Int).toNat]).map Value.string)) := hid (by rw [List.map_append]; exact ho_); replace BKr := hid (hk_ _ _ _ (by decide) BKr.out); replace HL := hid (HL.out.below hb_ (Nat.le_refl _)); clear ho_ hb_ hk_ hi_ BKb133))
           (try simp only [Act.put, sI, sZ, sS])
           go_roundg k181
           case measure => have := HK177.out; have := HK180.out; omega
           case rel => exact ⟨x4_1 ++ [(⟨#[75, 81, 107, 113]⟩ : ByteArray).extract (x5_1 : Int).toNat ((wrap64 (x5_1 + 1)) : Int).toNat], (uo134), wrap64 (x5_1 + 1), (by first | rfl | (simp; done) | (simp [*]; done)), (by first | rfl | (simp; done) | (simp [*]; done)), H', (hid (by first | omega | (have := HK177.out; have := HK180.out; omega))), (hid (by exact BKr.out)), SWo134, HL⟩
          ·
           rw [if_neg c186] at H
           exact absurd H (by simp)
         ·
          rw [if_neg c185] at H
          exact absurd H (by simp)
        ·
         rw [if_neg c184] at H
         exact absurd H (by simp)
       ·
        rw [if_neg c183] at H
        exact absurd H (by simp)
      ·
       rw [if_neg c182] at H
       have c182b0 : decide (x5_1 < 4) = false := decide_eq_false c182
       have hc182 := hid c182
       clear c182
       by_cases c190 : x3_0 > 0
       ·
        rw [if_pos c190] at H
        have c190b0 : decide (0 < x3_0) = true := decide_eq_true c190
        have hc190 := hid c190
        clear c190
        by_cases c191 : x4_1.length < 8796093022208
        ·
         rw [if_pos c191] at H
         have c191b0 : decide (x4_1.length < 8796093022208) = true := decide_eq_true c191
         have hc191 := hid c191
         clear c191
         replace H := Option.bind_eq_some_iff.mp H
         obtain ⟨⟨t137, t138, t139, t140, t141, t142, t143, t144, t145, t146, t147, t148, t149, t150, t151, t152, t153, t154⟩, A192_, H⟩ := H
         dsimp only at H
         have A192 := hid A192_
         clear A192_
         by_cases c193 : t140 = 0
         ·
          rw [if_pos c193] at H
          have c193b0 : (t140 == 0) = true := beq_iff_eq.mpr c193
          have c193b1 : (t140 != 0) = false := bne_eq_false_iff_eq.mpr c193
          have hc193 := hid c193
          clear c193
          by_cases c194 : 0 ≤ t137
          ·
           rw [if_pos c194] at H
           have c194b0 : decide (0 ≤ t137) = true := decide_eq_true c194
           have hc194 := hid c194
           clear c194
           by_cases c195 : t137 < ((x4_1 ++ [(⟨#[10]⟩ : ByteArray)]).length : Int)
           ·
            rw [if_pos c195] at H
            have c195b0 : decide (t137 < ((x4_1 ++ [(⟨#[10]⟩ : ByteArray)]).length : Int)) = true := decide_eq_true c195
            have hc195 := hid c195
            clear c195
            by_cases c196 : (nt (x4_1 ++ [(⟨#[10]⟩ : ByteArray)]) t137.toNat ByteArray.empty).toList = ([10] : List UInt8)
            ·
             rw [if_pos c196] at H
             have c196b0 : ((nt (x4_1 ++ [(⟨#[10]⟩ : ByteArray)]) t137.toNat ByteArray.empty).toList == ([10] : List UInt8)) = true := beq_iff_eq.mpr c196
             have c196b1 : ((nt (x4_1 ++ [(⟨#[10]⟩ : ByteArray)]) t137.toNat ByteArray.empty).toList != ([10] : List UInt8)) = false := bne_eq_false_iff_eq.mpr c196
             have hc196 := hid c196
             clear c196
             simp only [Option.some.injEq, Prod.mk.injEq] at H
             obtain ⟨rfl, rfl, rfl, rfl, rfl, rfl, rfl, rfl, rfl, rfl, rfl, rfl, rfl, rfl, rfl, rfl, rfl⟩ := H
             have k199 := True.intro
             have k200 := True.intro
             go_wp2_with (first
              | ((with_reducible refine gate_d (N := 29) rfl ?_); obtain ⟨gb135, hgb135⟩ : ∃ g_, wr.heap.size = g_ := ⟨_, rfl⟩; refine ag_lit sT9 (.string (⟨#[10]⟩ : ByteArray)) gb135 hgb135 rfl _ rfl rfl (fun w_ => by kernel_rfl) ?_; intro w197 hb_ hB_ hs_; have GEb135 : Hid (w.heap.size ≤ gb135) := hid (by have := HL.out.size; omega); have NBr_b135 : Hid (g ≠ gb135) := hid (by have := BKr.out.lt; omega); have NBb135_r : Hid (gb135 ≠ g) := hid (by have := NBr_b135.out; omega); replace BKr := hid (BKr.out.below hb_ (by rw [← hgb135]; exact BKr.out.lt)); replace SWx4_1 := hid (SWx4_1.out.below (by rw [hgb135]; exact hb_)); replace HL := hid (HL.out.below hb_ (GEb135.out)); have BKb135 := hid hB_; clear hb_ hB_ hs_ hgb135)
              | (at_builtin; clear k199; refine app_one eT54 w.heap.size (ux4_1) (x4_1.map Value.string) (.string (⟨#[10]⟩ : ByteArray)) gb135 1 SWx4_1.out BKb135.out rfl (by have h_ := hc191.out; rw [List.length_map]; omega) (by have h_ := hc191.out; rw [List.length_map]; unfold maxLen; omega) HL.out.size rfl _ _ rfl rfl rfl ?_; intro uo136 w198 ho_ hb_ hk_ hi_; clear SWx4_1; have SWo136 : Hid (Own w198 w.heap.size 9 (uo136) ((x4_1 ++ [(⟨#[10]⟩ : ByteArray)]).map Value.string)) := hid (by rw [List.map_append]; exact ho_); replace BKr := hid (hk_ _ _ _ (by decide) BKr.out); replace HL := hid (HL.out.below hb_ (Nat.le_refl _)); clear ho_ hb_ hk_ hi_ BKb135)
              | (go_at_call 14; clear k200; refine (i_task_reader_oneOf.calls k181 yr_0_0 yr_1_0 yr_2_0 yr_3_0 yr_4_0 yr_5_0 yr_6_0 yr_7_0 yr_8_0 yr_9_0 yr_10_0 yr_11_0 yr_12_0 yr_13_0 yr_14_0 yr_15_0 yr_16_0 (uo136) (x4_1 ++ [(⟨#[10]⟩ : ByteArray)]) LN_yr_3_0.out t137 t138 t139 t140 t141 t142 t143 t144 t145 t146 t147 t148 t149 t150 t151 t152 t153 t154 g _ BKr.out SWo136.out.slT A192.out).mono ?_; rintro e_ w201 ⟨rfl, ln_t141, hB_, hx_⟩; have LN_t141 := hid ln_t141; clear ln_t141; replace SWo136 := hid (SWo136.out.bex hx_ (Nat.le_refl _) BKr.out (by decide)); replace HL := hid (HL.out.bex hx_ HL.out.size (.inl rfl)); replace BKr := hid hB_; clear hx_ hB_)
              | ((with_reducible refine gate_d (N := 36) rfl ?_); refine ag_fix (.pointer (some ⟨g, 2, none⟩)) (ex_field 40 2 (.pointer (some ⟨g, 0, none⟩)) (.pointer (some ⟨g, 2, none⟩)) (fa40_2_0 g) _ rfl rfl) rfl ?_)
              | ((with_reducible refine gate_d (N := 37) rfl ?_); refine ag_fix (.int .i64 t140) (ex_get sT32 g (2) (.int .i64 t140) ((yv [.string t138, .int .i64 t139, .int .i64 t140] (Value.int .i8) t141 [.int .i64 t142, .int .i64 t143, .int .i64 t144, .int .i64 t145, .int .i64 t146, .int .i64 t147, .bool t148, .bool t149, .bool t150, .int .i64 t151, .int .i64 t152, .int .i64 t153, t154])) BKr.out ((yv_pre (a := 3) rfl 2 (by decide)).trans rfl) _ rfl rfl) rfl ?_)
              | ((with_reducible refine gate_d (N := 41) rfl ?_); obtain ⟨ad155, c202, hv203, HCad155_⟩ := Sl.get (l := x4_1 ++ [(⟨#[10]⟩ : ByteArray)]) (f := Value.string) SWo136.out.sl ByteArray.empty (i := t137) hc194.out hc195.out; have HCad155 := hid HCad155_; clear HCad155_; refine ag_fix (.pointer (some (ad155.add t137.toNat))) (ex_sat _ _ t137 _ _ hv203 hc194.out hc195.out us54 sT9 _ _ rfl rfl rfl) rfl ?_; have HVAad155 := hid hv203; clear hv203)
              | ((with_reducible refine gate_d (N := 42) rfl ?_); refine ag_fix (.string (nt (x4_1 ++ [(⟨#[10]⟩ : ByteArray)]) t137.toNat ByteArray.empty)) (ex_scell sT9 _ _ HCad155.out _ rfl rfl) rfl ?_)
              | ((with_reducible refine gate_d (N := 46) rfl ?_); refine ag_fix (.pointer (some ⟨g, 1, none⟩)) (ex_field 40 1 (.pointer (some ⟨g, 0, none⟩)) (.pointer (some ⟨g, 1, none⟩)) (fa40_1_0 g) _ rfl rfl) rfl ?_)
              | ((with_reducible refine gate_d (N := 47) rfl ?_); refine ag_fix (.int .i64 t139) (ex_get sT3 g (1) (.int .i64 t139) ((yv [.string t138, .int .i64 t139, .int .i64 t140] (Value.int .i8) t141 [.int .i64 t142, .int .i64 t143, .int .i64 t144, .int .i64 t145, .int .i64 t146, .int .i64 t147, .bool t148, .bool t149, .bool t150, .int .i64 t151, .int .i64 t152, .int .i64 t153, t154])) BKr.out ((yv_pre (a := 3) rfl 1 (by decide)).trans rfl) _ rfl rfl) rfl ?_)
              | ((with_reducible refine gate_d (N := 50) rfl ?_); refine ag_fix (.pointer (some ⟨g, 1, none⟩)) (ex_field 40 1 (.pointer (some ⟨g, 0, none⟩)) (.pointer (some ⟨g, 1, none⟩)) (fa40_1_0 g) _ rfl rfl) rfl ?_)
              | ((with_reducible refine gate_s (t := 3) (p := 50) rfl ?_); refine ag_set sT3 g (1) (.int .i64 (wrap64 (t139 - 1))) (yv [.string t138, .int .i64 t139, .int .i64 t140] (Value.int .i8) t141 [.int .i64 t142, .int .i64 t143, .int .i64 t144, .int .i64 t145, .int .i64 t146, .int .i64 t147, .bool t148, .bool t149, .bool t150, .int .i64 t151, .int .i64 t152, .int .i64 t153, t154]) (yv [.string t138, .int .i64 (wrap64 (t139 - 1)), .int .i64 t140] (Value.int .i8) t141 [.int .i64 t142, .int .i64 t143, .int .i64 t144, .int .i64 t145, .int .i64 t146, .int .i64 t147, .bool t148, .bool t149, .bool t150, .int .i64 t151, .int .i64 t152, .int .i64 t153, t154]) BKr.out (yv_lt (a := 3) (n := 64) (c := 13) rfl LN_t141.out rfl (m := 1) (by decide)) rfl rfl ((yv_setp (a := 3) rfl 1 (by decide) _).trans rfl) rfl _ _ rfl rfl rfl ?_; intro w204 ho_ hB_; replace SWo136 := hid (SWo136.out.off ho_ BKr.out (by decide)); replace HL := hid (HL.out.off ho_ (.inl rfl)); replace BKr := hid hB_; clear ho_ hB_))
             (try simp only [Act.put, sI, sZ, sS])
             (first | go_end0 | refine bodyPost_ret (results_none rfl _ _ _) rfl ?_)
             exact ⟨by first | rfl | (simp; done), LN_t141.out, (by exact BKr.out), HL.out⟩
            ·
             rw [if_neg c196] at H
             have c196b0 : ((nt (x4_1 ++ [(⟨#[10]⟩ : ByteArray)]) t137.toNat ByteArray.empty).toList == ([10] : List UInt8)) = false := beq_eq_false_iff_ne.mpr c196
             have c196b1 : ((nt (x4_1 ++ [(⟨#[10]⟩ : ByteArray)]) t137.toNat ByteArray.empty).toList != ([10] : List UInt8)) = true := bne_iff_ne.mpr c196
             have hc196 := hid c196
             clear c196
             by_cases c205 : 0 ≤ (wrap64 (x2_0 + t137))
             ·
              rw [if_pos c205] at H
              have c205b0 : decide (0 ≤ (wrap64 (x2_0 + t137))) = true := decide_eq_true c205
              have hc205 := hid c205
              clear c205
              by_cases c206 : (wrap64 (x2_0 + t137)) ≤ 64
              ·
               rw [if_pos c206] at H
               have c206b0 : decide ((wrap64 (x2_0 + t137)) ≤ 64) = true := decide_eq_true c206
               have hc206 := hid c206
               clear c206
               replace H := Option.bind_eq_some_iff.mp H
               obtain ⟨s156, A207_, H⟩ := H
               have A207 := hid A207_
               clear A207_
               have H' := hid H
               clear H
               have k210 := True.intro
               have k211 := True.intro
               go_wp2_with (first
                | ((with_reducible refine gate_d (N := 29) rfl ?_); obtain ⟨gb135, hgb135⟩ : ∃ g_, wr.heap.size = g_ := ⟨_, rfl⟩; refine ag_lit sT9 (.string (⟨#[10]⟩ : ByteArray)) gb135 hgb135 rfl _ rfl rfl (fun w_ => by kernel_rfl) ?_; intro w208 hb_ hB_ hs_; have GEb135 : Hid (w.heap.size ≤ gb135) := hid (by have := HL.out.size; omega); have NBr_b135 : Hid (g ≠ gb135) := hid (by have := BKr.out.lt; omega); have NBb135_r : Hid (gb135 ≠ g) := hid (by have := NBr_b135.out; omega); replace BKr := hid (BKr.out.below hb_ (by rw [← hgb135]; exact BKr.out.lt)); replace SWx4_1 := hid (SWx4_1.out.below (by rw [hgb135]; exact hb_)); replace HL := hid (HL.out.below hb_ (GEb135.out)); have BKb135 := hid hB_; clear hb_ hB_ hs_ hgb135)
                | (at_builtin; clear k210; refine app_one eT54 w.heap.size (ux4_1) (x4_1.map Value.string) (.string (⟨#[10]⟩ : ByteArray)) gb135 1 SWx4_1.out BKb135.out rfl (by have h_ := hc191.out; rw [List.length_map]; omega) (by have h_ := hc191.out; rw [List.length_map]; unfold maxLen; omega) HL.out.size rfl _ _ rfl rfl rfl ?_; intro uo136 w209 ho_ hb_ hk_ hi_; clear SWx4_1; have SWo136 : Hid (Own w209 w.heap.size 9 (uo136) ((x4_1 ++ [(⟨#[10]⟩ : ByteArray)]).map Value.string)) := hid (by rw [List.map_append]; exact ho_); replace BKr := hid (hk_ _ _ _ (by decide) BKr.out); replace HL := hid (HL.out.below hb_ (Nat.le_refl _)); clear ho_ hb_ hk_ hi_ BKb135)
                | (go_at_call 14; clear k211; refine (i_task_reader_oneOf.calls k181 yr_0_0 yr_1_0 yr_2_0 yr_3_0 yr_4_0 yr_5_0 yr_6_0 yr_7_0 yr_8_0 yr_9_0 yr_10_0 yr_11_0 yr_12_0 yr_13_0 yr_14_0 yr_15_0 yr_16_0 (uo136) (x4_1 ++ [(⟨#[10]⟩ : ByteArray)]) LN_yr_3_0.out t137 t138 t139 t140 t141 t142 t143 t144 t145 t146 t147 t148 t149 t150 t151 t152 t153 t154 g _ BKr.out SWo136.out.slT A192.out).mono ?_; rintro e_ w212 ⟨rfl, ln_t141, hB_, hx_⟩; have LN_t141 := hid ln_t141; clear ln_t141; replace SWo136 := hid (SWo136.out.bex hx_ (Nat.le_refl _) BKr.out (by decide)); replace HL := hid (HL.out.bex hx_ HL.out.size (.inl rfl)); replace BKr := hid hB_; clear hx_ hB_)
                | ((with_reducible refine gate_d (N := 36) rfl ?_); refine ag_fix (.pointer (some ⟨g, 2, none⟩)) (ex_field 40 2 (.pointer (some ⟨g, 0, none⟩)) (.pointer (some ⟨g, 2, none⟩)) (fa40_2_0 g) _ rfl rfl) rfl ?_)
                | ((with_reducible refine gate_d (N := 37) rfl ?_); refine ag_fix (.int .i64 t140) (ex_get sT32 g (2) (.int .i64 t140) ((yv [.string t138, .int .i64 t139, .int .i64 t140] (Value.int .i8) t141 [.int .i64 t142, .int .i64 t143, .int .i64 t144, .int .i64 t145, .int .i64 t146, .int .i64 t147, .bool t148, .bool t149, .bool t150, .int .i64 t151, .int .i64 t152, .int .i64 t153, t154])) BKr.out ((yv_pre (a := 3) rfl 2 (by decide)).trans rfl) _ rfl rfl) rfl ?_)
                | ((with_reducible refine gate_d (N := 41) rfl ?_); obtain ⟨ad155, c213, hv214, HCad155_⟩ := Sl.get (l := x4_1 ++ [(⟨#[10]⟩ : ByteArray)]) (f := Value.string) SWo136.out.sl ByteArray.empty (i := t137) hc194.out hc195.out; have HCad155 := hid HCad155_; clear HCad155_; refine ag_fix (.pointer (some (ad155.add t137.toNat))) (ex_sat _ _ t137 _ _ hv214 hc194.out hc195.out us54 sT9 _ _ rfl rfl rfl) rfl ?_; have HVAad155 := hid hv214; clear hv214)
                | ((with_reducible refine gate_d (N := 42) rfl ?_); refine ag_fix (.string (nt (x4_1 ++ [(⟨#[10]⟩ : ByteArray)]) t137.toNat ByteArray.empty)) (ex_scell sT9 _ _ HCad155.out _ rfl rfl) rfl ?_))
               (try simp only [Act.put, sI, sZ, sS])
               have WR64 := i64_w
               have WR32 := i32_w
               have WR8 := u8_w
               have WRU := u32_w
               refine sq_region (fun w'_ => Bex g w.heap.size w w'_ ∧ Blk w'_ g 40 (yv [.string t138, .int .i64 t139, .int .i64 t140] (Value.int .i8) t141 [.int .i64 t142, .int .i64 t143, .int .i64 t144, .int .i64 t145, .int .i64 t146, .int .i64 t147, .bool t148, .bool t149, .bool t150, .int .i64 t151, .int .i64 t152, .int .i64 t153, t154]) ∧ Own w'_ w.heap.size 9 (uo136) ((x4_1 ++ [(⟨#[10]⟩ : ByteArray)]).map Value.string) ∧ True) [15] [(0, 2), (1, 2), (2, 2), (3, 2), (4, 2), (5, 1), (6, 2), (7, 2), (8, 2), (9, 2), (10, 2), (11, 2), (12, 2), (13, 2), (14, 2), (15, 0)] (by kernel_rfl) (by kernel_rfl) (by kernel_rfl) rfl ?_
               intro w215 hb_
               replace BKr := hid (BKr.out.below hb_ BKr.out.lt)
               replace SWo136 := hid (SWo136.out.below hb_)
               replace HL := hid (HL.out.below hb_ HL.out.size)
               clear hb_
               refine sq_pure (.pointer (some ⟨g, 0, none⟩)) rfl (fun w'_ => ex_mv (.tmp 0) (.inl rfl) _ rfl) rfl rfl ?_
               intro ts_ ht_; simp only [sI, sZ, sS] at ht_; subst ht_
               refine sq_pure (.pointer (some ⟨g, 0, none⟩)) rfl (fun w'_ => by go_simp <;> (unfold wrap64; omega)) rfl rfl ?_
               intro ts_ ht_; simp only [sI, sZ, sS] at ht_; subst ht_
               refine sq_pure (.pointer (some ⟨g, 3, none⟩)) rfl (fun w'_ => ex_field 40 3 (.pointer (some ⟨g, 0, none⟩)) (.pointer (some ⟨g, 3, none⟩)) (fa40_3_0 g) _ rfl rfl) rfl rfl ?_
               intro ts_ ht_; simp only [sI, sZ, sS] at ht_; subst ht_
               refine sq_pure (.pointer (some ⟨g, 3, none⟩)) rfl (fun w'_ => ex_field 31 0 (.pointer (some ⟨g, 3, none⟩)) (.pointer (some ⟨g, 3, none⟩)) (fa31_0_3 g) _ rfl rfl) rfl rfl ?_
               intro ts_ ht_; simp only [sI, sZ, sS] at ht_; subst ht_
               refine sq_pure (.pointer (some ⟨g, 68, none⟩)) rfl (fun w'_ => ex_field 27 2 (.pointer (some ⟨g, 3, none⟩)) (.pointer (some ⟨g, 68, none⟩)) (fa27_2_3 g) _ rfl rfl) rfl rfl ?_
               intro ts_ ht_; simp only [sI, sZ, sS] at ht_; subst ht_
               refine sq_take (.int .i64 t143) ⟨HL.out, BKr.out, SWo136.out, trivial⟩ rfl (fun w'_ hS_ => ex_get sT3 g (68) (.int .i64 t143) ((yv [.string t138, .int .i64 t139, .int .i64 t140] (Value.int .i8) t141 [.int .i64 t142, .int .i64 t143, .int .i64 t144, .int .i64 t145, .int .i64 t146, .int .i64 t147, .bool t148, .bool t149, .bool t150, .int .i64 t151, .int .i64 t152, .int .i64 t153, t154])) hS_.2.1 ((yv_cell (a := 3) (n := 64) rfl LN_t141.out 1 68 (by decide)).trans rfl) _ rfl rfl) rfl rfl ?_
               intro ts_ ht_; simp only [sI, sZ, sS] at ht_; subst ht_
               refine sq_pure (.int .i64 x2_0) rfl (fun w'_ => ex_mv (.tmp 2) (.inl rfl) _ rfl) rfl rfl ?_
               intro ts_ ht_; simp only [sI, sZ, sS] at ht_; subst ht_
               refine sq_pure (.int .i64 t137) rfl (fun w'_ => ex_mv (.tmp 6) (.inl rfl) _ rfl) rfl rfl ?_
               intro ts_ ht_; simp only [sI, sZ, sS] at ht_; subst ht_
               refine sq_pure (.int .i64 (wrap64 (x2_0 + t137))) rfl (fun w'_ => by go_simp <;> (unfold wrap64; omega)) rfl rfl ?_
               intro ts_ ht_; simp only [sI, sZ, sS] at ht_; subst ht_
               refine sq_pure (.int .i64 s156) rfl (fun w'_ => ((ex_shl (k := .i64) (yk := .i64) 1 (wrap64 (x2_0 + t137)) hc205.out hc206.out _ _ _ _ rfl rfl rfl).trans (by rw [i64_w])).trans (by rw [Option.some.inj A207.out])) rfl rfl ?_
               intro ts_ ht_; simp only [sI, sZ, sS] at ht_; subst ht_
               refine sq_pure (.int .i64 (Go.bits .or .i64 t143 s156)) rfl (fun w'_ => by go_simp <;> (unfold wrap64; omega)) rfl rfl ?_
               intro ts_ ht_; simp only [sI, sZ, sS] at ht_; subst ht_
               refine sq_pure (.pointer (some ⟨g, 0, none⟩)) rfl (fun w'_ => by go_simp <;> (unfold wrap64; omega)) rfl rfl ?_
               intro ts_ ht_; simp only [sI, sZ, sS] at ht_; subst ht_
               refine sq_pure (.pointer (some ⟨g, 3, none⟩)) rfl (fun w'_ => ex_field 40 3 (.pointer (some ⟨g, 0, none⟩)) (.pointer (some ⟨g, 3, none⟩)) (fa40_3_0 g) _ rfl rfl) rfl rfl ?_
               intro ts_ ht_; simp only [sI, sZ, sS] at ht_; subst ht_
               refine sq_pure (.pointer (some ⟨g, 3, none⟩)) rfl (fun w'_ => ex_field 31 0 (.pointer (some ⟨g, 3, none⟩)) (.pointer (some ⟨g, 3, none⟩)) (fa31_0_3 g) _ rfl rfl) rfl rfl ?_
               intro ts_ ht_; simp only [sI, sZ, sS] at ht_; subst ht_
               refine sq_pure (.pointer (some ⟨g, 68, none⟩)) rfl (fun w'_ => ex_field 27 2 (.pointer (some ⟨g, 3, none⟩)) (.pointer (some ⟨g, 68, none⟩)) (fa27_2_3 g) _ rfl rfl) rfl rfl ?_
               intro ts_ ht_; simp only [sI, sZ, sS] at ht_; subst ht_
               refine sq_act rfl (fun Q'_ hQ_ => ?_)
               (with_reducible refine gate_s (t := 3) (p := 65) rfl ?_)
               refine ag_set sT3 g (68) (.int .i64 (Go.bits .or .i64 t143 s156)) (yv [.string t138, .int .i64 t139, .int .i64 t140] (Value.int .i8) t141 [.int .i64 t142, .int .i64 t143, .int .i64 t144, .int .i64 t145, .int .i64 t146, .int .i64 t147, .bool t148, .bool t149, .bool t150, .int .i64 t151, .int .i64 t152, .int .i64 t153, t154]) (yv [.string t138, .int .i64 t139, .int .i64 t140] (Value.int .i8) t141 [.int .i64 t142, .int .i64 (Go.bits .or .i64 t143 s156), .int .i64 t144, .int .i64 t145, .int .i64 t146, .int .i64 t147, .bool t148, .bool t149, .bool t150, .int .i64 t151, .int .i64 t152, .int .i64 t153, t154]) BKr.out (yv_lt (a := 3) (n := 64) (c := 13) rfl LN_t141.out rfl (m := 68) (by decide)) rfl rfl ((yv_setc (a := 3) (n := 64) rfl LN_t141.out 1 68 (by decide) _).trans rfl) rfl _ _ rfl rfl rfl ?_
               intro w216 ho_ hB_
               replace SWo136 := hid (SWo136.out.off ho_ BKr.out (by decide))
               replace HL := hid (HL.out.off ho_ (.inl rfl))
               replace BKr := hid hB_
               clear ho_ hB_
               refine act_end ?_
               refine hQ_ _ _ (fun h_ => absurd h_ (by decide)) ?_
               clear hQ_ Q'_
               simp only [Act.put]
               refine sq_end ?_
               clear WR64 WR32 WR8 WRU
               go_wp2_with fail
               (try simp only [Act.put, sI, sZ, sS])
               go_roundg k181
               case measure => have := HK177.out; have := HK180.out; omega
               case rel => exact ⟨wrap64 (x2_0 + (wrap64 (t137 + 1))), wrap64 (x3_0 + 1), t138, t139, t140, t141, t142, Go.bits .or .i64 t143 s156, t144, t145, t146, t147, t148, t149, t150, t151, t152, t153, t154, (by first | rfl | (simp; done) | (simp [*]; done)), (by first | rfl | (simp; done) | (simp [*]; done)), H', (hid (by first | omega | (have := HK177.out; have := HK180.out; omega))), (hid (by first | rfl | (simp only [List.length_set, List.length_replicate, zL_len, List.length_cons, List.length_nil, LN_s3.out, LN_yr_3_0.out, LN_t141.out]; done) | (simp [zL_len, LN_s3.out, LN_yr_3_0.out, LN_t141.out]; done))), (hid (by exact BKr.out)), HL⟩
              ·
               rw [if_neg c206] at H
               exact absurd H (by simp)
             ·
              rw [if_neg c205] at H
              exact absurd H (by simp)
           ·
            rw [if_neg c195] at H
            exact absurd H (by simp)
          ·
           rw [if_neg c194] at H
           exact absurd H (by simp)
         ·
          rw [if_neg c193] at H
          have c193b0 : (t140 == 0) = false := beq_eq_false_iff_ne.mpr c193
          have c193b1 : (t140 != 0) = true := bne_iff_ne.mpr c193
          have hc193 := hid c193
          clear c193
          simp only [Option.some.injEq, Prod.mk.injEq] at H
          obtain ⟨rfl, rfl, rfl, rfl, rfl, rfl, rfl, rfl, rfl, rfl, rfl, rfl, rfl, rfl, rfl, rfl, rfl⟩ := H
          have k219 := True.intro
          have k220 := True.intro
          go_wp2_with (first
           | ((with_reducible refine gate_d (N := 29) rfl ?_); obtain ⟨gb135, hgb135⟩ : ∃ g_, wr.heap.size = g_ := ⟨_, rfl⟩; refine ag_lit sT9 (.string (⟨#[10]⟩ : ByteArray)) gb135 hgb135 rfl _ rfl rfl (fun w_ => by kernel_rfl) ?_; intro w217 hb_ hB_ hs_; have GEb135 : Hid (w.heap.size ≤ gb135) := hid (by have := HL.out.size; omega); have NBr_b135 : Hid (g ≠ gb135) := hid (by have := BKr.out.lt; omega); have NBb135_r : Hid (gb135 ≠ g) := hid (by have := NBr_b135.out; omega); replace BKr := hid (BKr.out.below hb_ (by rw [← hgb135]; exact BKr.out.lt)); replace SWx4_1 := hid (SWx4_1.out.below (by rw [hgb135]; exact hb_)); replace HL := hid (HL.out.below hb_ (GEb135.out)); have BKb135 := hid hB_; clear hb_ hB_ hs_ hgb135)
           | (at_builtin; clear k219; refine app_one eT54 w.heap.size (ux4_1) (x4_1.map Value.string) (.string (⟨#[10]⟩ : ByteArray)) gb135 1 SWx4_1.out BKb135.out rfl (by have h_ := hc191.out; rw [List.length_map]; omega) (by have h_ := hc191.out; rw [List.length_map]; unfold maxLen; omega) HL.out.size rfl _ _ rfl rfl rfl ?_; intro uo136 w218 ho_ hb_ hk_ hi_; clear SWx4_1; have SWo136 : Hid (Own w218 w.heap.size 9 (uo136) ((x4_1 ++ [(⟨#[10]⟩ : ByteArray)]).map Value.string)) := hid (by rw [List.map_append]; exact ho_); replace BKr := hid (hk_ _ _ _ (by decide) BKr.out); replace HL := hid (HL.out.below hb_ (Nat.le_refl _)); clear ho_ hb_ hk_ hi_ BKb135)
           | (go_at_call 14; clear k220; refine (i_task_reader_oneOf.calls k181 yr_0_0 yr_1_0 yr_2_0 yr_3_0 yr_4_0 yr_5_0 yr_6_0 yr_7_0 yr_8_0 yr_9_0 yr_10_0 yr_11_0 yr_12_0 yr_13_0 yr_14_0 yr_15_0 yr_16_0 (uo136) (x4_1 ++ [(⟨#[10]⟩ : ByteArray)]) LN_yr_3_0.out t137 t138 t139 t140 t141 t142 t143 t144 t145 t146 t147 t148 t149 t150 t151 t152 t153 t154 g _ BKr.out SWo136.out.slT A192.out).mono ?_; rintro e_ w221 ⟨rfl, ln_t141, hB_, hx_⟩; have LN_t141 := hid ln_t141; clear ln_t141; replace SWo136 := hid (SWo136.out.bex hx_ (Nat.le_refl _) BKr.out (by decide)); replace HL := hid (HL.out.bex hx_ HL.out.size (.inl rfl)); replace BKr := hid hB_; clear hx_ hB_)
           | ((with_reducible refine gate_d (N := 36) rfl ?_); refine ag_fix (.pointer (some ⟨g, 2, none⟩)) (ex_field 40 2 (.pointer (some ⟨g, 0, none⟩)) (.pointer (some ⟨g, 2, none⟩)) (fa40_2_0 g) _ rfl rfl) rfl ?_)
           | ((with_reducible refine gate_d (N := 37) rfl ?_); refine ag_fix (.int .i64 t140) (ex_get sT32 g (2) (.int .i64 t140) ((yv [.string t138, .int .i64 t139, .int .i64 t140] (Value.int .i8) t141 [.int .i64 t142, .int .i64 t143, .int .i64 t144, .int .i64 t145, .int .i64 t146, .int .i64 t147, .bool t148, .bool t149, .bool t150, .int .i64 t151, .int .i64 t152, .int .i64 t153, t154])) BKr.out ((yv_pre (a := 3) rfl 2 (by decide)).trans rfl) _ rfl rfl) rfl ?_))
          (try simp only [Act.put, sI, sZ, sS])
          (first | go_end0 | refine bodyPost_ret (results_none rfl _ _ _) rfl ?_)
          exact ⟨by first | rfl | (simp; done), LN_t141.out, (by exact BKr.out), HL.out⟩
        ·
         rw [if_neg c191] at H
         exact absurd H (by simp)
       ·
        rw [if_neg c190] at H
        have c190b0 : decide (0 < x3_0) = false := decide_eq_false c190
        have hc190 := hid c190
        clear c190
        replace H := Option.bind_eq_some_iff.mp H
        obtain ⟨⟨t157, t158, t159, t160, t161, t162, t163, t164, t165, t166, t167, t168, t169, t170, t171, t172, t173, t174⟩, A222_, H⟩ := H
        dsimp only at H
        have A222 := hid A222_
        clear A222_
        by_cases c223 : t160 = 0
        ·
         rw [if_pos c223] at H
         have c223b0 : (t160 == 0) = true := beq_iff_eq.mpr c223
         have c223b1 : (t160 != 0) = false := bne_eq_false_iff_eq.mpr c223
         have hc223 := hid c223
         clear c223
         by_cases c224 : 0 ≤ t157
         ·
          rw [if_pos c224] at H
          have c224b0 : decide (0 ≤ t157) = true := decide_eq_true c224
          have hc224 := hid c224
          clear c224
          by_cases c225 : t157 < (x4_1.length : Int)
          ·
           rw [if_pos c225] at H
           have c225b0 : decide (t157 < (x4_1.length : Int)) = true := decide_eq_true c225
           have hc225 := hid c225
           clear c225
           by_cases c226 : (nt x4_1 t157.toNat ByteArray.empty).toList = ([10] : List UInt8)
           ·
            rw [if_pos c226] at H
            have c226b0 : ((nt x4_1 t157.toNat ByteArray.empty).toList == ([10] : List UInt8)) = true := beq_iff_eq.mpr c226
            have c226b1 : ((nt x4_1 t157.toNat ByteArray.empty).toList != ([10] : List UInt8)) = false := bne_eq_false_iff_eq.mpr c226
            have hc226 := hid c226
            clear c226
            simp only [Option.some.injEq, Prod.mk.injEq] at H
            obtain ⟨rfl, rfl, rfl, rfl, rfl, rfl, rfl, rfl, rfl, rfl, rfl, rfl, rfl, rfl, rfl, rfl, rfl⟩ := H
            have k227 := True.intro
            go_wp2_with (first
             | (go_at_call 14; clear k227; refine (i_task_reader_oneOf.calls k181 yr_0_0 yr_1_0 yr_2_0 yr_3_0 yr_4_0 yr_5_0 yr_6_0 yr_7_0 yr_8_0 yr_9_0 yr_10_0 yr_11_0 yr_12_0 yr_13_0 yr_14_0 yr_15_0 yr_16_0 (ux4_1) x4_1 LN_yr_3_0.out t157 t158 t159 t160 t161 t162 t163 t164 t165 t166 t167 t168 t169 t170 t171 t172 t173 t174 g _ BKr.out SWx4_1.out.slT A222.out).mono ?_; rintro e_ w228 ⟨rfl, ln_t161, hB_, hx_⟩; have LN_t161 := hid ln_t161; clear ln_t161; replace SWx4_1 := hid (SWx4_1.out.bex hx_ (Nat.le_refl _) BKr.out (by decide)); replace HL := hid (HL.out.bex hx_ HL.out.size (.inl rfl)); replace BKr := hid hB_; clear hx_ hB_)
             | ((with_reducible refine gate_d (N := 36) rfl ?_); refine ag_fix (.pointer (some ⟨g, 2, none⟩)) (ex_field 40 2 (.pointer (some ⟨g, 0, none⟩)) (.pointer (some ⟨g, 2, none⟩)) (fa40_2_0 g) _ rfl rfl) rfl ?_)
             | ((with_reducible refine gate_d (N := 37) rfl ?_); refine ag_fix (.int .i64 t160) (ex_get sT32 g (2) (.int .i64 t160) ((yv [.string t158, .int .i64 t159, .int .i64 t160] (Value.int .i8) t161 [.int .i64 t162, .int .i64 t163, .int .i64 t164, .int .i64 t165, .int .i64 t166, .int .i64 t167, .bool t168, .bool t169, .bool t170, .int .i64 t171, .int .i64 t172, .int .i64 t173, t174])) BKr.out ((yv_pre (a := 3) rfl 2 (by decide)).trans rfl) _ rfl rfl) rfl ?_)
             | ((with_reducible refine gate_d (N := 41) rfl ?_); obtain ⟨ad175, c229, hv230, HCad175_⟩ := Sl.get (l := x4_1) (f := Value.string) SWx4_1.out.sl ByteArray.empty (i := t157) hc224.out hc225.out; have HCad175 := hid HCad175_; clear HCad175_; refine ag_fix (.pointer (some (ad175.add t157.toNat))) (ex_sat _ _ t157 _ _ hv230 hc224.out hc225.out us54 sT9 _ _ rfl rfl rfl) rfl ?_; have HVAad175 := hid hv230; clear hv230)
             | ((with_reducible refine gate_d (N := 42) rfl ?_); refine ag_fix (.string (nt x4_1 t157.toNat ByteArray.empty)) (ex_scell sT9 _ _ HCad175.out _ rfl rfl) rfl ?_)
             | ((with_reducible refine gate_d (N := 46) rfl ?_); refine ag_fix (.pointer (some ⟨g, 1, none⟩)) (ex_field 40 1 (.pointer (some ⟨g, 0, none⟩)) (.pointer (some ⟨g, 1, none⟩)) (fa40_1_0 g) _ rfl rfl) rfl ?_)
             | ((with_reducible refine gate_d (N := 47) rfl ?_); refine ag_fix (.int .i64 t159) (ex_get sT3 g (1) (.int .i64 t159) ((yv [.string t158, .int .i64 t159, .int .i64 t160] (Value.int .i8) t161 [.int .i64 t162, .int .i64 t163, .int .i64 t164, .int .i64 t165, .int .i64 t166, .int .i64 t167, .bool t168, .bool t169, .bool t170, .int .i64 t171, .int .i64 t172, .int .i64 t173, t174])) BKr.out ((yv_pre (a := 3) rfl 1 (by decide)).trans rfl) _ rfl rfl) rfl ?_)
             | ((with_reducible refine gate_d (N := 50) rfl ?_); refine ag_fix (.pointer (some ⟨g, 1, none⟩)) (ex_field 40 1 (.pointer (some ⟨g, 0, none⟩)) (.pointer (some ⟨g, 1, none⟩)) (fa40_1_0 g) _ rfl rfl) rfl ?_)
             | ((with_reducible refine gate_s (t := 3) (p := 50) rfl ?_); refine ag_set sT3 g (1) (.int .i64 (wrap64 (t159 - 1))) (yv [.string t158, .int .i64 t159, .int .i64 t160] (Value.int .i8) t161 [.int .i64 t162, .int .i64 t163, .int .i64 t164, .int .i64 t165, .int .i64 t166, .int .i64 t167, .bool t168, .bool t169, .bool t170, .int .i64 t171, .int .i64 t172, .int .i64 t173, t174]) (yv [.string t158, .int .i64 (wrap64 (t159 - 1)), .int .i64 t160] (Value.int .i8) t161 [.int .i64 t162, .int .i64 t163, .int .i64 t164, .int .i64 t165, .int .i64 t166, .int .i64 t167, .bool t168, .bool t169, .bool t170, .int .i64 t171, .int .i64 t172, .int .i64 t173, t174]) BKr.out (yv_lt (a := 3) (n := 64) (c := 13) rfl LN_t161.out rfl (m := 1) (by decide)) rfl rfl ((yv_setp (a := 3) rfl 1 (by decide) _).trans rfl) rfl _ _ rfl rfl rfl ?_; intro w231 ho_ hB_; replace SWx4_1 := hid (SWx4_1.out.off ho_ BKr.out (by decide)); replace HL := hid (HL.out.off ho_ (.inl rfl)); replace BKr := hid hB_; clear ho_ hB_))
            (try simp only [Act.put, sI, sZ, sS])
            (first | go_end0 | refine bodyPost_ret (results_none rfl _ _ _) rfl ?_)
            exact ⟨by first | rfl | (simp; done), LN_t161.out, (by exact BKr.out), HL.out⟩
           ·
            rw [if_neg c226] at H
            have c226b0 : ((nt x4_1 t157.toNat ByteArray.empty).toList == ([10] : List UInt8)) = false := beq_eq_false_iff_ne.mpr c226
            have c226b1 : ((nt x4_1 t157.toNat ByteArray.empty).toList != ([10] : List UInt8)) = true := bne_iff_ne.mpr c226
            have hc226 := hid c226
            clear c226
            by_cases c232 : 0 ≤ (wrap64 (x2_0 + t157))
            ·
             rw [if_pos c232] at H
             have c232b0 : decide (0 ≤ (wrap64 (x2_0 + t157))) = true := decide_eq_true c232
             have hc232 := hid c232
             clear c232
             by_cases c233 : (wrap64 (x2_0 + t157)) ≤ 64
             ·
              rw [if_pos c233] at H
              have c233b0 : decide ((wrap64 (x2_0 + t157)) ≤ 64) = true := decide_eq_true c233
              have hc233 := hid c233
              clear c233
              replace H := Option.bind_eq_some_iff.mp H
              obtain ⟨s176, A234_, H⟩ := H
              have A234 := hid A234_
              clear A234_
              have H' := hid H
              clear H
              have k235 := True.intro
              go_wp2_with (first
               | (go_at_call 14; clear k235; refine (i_task_reader_oneOf.calls k181 yr_0_0 yr_1_0 yr_2_0 yr_3_0 yr_4_0 yr_5_0 yr_6_0 yr_7_0 yr_8_0 yr_9_0 yr_10_0 yr_11_0 yr_12_0 yr_13_0 yr_14_0 yr_15_0 yr_16_0 (ux4_1) x4_1 LN_yr_3_0.out t157 t158 t159 t160 t161 t162 t163 t164 t165 t166 t167 t168 t169 t170 t171 t172 t173 t174 g _ BKr.out SWx4_1.out.slT A222.out).mono ?_; rintro e_ w236 ⟨rfl, ln_t161, hB_, hx_⟩; have LN_t161 := hid ln_t161; clear ln_t161; replace SWx4_1 := hid (SWx4_1.out.bex hx_ (Nat.le_refl _) BKr.out (by decide)); replace HL := hid (HL.out.bex hx_ HL.out.size (.inl rfl)); replace BKr := hid hB_; clear hx_ hB_)
               | ((with_reducible refine gate_d (N := 36) rfl ?_); refine ag_fix (.pointer (some ⟨g, 2, none⟩)) (ex_field 40 2 (.pointer (some ⟨g, 0, none⟩)) (.pointer (some ⟨g, 2, none⟩)) (fa40_2_0 g) _ rfl rfl) rfl ?_)
               | ((with_reducible refine gate_d (N := 37) rfl ?_); refine ag_fix (.int .i64 t160) (ex_get sT32 g (2) (.int .i64 t160) ((yv [.string t158, .int .i64 t159, .int .i64 t160] (Value.int .i8) t161 [.int .i64 t162, .int .i64 t163, .int .i64 t164, .int .i64 t165, .int .i64 t166, .int .i64 t167, .bool t168, .bool t169, .bool t170, .int .i64 t171, .int .i64 t172, .int .i64 t173, t174])) BKr.out ((yv_pre (a := 3) rfl 2 (by decide)).trans rfl) _ rfl rfl) rfl ?_)
               | ((with_reducible refine gate_d (N := 41) rfl ?_); obtain ⟨ad175, c237, hv238, HCad175_⟩ := Sl.get (l := x4_1) (f := Value.string) SWx4_1.out.sl ByteArray.empty (i := t157) hc224.out hc225.out; have HCad175 := hid HCad175_; clear HCad175_; refine ag_fix (.pointer (some (ad175.add t157.toNat))) (ex_sat _ _ t157 _ _ hv238 hc224.out hc225.out us54 sT9 _ _ rfl rfl rfl) rfl ?_; have HVAad175 := hid hv238; clear hv238)
               | ((with_reducible refine gate_d (N := 42) rfl ?_); refine ag_fix (.string (nt x4_1 t157.toNat ByteArray.empty)) (ex_scell sT9 _ _ HCad175.out _ rfl rfl) rfl ?_))
              (try simp only [Act.put, sI, sZ, sS])
              have WR64 := i64_w
              have WR32 := i32_w
              have WR8 := u8_w
              have WRU := u32_w
              refine sq_region (fun w'_ => Bex g w.heap.size w w'_ ∧ Blk w'_ g 40 (yv [.string t158, .int .i64 t159, .int .i64 t160] (Value.int .i8) t161 [.int .i64 t162, .int .i64 t163, .int .i64 t164, .int .i64 t165, .int .i64 t166, .int .i64 t167, .bool t168, .bool t169, .bool t170, .int .i64 t171, .int .i64 t172, .int .i64 t173, t174]) ∧ Own w'_ w.heap.size 9 (ux4_1) (x4_1.map Value.string) ∧ True) [15] [(0, 2), (1, 2), (2, 2), (3, 2), (4, 2), (5, 1), (6, 2), (7, 2), (8, 2), (9, 2), (10, 2), (11, 2), (12, 2), (13, 2), (14, 2), (15, 0)] (by kernel_rfl) (by kernel_rfl) (by kernel_rfl) rfl ?_
              intro w239 hb_
              replace BKr := hid (BKr.out.below hb_ BKr.out.lt)
              replace SWx4_1 := hid (SWx4_1.out.below hb_)
              replace HL := hid (HL.out.below hb_ HL.out.size)
              clear hb_
              refine sq_pure (.pointer (some ⟨g, 0, none⟩)) rfl (fun w'_ => ex_mv (.tmp 0) (.inl rfl) _ rfl) rfl rfl ?_
              intro ts_ ht_; simp only [sI, sZ, sS] at ht_; subst ht_
              refine sq_pure (.pointer (some ⟨g, 0, none⟩)) rfl (fun w'_ => by go_simp <;> (unfold wrap64; omega)) rfl rfl ?_
              intro ts_ ht_; simp only [sI, sZ, sS] at ht_; subst ht_
              refine sq_pure (.pointer (some ⟨g, 3, none⟩)) rfl (fun w'_ => ex_field 40 3 (.pointer (some ⟨g, 0, none⟩)) (.pointer (some ⟨g, 3, none⟩)) (fa40_3_0 g) _ rfl rfl) rfl rfl ?_
              intro ts_ ht_; simp only [sI, sZ, sS] at ht_; subst ht_
              refine sq_pure (.pointer (some ⟨g, 3, none⟩)) rfl (fun w'_ => ex_field 31 0 (.pointer (some ⟨g, 3, none⟩)) (.pointer (some ⟨g, 3, none⟩)) (fa31_0_3 g) _ rfl rfl) rfl rfl ?_
              intro ts_ ht_; simp only [sI, sZ, sS] at ht_; subst ht_
              refine sq_pure (.pointer (some ⟨g, 68, none⟩)) rfl (fun w'_ => ex_field 27 2 (.pointer (some ⟨g, 3, none⟩)) (.pointer (some ⟨g, 68, none⟩)) (fa27_2_3 g) _ rfl rfl) rfl rfl ?_
              intro ts_ ht_; simp only [sI, sZ, sS] at ht_; subst ht_
              refine sq_take (.int .i64 t163) ⟨HL.out, BKr.out, SWx4_1.out, trivial⟩ rfl (fun w'_ hS_ => ex_get sT3 g (68) (.int .i64 t163) ((yv [.string t158, .int .i64 t159, .int .i64 t160] (Value.int .i8) t161 [.int .i64 t162, .int .i64 t163, .int .i64 t164, .int .i64 t165, .int .i64 t166, .int .i64 t167, .bool t168, .bool t169, .bool t170, .int .i64 t171, .int .i64 t172, .int .i64 t173, t174])) hS_.2.1 ((yv_cell (a := 3) (n := 64) rfl LN_t161.out 1 68 (by decide)).trans rfl) _ rfl rfl) rfl rfl ?_
              intro ts_ ht_; simp only [sI, sZ, sS] at ht_; subst ht_
              refine sq_pure (.int .i64 x2_0) rfl (fun w'_ => ex_mv (.tmp 2) (.inl rfl) _ rfl) rfl rfl ?_
              intro ts_ ht_; simp only [sI, sZ, sS] at ht_; subst ht_
              refine sq_pure (.int .i64 t157) rfl (fun w'_ => ex_mv (.tmp 6) (.inl rfl) _ rfl) rfl rfl ?_
              intro ts_ ht_; simp only [sI, sZ, sS] at ht_; subst ht_
              refine sq_pure (.int .i64 (wrap64 (x2_0 + t157))) rfl (fun w'_ => by go_simp <;> (unfold wrap64; omega)) rfl rfl ?_
              intro ts_ ht_; simp only [sI, sZ, sS] at ht_; subst ht_
              refine sq_pure (.int .i64 s176) rfl (fun w'_ => ((ex_shl (k := .i64) (yk := .i64) 1 (wrap64 (x2_0 + t157)) hc232.out hc233.out _ _ _ _ rfl rfl rfl).trans (by rw [i64_w])).trans (by rw [Option.some.inj A234.out])) rfl rfl ?_
              intro ts_ ht_; simp only [sI, sZ, sS] at ht_; subst ht_
              refine sq_pure (.int .i64 (Go.bits .or .i64 t163 s176)) rfl (fun w'_ => by go_simp <;> (unfold wrap64; omega)) rfl rfl ?_
              intro ts_ ht_; simp only [sI, sZ, sS] at ht_; subst ht_
              refine sq_pure (.pointer (some ⟨g, 0, none⟩)) rfl (fun w'_ => by go_simp <;> (unfold wrap64; omega)) rfl rfl ?_
              intro ts_ ht_; simp only [sI, sZ, sS] at ht_; subst ht_
              refine sq_pure (.pointer (some ⟨g, 3, none⟩)) rfl (fun w'_ => ex_field 40 3 (.pointer (some ⟨g, 0, none⟩)) (.pointer (some ⟨g, 3, none⟩)) (fa40_3_0 g) _ rfl rfl) rfl rfl ?_
              intro ts_ ht_; simp only [sI, sZ, sS] at ht_; subst ht_
              refine sq_pure (.pointer (some ⟨g, 3, none⟩)) rfl (fun w'_ => ex_field 31 0 (.pointer (some ⟨g, 3, none⟩)) (.pointer (some ⟨g, 3, none⟩)) (fa31_0_3 g) _ rfl rfl) rfl rfl ?_
              intro ts_ ht_; simp only [sI, sZ, sS] at ht_; subst ht_
              refine sq_pure (.pointer (some ⟨g, 68, none⟩)) rfl (fun w'_ => ex_field 27 2 (.pointer (some ⟨g, 3, none⟩)) (.pointer (some ⟨g, 68, none⟩)) (fa27_2_3 g) _ rfl rfl) rfl rfl ?_
              intro ts_ ht_; simp only [sI, sZ, sS] at ht_; subst ht_
              refine sq_act rfl (fun Q'_ hQ_ => ?_)
              (with_reducible refine gate_s (t := 3) (p := 65) rfl ?_)
              refine ag_set sT3 g (68) (.int .i64 (Go.bits .or .i64 t163 s176)) (yv [.string t158, .int .i64 t159, .int .i64 t160] (Value.int .i8) t161 [.int .i64 t162, .int .i64 t163, .int .i64 t164, .int .i64 t165, .int .i64 t166, .int .i64 t167, .bool t168, .bool t169, .bool t170, .int .i64 t171, .int .i64 t172, .int .i64 t173, t174]) (yv [.string t158, .int .i64 t159, .int .i64 t160] (Value.int .i8) t161 [.int .i64 t162, .int .i64 (Go.bits .or .i64 t163 s176), .int .i64 t164, .int .i64 t165, .int .i64 t166, .int .i64 t167, .bool t168, .bool t169, .bool t170, .int .i64 t171, .int .i64 t172, .int .i64 t173, t174]) BKr.out (yv_lt (a := 3) (n := 64) (c := 13) rfl LN_t161.out rfl (m := 68) (by decide)) rfl rfl ((yv_setc (a := 3) (n := 64) rfl LN_t161.out 1 68 (by decide) _).trans rfl) rfl _ _ rfl rfl rfl ?_
              intro w240 ho_ hB_
              replace SWx4_1 := hid (SWx4_1.out.off ho_ BKr.out (by decide))
              replace HL := hid (HL.out.off ho_ (.inl rfl))
              replace BKr := hid hB_
              clear ho_ hB_
              refine act_end ?_
              refine hQ_ _ _ (fun h_ => absurd h_ (by decide)) ?_
              clear hQ_ Q'_
              simp only [Act.put]
              refine sq_end ?_
              clear WR64 WR32 WR8 WRU
              go_wp2_with fail
              (try simp only [Act.put, sI, sZ, sS])
              go_roundg k181
              case measure => have := HK177.out; have := HK180.out; omega
              case rel => exact ⟨wrap64 (x2_0 + (wrap64 (t157 + 1))), wrap64 (x3_0 + 1), t158, t159, t160, t161, t162, Go.bits .or .i64 t163 s176, t164, t165, t166, t167, t168, t169, t170, t171, t172, t173, t174, (by first | rfl | (simp; done) | (simp [*]; done)), (by first | rfl | (simp; done) | (simp [*]; done)), H', (hid (by first | omega | (have := HK177.out; have := HK180.out; omega))), (hid (by first | rfl | (simp only [List.length_set, List.length_replicate, zL_len, List.length_cons, List.length_nil, LN_s3.out, LN_yr_3_0.out, LN_t161.out]; done) | (simp [zL_len, LN_s3.out, LN_yr_3_0.out, LN_t161.out]; done))), (hid (by exact BKr.out)), HL⟩
             ·
              rw [if_neg c233] at H
              exact absurd H (by simp)
            ·
             rw [if_neg c232] at H
             exact absurd H (by simp)
          ·
           rw [if_neg c225] at H
           exact absurd H (by simp)
         ·
          rw [if_neg c224] at H
          exact absurd H (by simp)
        ·
         rw [if_neg c223] at H
         have c223b0 : (t160 == 0) = false := beq_eq_false_iff_ne.mpr c223
         have c223b1 : (t160 != 0) = true := bne_iff_ne.mpr c223
         have hc223 := hid c223
         clear c223
         simp only [Option.some.injEq, Prod.mk.injEq] at H
         obtain ⟨rfl, rfl, rfl, rfl, rfl, rfl, rfl, rfl, rfl, rfl, rfl, rfl, rfl, rfl, rfl, rfl, rfl⟩ := H
         have k241 := True.intro
         go_wp2_with (first
          | (go_at_call 14; clear k241; refine (i_task_reader_oneOf.calls k181 yr_0_0 yr_1_0 yr_2_0 yr_3_0 yr_4_0 yr_5_0 yr_6_0 yr_7_0 yr_8_0 yr_9_0 yr_10_0 yr_11_0 yr_12_0 yr_13_0 yr_14_0 yr_15_0 yr_16_0 (ux4_1) x4_1 LN_yr_3_0.out t157 t158 t159 t160 t161 t162 t163 t164 t165 t166 t167 t168 t169 t170 t171 t172 t173 t174 g _ BKr.out SWx4_1.out.slT A222.out).mono ?_; rintro e_ w242 ⟨rfl, ln_t161, hB_, hx_⟩; have LN_t161 := hid ln_t161; clear ln_t161; replace SWx4_1 := hid (SWx4_1.out.bex hx_ (Nat.le_refl _) BKr.out (by decide)); replace HL := hid (HL.out.bex hx_ HL.out.size (.inl rfl)); replace BKr := hid hB_; clear hx_ hB_)
          | ((with_reducible refine gate_d (N := 36) rfl ?_); refine ag_fix (.pointer (some ⟨g, 2, none⟩)) (ex_field 40 2 (.pointer (some ⟨g, 0, none⟩)) (.pointer (some ⟨g, 2, none⟩)) (fa40_2_0 g) _ rfl rfl) rfl ?_)
          | ((with_reducible refine gate_d (N := 37) rfl ?_); refine ag_fix (.int .i64 t160) (ex_get sT32 g (2) (.int .i64 t160) ((yv [.string t158, .int .i64 t159, .int .i64 t160] (Value.int .i8) t161 [.int .i64 t162, .int .i64 t163, .int .i64 t164, .int .i64 t165, .int .i64 t166, .int .i64 t167, .bool t168, .bool t169, .bool t170, .int .i64 t171, .int .i64 t172, .int .i64 t173, t174])) BKr.out ((yv_pre (a := 3) rfl 2 (by decide)).trans rfl) _ rfl rfl) rfl ?_))
         (try simp only [Act.put, sI, sZ, sS])
         (first | go_end0 | refine bodyPost_ret (results_none rfl _ _ _) rfl ?_)
         exact ⟨by first | rfl | (simp; done), LN_t161.out, (by exact BKr.out), HL.out⟩
   ·
    rw [if_neg c179] at H
    have c179b0 : (yr_2_0 == 0) = false := beq_eq_false_iff_ne.mpr c179
    have c179b1 : (yr_2_0 != 0) = true := bne_iff_ne.mpr c179
    have hc179 := hid c179
    clear c179
    simp only [Option.some.injEq, Prod.mk.injEq] at H
    obtain ⟨rfl, rfl, rfl, rfl, rfl, rfl, rfl, rfl, rfl, rfl, rfl, rfl, rfl, rfl, rfl, rfl, rfl⟩ := H
    go_wp2_with (first
     | ((with_reducible refine gate_d (N := 9) rfl ?_); refine ag_fix (.pointer (some ⟨g, 2, none⟩)) (ex_field 40 2 (.pointer (some ⟨g, 0, none⟩)) (.pointer (some ⟨g, 2, none⟩)) (fa40_2_0 g) _ rfl rfl) rfl ?_)
     | ((with_reducible refine gate_d (N := 10) rfl ?_); refine ag_fix (.int .i64 yr_2_0) (ex_get sT32 g (2) (.int .i64 yr_2_0) ((yv [.string yr_0_0, .int .i64 yr_1_0, .int .i64 yr_2_0] (Value.int .i8) yr_3_0 [.int .i64 yr_4_0, .int .i64 yr_5_0, .int .i64 yr_6_0, .int .i64 yr_7_0, .int .i64 yr_8_0, .int .i64 yr_9_0, .bool yr_10_0, .bool yr_11_0, .bool yr_12_0, .int .i64 yr_13_0, .int .i64 yr_14_0, .int .i64 yr_15_0, yr_16_0])) BKr.out ((yv_pre (a := 3) rfl 2 (by decide)).trans rfl) _ rfl rfl) rfl ?_))
    (try simp only [Act.put, sI, sZ, sS])
    (first | go_end0 | refine bodyPost_ret (results_none rfl _ _ _) rfl ?_)
    exact ⟨by first | rfl | (simp; done), LN_yr_3_0.out, (by exact BKr.out), HL.out⟩
def i_task_options_1.f (s0 : ByteArray) (s1 : Int) (s2 : Int) (s3 : List Int) (s4 : Int) (s5 : Int) (s6 : Int) (s7 : Int) (s8 : Int) (s9 : Int) (s10 : Bool) (s11 : Bool) (s12 : Bool) (s13 : Int) (s14 : Int) (s15 : Int) (s16 : Value) : Option (ByteArray × Int × Int × (List Int) × Int × Int × Int × Int × Int × Int × Bool × Bool × Bool × Int × Int × Int × Value) := some (s0, s1, s2, s3, s4, s5, s6, s7, s8, s9, s10, true, s12, s13, s14, s15, s16)
set_option maxHeartbeats 40000000 in
set_option maxRecDepth 100000 in
theorem i_task_options_1.calls (s0 : ByteArray) (s1 : Int) (s2 : Int) (s3 : List Int) (s4 : Int) (s5 : Int) (s6 : Int) (s7 : Int) (s8 : Int) (s9 : Int) (s10 : Bool) (s11 : Bool) (s12 : Bool) (s13 : Int) (s14 : Int) (s15 : Int) (s16 : Value) (hls3 : s3.length = 64) (q0 : ByteArray) (q1 : Int) (q2 : Int) (q3 : List Int) (q4 : Int) (q5 : Int) (q6 : Int) (q7 : Int) (q8 : Int) (q9 : Int) (q10 : Bool) (q11 : Bool) (q12 : Bool) (q13 : Int) (q14 : Int) (q15 : Int) (q16 : Value) (g : Nat) (w : World) (hB : Blk w g 40 (yv [.string s0, .int .i64 s1, .int .i64 s2] (Value.int .i8) s3 [.int .i64 s4, .int .i64 s5, .int .i64 s6, .int .i64 s7, .int .i64 s8, .int .i64 s9, .bool s10, .bool s11, .bool s12, .int .i64 s13, .int .i64 s14, .int .i64 s15, s16])) (h : i_task_options_1.f s0 s1 s2 s3 s4 s5 s6 s7 s8 s9 s10 s11 s12 s13 s14 s15 s16 = some (q0, q1, q2, q3, q4, q5, q6, q7, q8, q9, q10, q11, q12, q13, q14, q15, q16)) :
    Calls Try.prog 11 #[.pointer (some ⟨g, 0, none⟩)] w fun e w' => e = .returned (.tuple #[]) ∧ q3.length = 64 ∧ Blk w' g 40 (yv [.string q0, .int .i64 q1, .int .i64 q2] (Value.int .i8) q3 [.int .i64 q4, .int .i64 q5, .int .i64 q6, .int .i64 q7, .int .i64 q8, .int .i64 q9, .bool q10, .bool q11, .bool q12, .int .i64 q13, .int .i64 q14, .int .i64 q15, q16]) ∧ Bex g w.heap.size w w' := by
 have LN_s3 := hid hls3
 clear hls3
 have BKr := hid hB
 clear hB
 have HL := hid (Bex.refl g w.heap.size w)
 have H : (some (s0, s1, s2, s3, s4, s5, s6, s7, s8, s9, s10, true, s12, s13, s14, s15, s16)) = some (q0, q1, q2, q3, q4, q5, q6, q7, q8, q9, q10, q11, q12, q13, q14, q15, q16) := h
 clear h
 simp only [Option.some.injEq, Prod.mk.injEq] at H
 obtain ⟨rfl, rfl, rfl, rfl, rfl, rfl, rfl, rfl, rfl, rfl, rfl, rfl, rfl, rfl, rfl, rfl, rfl⟩ := H
 go_enter Try.func11, Try.ntmps11
 go_wp2_with (first
  | ((with_reducible refine gate_d (N := 4) rfl ?_); refine ag_fix (.pointer (some ⟨g, 3, none⟩)) (ex_field 40 3 (.pointer (some ⟨g, 0, none⟩)) (.pointer (some ⟨g, 3, none⟩)) (fa40_3_0 g) _ rfl rfl) rfl ?_)
  | ((with_reducible refine gate_d (N := 5) rfl ?_); refine ag_fix (.pointer (some ⟨g, 74, none⟩)) (ex_field 31 2 (.pointer (some ⟨g, 3, none⟩)) (.pointer (some ⟨g, 74, none⟩)) (fa31_2_3 g) _ rfl rfl) rfl ?_)
  | ((with_reducible refine gate_s (t := 4) (p := 5) rfl ?_); refine ag_set sT4 g (74) (.bool true) (yv [.string s0, .int .i64 s1, .int .i64 s2] (Value.int .i8) s3 [.int .i64 s4, .int .i64 s5, .int .i64 s6, .int .i64 s7, .int .i64 s8, .int .i64 s9, .bool s10, .bool s11, .bool s12, .int .i64 s13, .int .i64 s14, .int .i64 s15, s16]) (yv [.string s0, .int .i64 s1, .int .i64 s2] (Value.int .i8) s3 [.int .i64 s4, .int .i64 s5, .int .i64 s6, .int .i64 s7, .int .i64 s8, .int .i64 s9, .bool s10, .bool true, .bool s12, .int .i64 s13, .int .i64 s14, .int .i64 s15, s16]) BKr.out (yv_lt (a := 3) (n := 64) (c := 13) rfl LN_s3.out rfl (m := 74) (by decide)) rfl rfl ((yv_setc (a := 3) (n := 64) rfl LN_s3.out 7 74 (by decide) _).trans rfl) rfl _ _ rfl rfl rfl ?_; intro w1 ho_ hB_; replace HL := hid (HL.out.off ho_ (.inl rfl)); replace BKr := hid hB_; clear ho_ hB_))
 (try simp only [Act.put, sI, sZ, sS])
 (first | go_end0 | refine bodyPost_ret (results_none rfl _ _ _) rfl ?_)
 exact ⟨by first | rfl | (simp; done), LN_s3.out, (by exact BKr.out), HL.out⟩
def i_task_options_2.f (s0 : ByteArray) (s1 : Int) (s2 : Int) (s3 : List Int) (s4 : Int) (s5 : Int) (s6 : Int) (s7 : Int) (s8 : Int) (s9 : Int) (s10 : Bool) (s11 : Bool) (s12 : Bool) (s13 : Int) (s14 : Int) (s15 : Int) (s16 : Value) : Option (ByteArray × Int × Int × (List Int) × Int × Int × Int × Int × Int × Int × Bool × Bool × Bool × Int × Int × Int × Value) := some (s0, s1, s2, s3, s4, s5, s6, s7, s8, s9, s10, s11, true, s13, s14, s15, s16)
set_option maxHeartbeats 40000000 in
set_option maxRecDepth 100000 in
theorem i_task_options_2.calls (s0 : ByteArray) (s1 : Int) (s2 : Int) (s3 : List Int) (s4 : Int) (s5 : Int) (s6 : Int) (s7 : Int) (s8 : Int) (s9 : Int) (s10 : Bool) (s11 : Bool) (s12 : Bool) (s13 : Int) (s14 : Int) (s15 : Int) (s16 : Value) (hls3 : s3.length = 64) (q0 : ByteArray) (q1 : Int) (q2 : Int) (q3 : List Int) (q4 : Int) (q5 : Int) (q6 : Int) (q7 : Int) (q8 : Int) (q9 : Int) (q10 : Bool) (q11 : Bool) (q12 : Bool) (q13 : Int) (q14 : Int) (q15 : Int) (q16 : Value) (g : Nat) (w : World) (hB : Blk w g 40 (yv [.string s0, .int .i64 s1, .int .i64 s2] (Value.int .i8) s3 [.int .i64 s4, .int .i64 s5, .int .i64 s6, .int .i64 s7, .int .i64 s8, .int .i64 s9, .bool s10, .bool s11, .bool s12, .int .i64 s13, .int .i64 s14, .int .i64 s15, s16])) (h : i_task_options_2.f s0 s1 s2 s3 s4 s5 s6 s7 s8 s9 s10 s11 s12 s13 s14 s15 s16 = some (q0, q1, q2, q3, q4, q5, q6, q7, q8, q9, q10, q11, q12, q13, q14, q15, q16)) :
    Calls Try.prog 12 #[.pointer (some ⟨g, 0, none⟩)] w fun e w' => e = .returned (.tuple #[]) ∧ q3.length = 64 ∧ Blk w' g 40 (yv [.string q0, .int .i64 q1, .int .i64 q2] (Value.int .i8) q3 [.int .i64 q4, .int .i64 q5, .int .i64 q6, .int .i64 q7, .int .i64 q8, .int .i64 q9, .bool q10, .bool q11, .bool q12, .int .i64 q13, .int .i64 q14, .int .i64 q15, q16]) ∧ Bex g w.heap.size w w' := by
 have LN_s3 := hid hls3
 clear hls3
 have BKr := hid hB
 clear hB
 have HL := hid (Bex.refl g w.heap.size w)
 have H : (some (s0, s1, s2, s3, s4, s5, s6, s7, s8, s9, s10, s11, true, s13, s14, s15, s16)) = some (q0, q1, q2, q3, q4, q5, q6, q7, q8, q9, q10, q11, q12, q13, q14, q15, q16) := h
 clear h
 simp only [Option.some.injEq, Prod.mk.injEq] at H
 obtain ⟨rfl, rfl, rfl, rfl, rfl, rfl, rfl, rfl, rfl, rfl, rfl, rfl, rfl, rfl, rfl, rfl, rfl⟩ := H
 go_enter Try.func12, Try.ntmps12
 go_wp2_with (first
  | ((with_reducible refine gate_d (N := 4) rfl ?_); refine ag_fix (.pointer (some ⟨g, 3, none⟩)) (ex_field 40 3 (.pointer (some ⟨g, 0, none⟩)) (.pointer (some ⟨g, 3, none⟩)) (fa40_3_0 g) _ rfl rfl) rfl ?_)
  | ((with_reducible refine gate_d (N := 5) rfl ?_); refine ag_fix (.pointer (some ⟨g, 75, none⟩)) (ex_field 31 3 (.pointer (some ⟨g, 3, none⟩)) (.pointer (some ⟨g, 75, none⟩)) (fa31_3_3 g) _ rfl rfl) rfl ?_)
  | ((with_reducible refine gate_s (t := 4) (p := 5) rfl ?_); refine ag_set sT4 g (75) (.bool true) (yv [.string s0, .int .i64 s1, .int .i64 s2] (Value.int .i8) s3 [.int .i64 s4, .int .i64 s5, .int .i64 s6, .int .i64 s7, .int .i64 s8, .int .i64 s9, .bool s10, .bool s11, .bool s12, .int .i64 s13, .int .i64 s14, .int .i64 s15, s16]) (yv [.string s0, .int .i64 s1, .int .i64 s2] (Value.int .i8) s3 [.int .i64 s4, .int .i64 s5, .int .i64 s6, .int .i64 s7, .int .i64 s8, .int .i64 s9, .bool s10, .bool s11, .bool true, .int .i64 s13, .int .i64 s14, .int .i64 s15, s16]) BKr.out (yv_lt (a := 3) (n := 64) (c := 13) rfl LN_s3.out rfl (m := 75) (by decide)) rfl rfl ((yv_setc (a := 3) (n := 64) rfl LN_s3.out 8 75 (by decide) _).trans rfl) rfl _ _ rfl rfl rfl ?_; intro w1 ho_ hB_; replace HL := hid (HL.out.off ho_ (.inl rfl)); replace BKr := hid hB_; clear ho_ hB_))
 (try simp only [Act.put, sI, sZ, sS])
 (first | go_end0 | refine bodyPost_ret (results_none rfl _ _ _) rfl ?_)
 exact ⟨by first | rfl | (simp; done), LN_s3.out, (by exact BKr.out), HL.out⟩
def i_task_options_3.f (k : Nat) (s0 : ByteArray) (s1 : Int) (s2 : Int) (s3 : List Int) (s4 : Int) (s5 : Int) (s6 : Int) (s7 : Int) (s8 : Int) (s9 : Int) (s10 : Bool) (s11 : Bool) (s12 : Bool) (s13 : Int) (s14 : Int) (s15 : Int) (s16 : Value) : Option (ByteArray × Int × Int × (List Int) × Int × Int × Int × Int × Int × Int × Bool × Bool × Bool × Int × Int × Int × Value) := (i_task_reader_oneOf.f k s0 s1 s2 s3 s4 s5 s6 s7 s8 s9 s10 s11 s12 s13 s14 s15 s16 [(⟨#[32, 119, 104, 105, 116, 101]⟩ : ByteArray), (⟨#[32, 98, 108, 97, 99, 107]⟩ : ByteArray)]).bind fun bt2 => (some (bt2.2.1, bt2.2.2.1, bt2.2.2.2.1, bt2.2.2.2.2.1, bt2.2.2.2.2.2.1, bt2.2.2.2.2.2.2.1, bt2.2.2.2.2.2.2.2.1, bt2.2.2.2.2.2.2.2.2.1, bt2.2.2.2.2.2.2.2.2.2.1, bt2.2.2.2.2.2.2.2.2.2.2.1, bt2.2.2.2.2.2.2.2.2.2.2.2.1, bt2.2.2.2.2.2.2.2.2.2.2.2.2.1, bt2.2.2.2.2.2.2.2.2.2.2.2.2.2.1, bt2.2.2.2.2.2.2.2.2.2.2.2.2.2.2.1, bt2.2.2.2.2.2.2.2.2.2.2.2.2.2.2.2.1, bt2.1, bt2.2.2.2.2.2.2.2.2.2.2.2.2.2.2.2.2.2))
set_option maxHeartbeats 40000000 in
set_option maxRecDepth 100000 in
theorem i_task_options_3.calls (k : Nat) (s0 : ByteArray) (s1 : Int) (s2 : Int) (s3 : List Int) (s4 : Int) (s5 : Int) (s6 : Int) (s7 : Int) (s8 : Int) (s9 : Int) (s10 : Bool) (s11 : Bool) (s12 : Bool) (s13 : Int) (s14 : Int) (s15 : Int) (s16 : Value) (hls3 : s3.length = 64) (q0 : ByteArray) (q1 : Int) (q2 : Int) (q3 : List Int) (q4 : Int) (q5 : Int) (q6 : Int) (q7 : Int) (q8 : Int) (q9 : Int) (q10 : Bool) (q11 : Bool) (q12 : Bool) (q13 : Int) (q14 : Int) (q15 : Int) (q16 : Value) (g : Nat) (w : World) (hB : Blk w g 40 (yv [.string s0, .int .i64 s1, .int .i64 s2] (Value.int .i8) s3 [.int .i64 s4, .int .i64 s5, .int .i64 s6, .int .i64 s7, .int .i64 s8, .int .i64 s9, .bool s10, .bool s11, .bool s12, .int .i64 s13, .int .i64 s14, .int .i64 s15, s16])) (h : i_task_options_3.f k s0 s1 s2 s3 s4 s5 s6 s7 s8 s9 s10 s11 s12 s13 s14 s15 s16 = some (q0, q1, q2, q3, q4, q5, q6, q7, q8, q9, q10, q11, q12, q13, q14, q15, q16)) :
    Calls Try.prog 13 #[.pointer (some ⟨g, 0, none⟩)] w fun e w' => e = .returned (.tuple #[]) ∧ q3.length = 64 ∧ Blk w' g 40 (yv [.string q0, .int .i64 q1, .int .i64 q2] (Value.int .i8) q3 [.int .i64 q4, .int .i64 q5, .int .i64 q6, .int .i64 q7, .int .i64 q8, .int .i64 q9, .bool q10, .bool q11, .bool q12, .int .i64 q13, .int .i64 q14, .int .i64 q15, q16]) ∧ Bex g w.heap.size w w' := by
 have LN_s3 := hid hls3
 clear hls3
 have BKr := hid hB
 clear hB
 have HL := hid (Bex.refl g w.heap.size w)
 have H : ((i_task_reader_oneOf.f k s0 s1 s2 s3 s4 s5 s6 s7 s8 s9 s10 s11 s12 s13 s14 s15 s16 [(⟨#[32, 119, 104, 105, 116, 101]⟩ : ByteArray), (⟨#[32, 98, 108, 97, 99, 107]⟩ : ByteArray)]).bind fun bt2 => (some (bt2.2.1, bt2.2.2.1, bt2.2.2.2.1, bt2.2.2.2.2.1, bt2.2.2.2.2.2.1, bt2.2.2.2.2.2.2.1, bt2.2.2.2.2.2.2.2.1, bt2.2.2.2.2.2.2.2.2.1, bt2.2.2.2.2.2.2.2.2.2.1, bt2.2.2.2.2.2.2.2.2.2.2.1, bt2.2.2.2.2.2.2.2.2.2.2.2.1, bt2.2.2.2.2.2.2.2.2.2.2.2.2.1, bt2.2.2.2.2.2.2.2.2.2.2.2.2.2.1, bt2.2.2.2.2.2.2.2.2.2.2.2.2.2.2.1, bt2.2.2.2.2.2.2.2.2.2.2.2.2.2.2.2.1, bt2.1, bt2.2.2.2.2.2.2.2.2.2.2.2.2.2.2.2.2.2))) = some (q0, q1, q2, q3, q4, q5, q6, q7, q8, q9, q10, q11, q12, q13, q14, q15, q16) := h
 clear h
 replace H := Option.bind_eq_some_iff.mp H
 obtain ⟨⟨t2, t3, t4, t5, t6, t7, t8, t9, t10, t11, t12, t13, t14, t15, t16, t17, t18, t19⟩, A20_, H⟩ := H
 dsimp only at H
 have A20 := hid A20_
 clear A20_
 simp only [Option.some.injEq, Prod.mk.injEq] at H
 obtain ⟨rfl, rfl, rfl, rfl, rfl, rfl, rfl, rfl, rfl, rfl, rfl, rfl, rfl, rfl, rfl, rfl, rfl⟩ := H
 go_enter Try.func13, Try.ntmps13
 have k22 := True.intro
 go_wp2_with (first
  | ((with_reducible refine gate_d (N := 4) rfl ?_); obtain ⟨go1, hgo1⟩ : ∃ g_, w.heap.size = g_ := ⟨_, rfl⟩; refine ag_litn (e := 9) 2 #[.string (⟨#[32, 119, 104, 105, 116, 101]⟩ : ByteArray), .string (⟨#[32, 98, 108, 97, 99, 107]⟩ : ByteArray)] go1 hgo1 rfl _ rfl (fun w_ => by (try simp only [List.map_toArray, List.map_cons, List.map_nil]); kernel_rfl) ?_; intro w21 hb_ hB_ hs_; have GEo1 : Hid (w.heap.size ≤ go1) := hid (by have := HL.out.size; omega); have NBr_o1 : Hid (g ≠ go1) := hid (by have := BKr.out.lt; omega); have NBo1_r : Hid (go1 ≠ g) := hid (by have := NBr_o1.out; omega); replace BKr := hid (BKr.out.below hb_ (by rw [← hgo1]; exact BKr.out.lt)); replace HL := hid (HL.out.below hb_ (GEo1.out)); have BKo1 := hid hB_; clear hb_ hB_ hs_ hgo1; obtain ⟨uo1, hu_⟩ : ∃ u_, u_ = (Value.slice (some ⟨go1, 0, none⟩) 2 2) := ⟨_, rfl⟩; have SWo1 : Hid (Own w21 w.heap.size 9 (uo1) ([(⟨#[32, 119, 104, 105, 116, 101]⟩ : ByteArray), (⟨#[32, 98, 108, 97, 99, 107]⟩ : ByteArray)].map Value.string)) := hid (by rw [hu_]; exact Own.lit GEo1.out BKo1.out rfl (by simp [maxLen])); rw [← hu_]; clear hu_ BKo1)
  | (go_at_call 14; clear k22; refine (i_task_reader_oneOf.calls k s0 s1 s2 s3 s4 s5 s6 s7 s8 s9 s10 s11 s12 s13 s14 s15 s16 (uo1) [(⟨#[32, 119, 104, 105, 116, 101]⟩ : ByteArray), (⟨#[32, 98, 108, 97, 99, 107]⟩ : ByteArray)] LN_s3.out t2 t3 t4 t5 t6 t7 t8 t9 t10 t11 t12 t13 t14 t15 t16 t17 t18 t19 g _ BKr.out SWo1.out.slT A20.out).mono ?_; rintro e_ w23 ⟨rfl, ln_t6, hB_, hx_⟩; have LN_t6 := hid ln_t6; clear ln_t6; replace SWo1 := hid (SWo1.out.bex hx_ (Nat.le_refl _) BKr.out (by decide)); replace HL := hid (HL.out.bex hx_ HL.out.size (.inl rfl)); replace BKr := hid hB_; clear hx_ hB_)
  | ((with_reducible refine gate_d (N := 7) rfl ?_); refine ag_fix (.pointer (some ⟨g, 78, none⟩)) (ex_field 40 4 (.pointer (some ⟨g, 0, none⟩)) (.pointer (some ⟨g, 78, none⟩)) (fa40_4_0 g) _ rfl rfl) rfl ?_)
  | ((with_reducible refine gate_s (t := 3) (p := 7) rfl ?_); refine ag_set sT3 g (78) (.int .i64 t2) (yv [.string t3, .int .i64 t4, .int .i64 t5] (Value.int .i8) t6 [.int .i64 t7, .int .i64 t8, .int .i64 t9, .int .i64 t10, .int .i64 t11, .int .i64 t12, .bool t13, .bool t14, .bool t15, .int .i64 t16, .int .i64 t17, .int .i64 t18, t19]) (yv [.string t3, .int .i64 t4, .int .i64 t5] (Value.int .i8) t6 [.int .i64 t7, .int .i64 t8, .int .i64 t9, .int .i64 t10, .int .i64 t11, .int .i64 t12, .bool t13, .bool t14, .bool t15, .int .i64 t16, .int .i64 t17, .int .i64 t2, t19]) BKr.out (yv_lt (a := 3) (n := 64) (c := 13) rfl LN_t6.out rfl (m := 78) (by decide)) rfl rfl ((yv_setc (a := 3) (n := 64) rfl LN_t6.out 11 78 (by decide) _).trans rfl) rfl _ _ rfl rfl rfl ?_; intro w24 ho_ hB_; replace SWo1 := hid (SWo1.out.off ho_ BKr.out (by decide)); replace HL := hid (HL.out.off ho_ (.inl rfl)); replace BKr := hid hB_; clear ho_ hB_))
 (try simp only [Act.put, sI, sZ, sS])
 (first | go_end0 | refine bodyPost_ret (results_none rfl _ _ _) rfl ?_)
 exact ⟨by first | rfl | (simp; done), LN_t6.out, (by exact BKr.out), HL.out⟩
def i_task_options_4.f (k : Nat) (s0 : ByteArray) (s1 : Int) (s2 : Int) (s3 : List Int) (s4 : Int) (s5 : Int) (s6 : Int) (s7 : Int) (s8 : Int) (s9 : Int) (s10 : Bool) (s11 : Bool) (s12 : Bool) (s13 : Int) (s14 : Int) (s15 : Int) (s16 : Value) : Option (ByteArray × Int × Int × (List Int) × Int × Int × Int × Int × Int × Int × Bool × Bool × Bool × Int × Int × Int × Value) := (i_task_reader_word.f k s0 s1 s2 s3 s4 s5 s6 s7 s8 s9 s10 s11 s12 s13 s14 s15 s16 (⟨#[32]⟩ : ByteArray)).bind fun bt1 => ((i_task_reader_number.f k bt1.1 bt1.2.1 bt1.2.2.1 bt1.2.2.2.1 bt1.2.2.2.2.1 bt1.2.2.2.2.2.1 bt1.2.2.2.2.2.2.1 bt1.2.2.2.2.2.2.2.1 bt1.2.2.2.2.2.2.2.2.1 bt1.2.2.2.2.2.2.2.2.2.1 bt1.2.2.2.2.2.2.2.2.2.2.1 bt1.2.2.2.2.2.2.2.2.2.2.2.1 bt1.2.2.2.2.2.2.2.2.2.2.2.2.1 bt1.2.2.2.2.2.2.2.2.2.2.2.2.2.1 bt1.2.2.2.2.2.2.2.2.2.2.2.2.2.2.1 bt1.2.2.2.2.2.2.2.2.2.2.2.2.2.2.2.1 bt1.2.2.2.2.2.2.2.2.2.2.2.2.2.2.2.2 1 1000).bind fun bt18 => (some (bt18.2.1, bt18.2.2.1, bt18.2.2.2.1, bt18.2.2.2.2.1, bt18.2.2.2.2.2.1, bt18.2.2.2.2.2.2.1, bt18.2.2.2.2.2.2.2.1, bt18.2.2.2.2.2.2.2.2.1, bt18.2.2.2.2.2.2.2.2.2.1, bt18.2.2.2.2.2.2.2.2.2.2.1, bt18.2.2.2.2.2.2.2.2.2.2.2.1, bt18.2.2.2.2.2.2.2.2.2.2.2.2.1, bt18.2.2.2.2.2.2.2.2.2.2.2.2.2.1, bt18.1, bt18.2.2.2.2.2.2.2.2.2.2.2.2.2.2.2.1, bt18.2.2.2.2.2.2.2.2.2.2.2.2.2.2.2.2.1, bt18.2.2.2.2.2.2.2.2.2.2.2.2.2.2.2.2.2)))
set_option maxHeartbeats 40000000 in
set_option maxRecDepth 100000 in
theorem i_task_options_4.calls (k : Nat) (s0 : ByteArray) (s1 : Int) (s2 : Int) (s3 : List Int) (s4 : Int) (s5 : Int) (s6 : Int) (s7 : Int) (s8 : Int) (s9 : Int) (s10 : Bool) (s11 : Bool) (s12 : Bool) (s13 : Int) (s14 : Int) (s15 : Int) (s16 : Value) (hls3 : s3.length = 64) (q0 : ByteArray) (q1 : Int) (q2 : Int) (q3 : List Int) (q4 : Int) (q5 : Int) (q6 : Int) (q7 : Int) (q8 : Int) (q9 : Int) (q10 : Bool) (q11 : Bool) (q12 : Bool) (q13 : Int) (q14 : Int) (q15 : Int) (q16 : Value) (g : Nat) (w : World) (hB : Blk w g 40 (yv [.string s0, .int .i64 s1, .int .i64 s2] (Value.int .i8) s3 [.int .i64 s4, .int .i64 s5, .int .i64 s6, .int .i64 s7, .int .i64 s8, .int .i64 s9, .bool s10, .bool s11, .bool s12, .int .i64 s13, .int .i64 s14, .int .i64 s15, s16])) (h : i_task_options_4.f k s0 s1 s2 s3 s4 s5 s6 s7 s8 s9 s10 s11 s12 s13 s14 s15 s16 = some (q0, q1, q2, q3, q4, q5, q6, q7, q8, q9, q10, q11, q12, q13, q14, q15, q16)) :
    Calls Try.prog 15 #[.pointer (some ⟨g, 0, none⟩)] w fun e w' => e = .returned (.tuple #[]) ∧ q3.length = 64 ∧ Blk w' g 40 (yv [.string q0, .int .i64 q1, .int .i64 q2] (Value.int .i8) q3 [.int .i64 q4, .int .i64 q5, .int .i64 q6, .int .i64 q7, .int .i64 q8, .int .i64 q9, .bool q10, .bool q11, .bool q12, .int .i64 q13, .int .i64 q14, .int .i64 q15, q16]) ∧ Bex g w.heap.size w w' := by
 have LN_s3 := hid hls3
 clear hls3
 have BKr := hid hB
 clear hB
 have HL := hid (Bex.refl g w.heap.size w)
 have H : ((i_task_reader_word.f k s0 s1 s2 s3 s4 s5 s6 s7 s8 s9 s10 s11 s12 s13 s14 s15 s16 (⟨#[32]⟩ : ByteArray)).bind fun bt1 => ((i_task_reader_number.f k bt1.1 bt1.2.1 bt1.2.2.1 bt1.2.2.2.1 bt1.2.2.2.2.1 bt1.2.2.2.2.2.1 bt1.2.2.2.2.2.2.1 bt1.2.2.2.2.2.2.2.1 bt1.2.2.2.2.2.2.2.2.1 bt1.2.2.2.2.2.2.2.2.2.1 bt1.2.2.2.2.2.2.2.2.2.2.1 bt1.2.2.2.2.2.2.2.2.2.2.2.1 bt1.2.2.2.2.2.2.2.2.2.2.2.2.1 bt1.2.2.2.2.2.2.2.2.2.2.2.2.2.1 bt1.2.2.2.2.2.2.2.2.2.2.2.2.2.2.1 bt1.2.2.2.2.2.2.2.2.2.2.2.2.2.2.2.1 bt1.2.2.2.2.2.2.2.2.2.2.2.2.2.2.2.2 1 1000).bind fun bt18 => (some (bt18.2.1, bt18.2.2.1, bt18.2.2.2.1, bt18.2.2.2.2.1, bt18.2.2.2.2.2.1, bt18.2.2.2.2.2.2.1, bt18.2.2.2.2.2.2.2.1, bt18.2.2.2.2.2.2.2.2.1, bt18.2.2.2.2.2.2.2.2.2.1, bt18.2.2.2.2.2.2.2.2.2.2.1, bt18.2.2.2.2.2.2.2.2.2.2.2.1, bt18.2.2.2.2.2.2.2.2.2.2.2.2.1, bt18.2.2.2.2.2.2.2.2.2.2.2.2.2.1, bt18.1, bt18.2.2.2.2.2.2.2.2.2.2.2.2.2.2.2.1, bt18.2.2.2.2.2.2.2.2.2.2.2.2.2.2.2.2.1, bt18.2.2.2.2.2.2.2.2.2.2.2.2.2.2.2.2.2)))) = some (q0, q1, q2, q3, q4, q5, q6, q7, q8, q9, q10, q11, q12, q13, q14, q15, q16) := h
 clear h
 replace H := Option.bind_eq_some_iff.mp H
 obtain ⟨⟨t1, t2, t3, t4, t5, t6, t7, t8, t9, t10, t11, t12, t13, t14, t15, t16, t17⟩, A36_, H⟩ := H
 dsimp only at H
 have A36 := hid A36_
 clear A36_
 replace H := Option.bind_eq_some_iff.mp H
 obtain ⟨⟨t18, t19, t20, t21, t22, t23, t24, t25, t26, t27, t28, t29, t30, t31, t32, t33, t34, t35⟩, A37_, H⟩ := H
 dsimp only at H
 have A37 := hid A37_
 clear A37_
 simp only [Option.some.injEq, Prod.mk.injEq] at H
 obtain ⟨rfl, rfl, rfl, rfl, rfl, rfl, rfl, rfl, rfl, rfl, rfl, rfl, rfl, rfl, rfl, rfl, rfl⟩ := H
 go_enter Try.func15, Try.ntmps15
 have k38 := True.intro
 have k40 := True.intro
 go_wp2_with (first
  | (go_at_call 16; clear k38; refine (i_task_reader_word.calls k s0 s1 s2 s3 s4 s5 s6 s7 s8 s9 s10 s11 s12 s13 s14 s15 s16 (⟨#[32]⟩ : ByteArray) LN_s3.out t1 t2 t3 t4 t5 t6 t7 t8 t9 t10 t11 t12 t13 t14 t15 t16 t17 g _ BKr.out A36.out).mono ?_; rintro e_ w39 ⟨rfl, ln_t4, hB_, hx_⟩; have LN_t4 := hid ln_t4; clear ln_t4; replace HL := hid (HL.out.bex hx_ HL.out.size (.inl rfl)); replace BKr := hid hB_; clear hx_ hB_)
  | (go_at_call 17; clear k40; refine (i_task_reader_number.calls k t1 t2 t3 t4 t5 t6 t7 t8 t9 t10 t11 t12 t13 t14 t15 t16 t17 1 1000 LN_t4.out t18 t19 t20 t21 t22 t23 t24 t25 t26 t27 t28 t29 t30 t31 t32 t33 t34 t35 g _ BKr.out A37.out).mono ?_; rintro e_ w41 ⟨rfl, ln_t22, hB_, hx_⟩; have LN_t22 := hid ln_t22; clear ln_t22; replace HL := hid (HL.out.bex hx_ HL.out.size (.inl rfl)); replace BKr := hid hB_; clear hx_ hB_)
  | ((with_reducible refine gate_d (N := 8) rfl ?_); refine ag_fix (.pointer (some ⟨g, 3, none⟩)) (ex_field 40 3 (.pointer (some ⟨g, 0, none⟩)) (.pointer (some ⟨g, 3, none⟩)) (fa40_3_0 g) _ rfl rfl) rfl ?_)
  | ((with_reducible refine gate_d (N := 9) rfl ?_); refine ag_fix (.pointer (some ⟨g, 76, none⟩)) (ex_field 31 4 (.pointer (some ⟨g, 3, none⟩)) (.pointer (some ⟨g, 76, none⟩)) (fa31_4_3 g) _ rfl rfl) rfl ?_)
  | ((with_reducible refine gate_s (t := 3) (p := 9) rfl ?_); refine ag_set sT3 g (76) (.int .i64 t18) (yv [.string t19, .int .i64 t20, .int .i64 t21] (Value.int .i8) t22 [.int .i64 t23, .int .i64 t24, .int .i64 t25, .int .i64 t26, .int .i64 t27, .int .i64 t28, .bool t29, .bool t30, .bool t31, .int .i64 t32, .int .i64 t33, .int .i64 t34, t35]) (yv [.string t19, .int .i64 t20, .int .i64 t21] (Value.int .i8) t22 [.int .i64 t23, .int .i64 t24, .int .i64 t25, .int .i64 t26, .int .i64 t27, .int .i64 t28, .bool t29, .bool t30, .bool t31, .int .i64 t18, .int .i64 t33, .int .i64 t34, t35]) BKr.out (yv_lt (a := 3) (n := 64) (c := 13) rfl LN_t22.out rfl (m := 76) (by decide)) rfl rfl ((yv_setc (a := 3) (n := 64) rfl LN_t22.out 9 76 (by decide) _).trans rfl) rfl _ _ rfl rfl rfl ?_; intro w42 ho_ hB_; replace HL := hid (HL.out.off ho_ (.inl rfl)); replace BKr := hid hB_; clear ho_ hB_))
 (try simp only [Act.put, sI, sZ, sS])
 (first | go_end0 | refine bodyPost_ret (results_none rfl _ _ _) rfl ?_)
 exact ⟨by first | rfl | (simp; done), LN_t22.out, (by exact BKr.out), HL.out⟩
def i_task_options_5.f (k : Nat) (s0 : ByteArray) (s1 : Int) (s2 : Int) (s3 : List Int) (s4 : Int) (s5 : Int) (s6 : Int) (s7 : Int) (s8 : Int) (s9 : Int) (s10 : Bool) (s11 : Bool) (s12 : Bool) (s13 : Int) (s14 : Int) (s15 : Int) (s16 : Value) : Option (ByteArray × Int × Int × (List Int) × Int × Int × Int × Int × Int × Int × Bool × Bool × Bool × Int × Int × Int × Value) := (i_task_reader_word.f k s0 s1 s2 s3 s4 s5 s6 s7 s8 s9 s10 s11 s12 s13 s14 s15 s16 (⟨#[32]⟩ : ByteArray)).bind fun bt1 => ((i_task_reader_castle.f k bt1.1 bt1.2.1 bt1.2.2.1 bt1.2.2.2.1 bt1.2.2.2.2.1 bt1.2.2.2.2.2.1 bt1.2.2.2.2.2.2.1 bt1.2.2.2.2.2.2.2.1 bt1.2.2.2.2.2.2.2.2.1 bt1.2.2.2.2.2.2.2.2.2.1 bt1.2.2.2.2.2.2.2.2.2.2.1 bt1.2.2.2.2.2.2.2.2.2.2.2.1 bt1.2.2.2.2.2.2.2.2.2.2.2.2.1 bt1.2.2.2.2.2.2.2.2.2.2.2.2.2.1 bt1.2.2.2.2.2.2.2.2.2.2.2.2.2.2.1 bt1.2.2.2.2.2.2.2.2.2.2.2.2.2.2.2.1 bt1.2.2.2.2.2.2.2.2.2.2.2.2.2.2.2.2).bind fun bt18 => (some (bt18.1, bt18.2.1, bt18.2.2.1, bt18.2.2.2.1, bt18.2.2.2.2.1, bt18.2.2.2.2.2.1, bt18.2.2.2.2.2.2.1, bt18.2.2.2.2.2.2.2.1, bt18.2.2.2.2.2.2.2.2.1, bt18.2.2.2.2.2.2.2.2.2.1, bt18.2.2.2.2.2.2.2.2.2.2.1, bt18.2.2.2.2.2.2.2.2.2.2.2.1, bt18.2.2.2.2.2.2.2.2.2.2.2.2.1, bt18.2.2.2.2.2.2.2.2.2.2.2.2.2.1, bt18.2.2.2.2.2.2.2.2.2.2.2.2.2.2.1, bt18.2.2.2.2.2.2.2.2.2.2.2.2.2.2.2.1, bt18.2.2.2.2.2.2.2.2.2.2.2.2.2.2.2.2)))
set_option maxHeartbeats 40000000 in
set_option maxRecDepth 100000 in
theorem i_task_options_5.calls (k : Nat) (s0 : ByteArray) (s1 : Int) (s2 : Int) (s3 : List Int) (s4 : Int) (s5 : Int) (s6 : Int) (s7 : Int) (s8 : Int) (s9 : Int) (s10 : Bool) (s11 : Bool) (s12 : Bool) (s13 : Int) (s14 : Int) (s15 : Int) (s16 : Value) (hls3 : s3.length = 64) (q0 : ByteArray) (q1 : Int) (q2 : Int) (q3 : List Int) (q4 : Int) (q5 : Int) (q6 : Int) (q7 : Int) (q8 : Int) (q9 : Int) (q10 : Bool) (q11 : Bool) (q12 : Bool) (q13 : Int) (q14 : Int) (q15 : Int) (q16 : Value) (g : Nat) (w : World) (hB : Blk w g 40 (yv [.string s0, .int .i64 s1, .int .i64 s2] (Value.int .i8) s3 [.int .i64 s4, .int .i64 s5, .int .i64 s6, .int .i64 s7, .int .i64 s8, .int .i64 s9, .bool s10, .bool s11, .bool s12, .int .i64 s13, .int .i64 s14, .int .i64 s15, s16])) (h : i_task_options_5.f k s0 s1 s2 s3 s4 s5 s6 s7 s8 s9 s10 s11 s12 s13 s14 s15 s16 = some (q0, q1, q2, q3, q4, q5, q6, q7, q8, q9, q10, q11, q12, q13, q14, q15, q16)) :
    Calls Try.prog 18 #[.pointer (some ⟨g, 0, none⟩)] w fun e w' => e = .returned (.tuple #[]) ∧ q3.length = 64 ∧ Blk w' g 40 (yv [.string q0, .int .i64 q1, .int .i64 q2] (Value.int .i8) q3 [.int .i64 q4, .int .i64 q5, .int .i64 q6, .int .i64 q7, .int .i64 q8, .int .i64 q9, .bool q10, .bool q11, .bool q12, .int .i64 q13, .int .i64 q14, .int .i64 q15, q16]) ∧ Bex g w.heap.size w w' := by
 have LN_s3 := hid hls3
 clear hls3
 have BKr := hid hB
 clear hB
 have HL := hid (Bex.refl g w.heap.size w)
 have H : ((i_task_reader_word.f k s0 s1 s2 s3 s4 s5 s6 s7 s8 s9 s10 s11 s12 s13 s14 s15 s16 (⟨#[32]⟩ : ByteArray)).bind fun bt1 => ((i_task_reader_castle.f k bt1.1 bt1.2.1 bt1.2.2.1 bt1.2.2.2.1 bt1.2.2.2.2.1 bt1.2.2.2.2.2.1 bt1.2.2.2.2.2.2.1 bt1.2.2.2.2.2.2.2.1 bt1.2.2.2.2.2.2.2.2.1 bt1.2.2.2.2.2.2.2.2.2.1 bt1.2.2.2.2.2.2.2.2.2.2.1 bt1.2.2.2.2.2.2.2.2.2.2.2.1 bt1.2.2.2.2.2.2.2.2.2.2.2.2.1 bt1.2.2.2.2.2.2.2.2.2.2.2.2.2.1 bt1.2.2.2.2.2.2.2.2.2.2.2.2.2.2.1 bt1.2.2.2.2.2.2.2.2.2.2.2.2.2.2.2.1 bt1.2.2.2.2.2.2.2.2.2.2.2.2.2.2.2.2).bind fun bt18 => (some (bt18.1, bt18.2.1, bt18.2.2.1, bt18.2.2.2.1, bt18.2.2.2.2.1, bt18.2.2.2.2.2.1, bt18.2.2.2.2.2.2.1, bt18.2.2.2.2.2.2.2.1, bt18.2.2.2.2.2.2.2.2.1, bt18.2.2.2.2.2.2.2.2.2.1, bt18.2.2.2.2.2.2.2.2.2.2.1, bt18.2.2.2.2.2.2.2.2.2.2.2.1, bt18.2.2.2.2.2.2.2.2.2.2.2.2.1, bt18.2.2.2.2.2.2.2.2.2.2.2.2.2.1, bt18.2.2.2.2.2.2.2.2.2.2.2.2.2.2.1, bt18.2.2.2.2.2.2.2.2.2.2.2.2.2.2.2.1, bt18.2.2.2.2.2.2.2.2.2.2.2.2.2.2.2.2)))) = some (q0, q1, q2, q3, q4, q5, q6, q7, q8, q9, q10, q11, q12, q13, q14, q15, q16) := h
 clear h
 replace H := Option.bind_eq_some_iff.mp H
 obtain ⟨⟨t1, t2, t3, t4, t5, t6, t7, t8, t9, t10, t11, t12, t13, t14, t15, t16, t17⟩, A35_, H⟩ := H
 dsimp only at H
 have A35 := hid A35_
 clear A35_
 replace H := Option.bind_eq_some_iff.mp H
 obtain ⟨⟨t18, t19, t20, t21, t22, t23, t24, t25, t26, t27, t28, t29, t30, t31, t32, t33, t34⟩, A36_, H⟩ := H
 dsimp only at H
 have A36 := hid A36_
 clear A36_
 simp only [Option.some.injEq, Prod.mk.injEq] at H
 obtain ⟨rfl, rfl, rfl, rfl, rfl, rfl, rfl, rfl, rfl, rfl, rfl, rfl, rfl, rfl, rfl, rfl, rfl⟩ := H
 go_enter Try.func18, Try.ntmps18
 have k37 := True.intro
 have k39 := True.intro
 go_wp2_with (first
  | (go_at_call 16; clear k37; refine (i_task_reader_word.calls k s0 s1 s2 s3 s4 s5 s6 s7 s8 s9 s10 s11 s12 s13 s14 s15 s16 (⟨#[32]⟩ : ByteArray) LN_s3.out t1 t2 t3 t4 t5 t6 t7 t8 t9 t10 t11 t12 t13 t14 t15 t16 t17 g _ BKr.out A35.out).mono ?_; rintro e_ w38 ⟨rfl, ln_t4, hB_, hx_⟩; have LN_t4 := hid ln_t4; clear ln_t4; replace HL := hid (HL.out.bex hx_ HL.out.size (.inl rfl)); replace BKr := hid hB_; clear hx_ hB_)
  | (go_at_call 19; clear k39; refine (i_task_reader_castle.calls k t1 t2 t3 t4 t5 t6 t7 t8 t9 t10 t11 t12 t13 t14 t15 t16 t17 LN_t4.out t18 t19 t20 t21 t22 t23 t24 t25 t26 t27 t28 t29 t30 t31 t32 t33 t34 g _ BKr.out A36.out).mono ?_; rintro e_ w40 ⟨rfl, ln_t21, hB_, hx_⟩; have LN_t21 := hid ln_t21; clear ln_t21; replace HL := hid (HL.out.bex hx_ HL.out.size (.inl rfl)); replace BKr := hid hB_; clear hx_ hB_))
 (try simp only [Act.put, sI, sZ, sS])
 (first | go_end0 | refine bodyPost_ret (results_none rfl _ _ _) rfl ?_)
 exact ⟨by first | rfl | (simp; done), LN_t21.out, (by exact BKr.out), HL.out⟩
def i_task_options_6.f (k : Nat) (s0 : ByteArray) (s1 : Int) (s2 : Int) (s3 : List Int) (s4 : Int) (s5 : Int) (s6 : Int) (s7 : Int) (s8 : Int) (s9 : Int) (s10 : Bool) (s11 : Bool) (s12 : Bool) (s13 : Int) (s14 : Int) (s15 : Int) (s16 : Value) : Option (ByteArray × Int × Int × (List Int) × Int × Int × Int × Int × Int × Int × Bool × Bool × Bool × Int × Int × Int × Value) := (i_task_reader_word.f k s0 s1 s2 s3 s4 s5 s6 s7 s8 s9 s10 s11 s12 s13 s14 s15 s16 (⟨#[32]⟩ : ByteArray)).bind fun bt1 => (if bt1.2.2.1 = 0 then ((i_lex_Square.f k bt1.1 bt1.2.1).bind fun bt18 => ((i_task_reader_step.f bt1.1 bt1.2.1 bt1.2.2.1 bt1.2.2.2.1 bt1.2.2.2.2.1 bt1.2.2.2.2.2.1 bt1.2.2.2.2.2.2.1 bt1.2.2.2.2.2.2.2.1 bt1.2.2.2.2.2.2.2.2.1 bt1.2.2.2.2.2.2.2.2.2.1 bt1.2.2.2.2.2.2.2.2.2.2.1 bt1.2.2.2.2.2.2.2.2.2.2.2.1 bt1.2.2.2.2.2.2.2.2.2.2.2.2.1 bt1.2.2.2.2.2.2.2.2.2.2.2.2.2.1 bt1.2.2.2.2.2.2.2.2.2.2.2.2.2.2.1 bt1.2.2.2.2.2.2.2.2.2.2.2.2.2.2.2.1 bt1.2.2.2.2.2.2.2.2.2.2.2.2.2.2.2.2 bt18.1 bt18.2.1 bt18.2.2).bind fun bt21 => (some (bt21.2.1, bt21.2.2.1, bt21.2.2.2.1, bt21.2.2.2.2.1, bt21.2.2.2.2.2.1, bt21.2.2.2.2.2.2.1, bt21.1, bt21.2.2.2.2.2.2.2.2.1, bt21.2.2.2.2.2.2.2.2.2.1, bt21.2.2.2.2.2.2.2.2.2.2.1, bt21.2.2.2.2.2.2.2.2.2.2.2.1, bt21.2.2.2.2.2.2.2.2.2.2.2.2.1, bt21.2.2.2.2.2.2.2.2.2.2.2.2.2.1, bt21.2.2.2.2.2.2.2.2.2.2.2.2.2.2.1, bt21.2.2.2.2.2.2.2.2.2.2.2.2.2.2.2.1, bt21.2.2.2.2.2.2.2.2.2.2.2.2.2.2.2.2.1, bt21.2.2.2.2.2.2.2.2.2.2.2.2.2.2.2.2.2)))) else (some (bt1.1, bt1.2.1, bt1.2.2.1, bt1.2.2.2.1, bt1.2.2.2.2.1, bt1.2.2.2.2.2.1, bt1.2.2.2.2.2.2.1, bt1.2.2.2.2.2.2.2.1, bt1.2.2.2.2.2.2.2.2.1, bt1.2.2.2.2.2.2.2.2.2.1, bt1.2.2.2.2.2.2.2.2.2.2.1, bt1.2.2.2.2.2.2.2.2.2.2.2.1, bt1.2.2.2.2.2.2.2.2.2.2.2.2.1, bt1.2.2.2.2.2.2.2.2.2.2.2.2.2.1, bt1.2.2.2.2.2.2.2.2.2.2.2.2.2.2.1, bt1.2.2.2.2.2.2.2.2.2.2.2.2.2.2.2.1, bt1.2.2.2.2.2.2.2.2.2.2.2.2.2.2.2.2)))
set_option maxHeartbeats 40000000 in
set_option maxRecDepth 100000 in
theorem i_task_options_6.calls (k : Nat) (s0 : ByteArray) (s1 : Int) (s2 : Int) (s3 : List Int) (s4 : Int) (s5 : Int) (s6 : Int) (s7 : Int) (s8 : Int) (s9 : Int) (s10 : Bool) (s11 : Bool) (s12 : Bool) (s13 : Int) (s14 : Int) (s15 : Int) (s16 : Value) (hls3 : s3.length = 64) (q0 : ByteArray) (q1 : Int) (q2 : Int) (q3 : List Int) (q4 : Int) (q5 : Int) (q6 : Int) (q7 : Int) (q8 : Int) (q9 : Int) (q10 : Bool) (q11 : Bool) (q12 : Bool) (q13 : Int) (q14 : Int) (q15 : Int) (q16 : Value) (g : Nat) (w : World) (hB : Blk w g 40 (yv [.string s0, .int .i64 s1, .int .i64 s2] (Value.int .i8) s3 [.int .i64 s4, .int .i64 s5, .int .i64 s6, .int .i64 s7, .int .i64 s8, .int .i64 s9, .bool s10, .bool s11, .bool s12, .int .i64 s13, .int .i64 s14, .int .i64 s15, s16])) (h : i_task_options_6.f k s0 s1 s2 s3 s4 s5 s6 s7 s8 s9 s10 s11 s12 s13 s14 s15 s16 = some (q0, q1, q2, q3, q4, q5, q6, q7, q8, q9, q10, q11, q12, q13, q14, q15, q16)) :
    Calls Try.prog 20 #[.pointer (some ⟨g, 0, none⟩)] w fun e w' => e = .returned (.tuple #[]) ∧ q3.length = 64 ∧ Blk w' g 40 (yv [.string q0, .int .i64 q1, .int .i64 q2] (Value.int .i8) q3 [.int .i64 q4, .int .i64 q5, .int .i64 q6, .int .i64 q7, .int .i64 q8, .int .i64 q9, .bool q10, .bool q11, .bool q12, .int .i64 q13, .int .i64 q14, .int .i64 q15, q16]) ∧ Bex g w.heap.size w w' := by
 have LN_s3 := hid hls3
 clear hls3
 have BKr := hid hB
 clear hB
 have HL := hid (Bex.refl g w.heap.size w)
 have H : ((i_task_reader_word.f k s0 s1 s2 s3 s4 s5 s6 s7 s8 s9 s10 s11 s12 s13 s14 s15 s16 (⟨#[32]⟩ : ByteArray)).bind fun bt1 => (if bt1.2.2.1 = 0 then ((i_lex_Square.f k bt1.1 bt1.2.1).bind fun bt18 => ((i_task_reader_step.f bt1.1 bt1.2.1 bt1.2.2.1 bt1.2.2.2.1 bt1.2.2.2.2.1 bt1.2.2.2.2.2.1 bt1.2.2.2.2.2.2.1 bt1.2.2.2.2.2.2.2.1 bt1.2.2.2.2.2.2.2.2.1 bt1.2.2.2.2.2.2.2.2.2.1 bt1.2.2.2.2.2.2.2.2.2.2.1 bt1.2.2.2.2.2.2.2.2.2.2.2.1 bt1.2.2.2.2.2.2.2.2.2.2.2.2.1 bt1.2.2.2.2.2.2.2.2.2.2.2.2.2.1 bt1.2.2.2.2.2.2.2.2.2.2.2.2.2.2.1 bt1.2.2.2.2.2.2.2.2.2.2.2.2.2.2.2.1 bt1.2.2.2.2.2.2.2.2.2.2.2.2.2.2.2.2 bt18.1 bt18.2.1 bt18.2.2).bind fun bt21 => (some (bt21.2.1, bt21.2.2.1, bt21.2.2.2.1, bt21.2.2.2.2.1, bt21.2.2.2.2.2.1, bt21.2.2.2.2.2.2.1, bt21.1, bt21.2.2.2.2.2.2.2.2.1, bt21.2.2.2.2.2.2.2.2.2.1, bt21.2.2.2.2.2.2.2.2.2.2.1, bt21.2.2.2.2.2.2.2.2.2.2.2.1, bt21.2.2.2.2.2.2.2.2.2.2.2.2.1, bt21.2.2.2.2.2.2.2.2.2.2.2.2.2.1, bt21.2.2.2.2.2.2.2.2.2.2.2.2.2.2.1, bt21.2.2.2.2.2.2.2.2.2.2.2.2.2.2.2.1, bt21.2.2.2.2.2.2.2.2.2.2.2.2.2.2.2.2.1, bt21.2.2.2.2.2.2.2.2.2.2.2.2.2.2.2.2.2)))) else (some (bt1.1, bt1.2.1, bt1.2.2.1, bt1.2.2.2.1, bt1.2.2.2.2.1, bt1.2.2.2.2.2.1, bt1.2.2.2.2.2.2.1, bt1.2.2.2.2.2.2.2.1, bt1.2.2.2.2.2.2.2.2.1, bt1.2.2.2.2.2.2.2.2.2.1, bt1.2.2.2.2.2.2.2.2.2.2.1, bt1.2.2.2.2.2.2.2.2.2.2.2.1, bt1.2.2.2.2.2.2.2.2.2.2.2.2.1, bt1.2.2.2.2.2.2.2.2.2.2.2.2.2.1, bt1.2.2.2.2.2.2.2.2.2.2.2.2.2.2.1, bt1.2.2.2.2.2.2.2.2.2.2.2.2.2.2.2.1, bt1.2.2.2.2.2.2.2.2.2.2.2.2.2.2.2.2)))) = some (q0, q1, q2, q3, q4, q5, q6, q7, q8, q9, q10, q11, q12, q13, q14, q15, q16) := h
 clear h
 replace H := Option.bind_eq_some_iff.mp H
 obtain ⟨⟨t1, t2, t3, t4, t5, t6, t7, t8, t9, t10, t11, t12, t13, t14, t15, t16, t17⟩, A39_, H⟩ := H
 dsimp only at H
 have A39 := hid A39_
 clear A39_
 by_cases c40 : t3 = 0
 ·
  rw [if_pos c40] at H
  have c40b0 : (t3 == 0) = true := beq_iff_eq.mpr c40
  have c40b1 : (t3 != 0) = false := bne_eq_false_iff_eq.mpr c40
  have hc40 := hid c40
  clear c40
  replace H := Option.bind_eq_some_iff.mp H
  obtain ⟨⟨t18, t19, t20⟩, A41_, H⟩ := H
  dsimp only at H
  have A41 := hid A41_
  clear A41_
  replace H := Option.bind_eq_some_iff.mp H
  obtain ⟨⟨t21, t22, t23, t24, t25, t26, t27, t28, t29, t30, t31, t32, t33, t34, t35, t36, t37, t38⟩, A42_, H⟩ := H
  dsimp only at H
  have A42 := hid A42_
  clear A42_
  simp only [Option.some.injEq, Prod.mk.injEq] at H
  obtain ⟨rfl, rfl, rfl, rfl, rfl, rfl, rfl, rfl, rfl, rfl, rfl, rfl, rfl, rfl, rfl, rfl, rfl⟩ := H
  go_enter Try.func20, Try.ntmps20
  have k43 := True.intro
  go_wp2_with (first
   | (go_at_call 16; clear k43; refine (i_task_reader_word.calls k s0 s1 s2 s3 s4 s5 s6 s7 s8 s9 s10 s11 s12 s13 s14 s15 s16 (⟨#[32]⟩ : ByteArray) LN_s3.out t1 t2 t3 t4 t5 t6 t7 t8 t9 t10 t11 t12 t13 t14 t15 t16 t17 g _ BKr.out A39.out).mono ?_; rintro e_ w44 ⟨rfl, ln_t4, hB_, hx_⟩; have LN_t4 := hid ln_t4; clear ln_t4; replace HL := hid (HL.out.bex hx_ HL.out.size (.inl rfl)); replace BKr := hid hB_; clear hx_ hB_)
   | ((with_reducible refine gate_d (N := 6) rfl ?_); refine ag_fix (.pointer (some ⟨g, 2, none⟩)) (ex_field 40 2 (.pointer (some ⟨g, 0, none⟩)) (.pointer (some ⟨g, 2, none⟩)) (fa40_2_0 g) _ rfl rfl) rfl ?_)
   | ((with_reducible refine gate_d (N := 7) rfl ?_); refine ag_fix (.int .i64 t3) (ex_get sT32 g (2) (.int .i64 t3) ((yv [.string t1, .int .i64 t2, .int .i64 t3] (Value.int .i8) t4 [.int .i64 t5, .int .i64 t6, .int .i64 t7, .int .i64 t8, .int .i64 t9, .int .i64 t10, .bool t11, .bool t12, .bool t13, .int .i64 t14, .int .i64 t15, .int .i64 t16, t17])) BKr.out ((yv_pre (a := 3) rfl 2 (by decide)).trans rfl) _ rfl rfl) rfl ?_))
  (try simp only [Act.put, sI, sZ, sS])
  have WR64 := i64_w
  have WR32 := i32_w
  have WR8 := u8_w
  have WRU := u32_w
  refine sq_region (fun w'_ => Bex g w.heap.size w w'_ ∧ Blk w'_ g 40 (yv [.string t1, .int .i64 t2, .int .i64 t3] (Value.int .i8) t4 [.int .i64 t5, .int .i64 t6, .int .i64 t7, .int .i64 t8, .int .i64 t9, .int .i64 t10, .bool t11, .bool t12, .bool t13, .int .i64 t14, .int .i64 t15, .int .i64 t16, t17]) ∧ True) [10, 11, 16] [(0, 2), (1, 2), (2, 2), (3, 2), (4, 2), (5, 1), (6, 2), (7, 2), (8, 2), (9, 1), (10, 0), (11, 0), (12, 2), (13, 2), (14, 2), (15, 2), (16, 0)] (by kernel_rfl) (by kernel_rfl) (by kernel_rfl) rfl ?_
  intro w45 hb_
  replace BKr := hid (BKr.out.below hb_ BKr.out.lt)
  replace HL := hid (HL.out.below hb_ HL.out.size)
  clear hb_
  refine sq_pure (.pointer (some ⟨g, 0, none⟩)) rfl (fun w'_ => ex_mv (.tmp 0) (.inl rfl) _ rfl) rfl rfl ?_
  intro ts_ ht_; simp only [sI, sZ, sS] at ht_; subst ht_
  refine sq_pure (.pointer (some ⟨g, 0, none⟩)) rfl (fun w'_ => ex_mv (.tmp 0) (.inl rfl) _ rfl) rfl rfl ?_
  intro ts_ ht_; simp only [sI, sZ, sS] at ht_; subst ht_
  refine sq_pure (.pointer (some ⟨g, 0, none⟩)) rfl (fun w'_ => ex_mv (.tmp 0) (.inl rfl) _ rfl) rfl rfl ?_
  intro ts_ ht_; simp only [sI, sZ, sS] at ht_; subst ht_
  refine sq_pure (.pointer (some ⟨g, 0, none⟩)) rfl (fun w'_ => by go_simp <;> (unfold wrap64; omega)) rfl rfl ?_
  intro ts_ ht_; simp only [sI, sZ, sS] at ht_; subst ht_
  refine sq_pure (.pointer (some ⟨g, 0, none⟩)) rfl (fun w'_ => ex_field 40 0 (.pointer (some ⟨g, 0, none⟩)) (.pointer (some ⟨g, 0, none⟩)) (fa40_0_0 g) _ rfl rfl) rfl rfl ?_
  intro ts_ ht_; simp only [sI, sZ, sS] at ht_; subst ht_
  refine sq_take (.string t1) ⟨HL.out, BKr.out, trivial⟩ rfl (fun w'_ hS_ => ex_get sT9 g (0) (.string t1) ((yv [.string t1, .int .i64 t2, .int .i64 t3] (Value.int .i8) t4 [.int .i64 t5, .int .i64 t6, .int .i64 t7, .int .i64 t8, .int .i64 t9, .int .i64 t10, .bool t11, .bool t12, .bool t13, .int .i64 t14, .int .i64 t15, .int .i64 t16, t17])) hS_.2.1 ((yv_pre (a := 3) rfl 0 (by decide)).trans rfl) _ rfl rfl) rfl rfl ?_
  intro ts_ ht_; simp only [sI, sZ, sS] at ht_; subst ht_
  refine sq_pure (.pointer (some ⟨g, 0, none⟩)) rfl (fun w'_ => ex_mv (.tmp 0) (.inl rfl) _ rfl) rfl rfl ?_
  intro ts_ ht_; simp only [sI, sZ, sS] at ht_; subst ht_
  refine sq_pure (.pointer (some ⟨g, 0, none⟩)) rfl (fun w'_ => by go_simp <;> (unfold wrap64; omega)) rfl rfl ?_
  intro ts_ ht_; simp only [sI, sZ, sS] at ht_; subst ht_
  refine sq_pure (.pointer (some ⟨g, 1, none⟩)) rfl (fun w'_ => ex_field 40 1 (.pointer (some ⟨g, 0, none⟩)) (.pointer (some ⟨g, 1, none⟩)) (fa40_1_0 g) _ rfl rfl) rfl rfl ?_
  intro ts_ ht_; simp only [sI, sZ, sS] at ht_; subst ht_
  refine sq_take (.int .i64 t2) ⟨HL.out, BKr.out, trivial⟩ rfl (fun w'_ hS_ => ex_get sT3 g (1) (.int .i64 t2) ((yv [.string t1, .int .i64 t2, .int .i64 t3] (Value.int .i8) t4 [.int .i64 t5, .int .i64 t6, .int .i64 t7, .int .i64 t8, .int .i64 t9, .int .i64 t10, .bool t11, .bool t12, .bool t13, .int .i64 t14, .int .i64 t15, .int .i64 t16, t17])) hS_.2.1 ((yv_pre (a := 3) rfl 1 (by decide)).trans rfl) _ rfl rfl) rfl rfl ?_
  intro ts_ ht_; simp only [sI, sZ, sS] at ht_; subst ht_
  refine sq_act rfl (fun Q'_ hQ_ => ?_)
  refine wl_call 22 #[.string t1, .int .i64 t2] (by go_simp) rfl ((i_lex_Square.calls k t1 t2 t18 t19 t20 _ A41.out).mono ?_)
  rintro e_ w47 ⟨rfl, hb_⟩
  replace BKr := hid (BKr.out.below hb_ BKr.out.lt)
  replace HL := hid (HL.out.below hb_ HL.out.size)
  clear hb_
  refine ⟨_, rfl, ?_⟩
  refine hQ_ _ _ (fun h_ => absurd h_ (by decide)) ?_
  clear hQ_ Q'_
  simp only [Act.put, sI, sZ, sS]
  refine sq_act rfl (fun Q'_ hQ_ => ?_)
  refine wl_call 21 #[.pointer (some ⟨g, 0, none⟩), .agg #[.int .i64 t18, .int .i64 t19, .int .i64 t20]] (by go_simp) rfl ((i_task_reader_step.calls t1 t2 t3 t4 t5 t6 t7 t8 t9 t10 t11 t12 t13 t14 t15 t16 t17 t18 t19 t20 LN_t4.out t21 t22 t23 t24 t25 t26 t27 t28 t29 t30 t31 t32 t33 t34 t35 t36 t37 t38 g _ BKr.out A42.out).mono ?_)
  rintro e_ w49 ⟨rfl, ln_t25, hB_, hx_⟩
  have LN_t25 := hid ln_t25
  clear ln_t25
  replace HL := hid (HL.out.bex hx_ HL.out.size (.inl rfl))
  replace BKr := hid hB_
  clear hx_ hB_
  refine ⟨_, rfl, ?_⟩
  refine hQ_ _ _ (fun h_ => absurd h_ (by decide)) ?_
  clear hQ_ Q'_
  simp only [Act.put, sI, sZ, sS]
  refine sq_pure (.pointer (some ⟨g, 0, none⟩)) rfl (fun w'_ => by go_simp <;> (unfold wrap64; omega)) rfl rfl ?_
  intro ts_ ht_; simp only [sI, sZ, sS] at ht_; subst ht_
  refine sq_pure (.pointer (some ⟨g, 3, none⟩)) rfl (fun w'_ => ex_field 40 3 (.pointer (some ⟨g, 0, none⟩)) (.pointer (some ⟨g, 3, none⟩)) (fa40_3_0 g) _ rfl rfl) rfl rfl ?_
  intro ts_ ht_; simp only [sI, sZ, sS] at ht_; subst ht_
  refine sq_pure (.pointer (some ⟨g, 3, none⟩)) rfl (fun w'_ => ex_field 31 0 (.pointer (some ⟨g, 3, none⟩)) (.pointer (some ⟨g, 3, none⟩)) (fa31_0_3 g) _ rfl rfl) rfl rfl ?_
  intro ts_ ht_; simp only [sI, sZ, sS] at ht_; subst ht_
  refine sq_pure (.pointer (some ⟨g, 69, none⟩)) rfl (fun w'_ => ex_field 27 3 (.pointer (some ⟨g, 3, none⟩)) (.pointer (some ⟨g, 69, none⟩)) (fa27_3_3 g) _ rfl rfl) rfl rfl ?_
  intro ts_ ht_; simp only [sI, sZ, sS] at ht_; subst ht_
  refine sq_act rfl (fun Q'_ hQ_ => ?_)
  (with_reducible refine gate_s (t := 3) (p := 24) rfl ?_)
  refine ag_set sT3 g (69) (.int .i64 t21) (yv [.string t22, .int .i64 t23, .int .i64 t24] (Value.int .i8) t25 [.int .i64 t26, .int .i64 t27, .int .i64 t28, .int .i64 t29, .int .i64 t30, .int .i64 t31, .bool t32, .bool t33, .bool t34, .int .i64 t35, .int .i64 t36, .int .i64 t37, t38]) (yv [.string t22, .int .i64 t23, .int .i64 t24] (Value.int .i8) t25 [.int .i64 t26, .int .i64 t27, .int .i64 t21, .int .i64 t29, .int .i64 t30, .int .i64 t31, .bool t32, .bool t33, .bool t34, .int .i64 t35, .int .i64 t36, .int .i64 t37, t38]) BKr.out (yv_lt (a := 3) (n := 64) (c := 13) rfl LN_t25.out rfl (m := 69) (by decide)) rfl rfl ((yv_setc (a := 3) (n := 64) rfl LN_t25.out 2 69 (by decide) _).trans rfl) rfl _ _ rfl rfl rfl ?_
  intro w50 ho_ hB_
  replace HL := hid (HL.out.off ho_ (.inl rfl))
  replace BKr := hid hB_
  clear ho_ hB_
  refine act_end ?_
  refine hQ_ _ _ (fun h_ => absurd h_ (by decide)) ?_
  clear hQ_ Q'_
  simp only [Act.put]
  refine sq_end ?_
  clear WR64 WR32 WR8 WRU
  go_wp2_with fail
  (try simp only [Act.put, sI, sZ, sS])
  (first | go_end0 | refine bodyPost_ret (results_none rfl _ _ _) rfl ?_)
  exact ⟨by first | rfl | (simp; done), LN_t25.out, (by exact BKr.out), HL.out⟩
 ·
  rw [if_neg c40] at H
  have c40b0 : (t3 == 0) = false := beq_eq_false_iff_ne.mpr c40
  have c40b1 : (t3 != 0) = true := bne_iff_ne.mpr c40
  have hc40 := hid c40
  clear c40
  simp only [Option.some.injEq, Prod.mk.injEq] at H
  obtain ⟨rfl, rfl, rfl, rfl, rfl, rfl, rfl, rfl, rfl, rfl, rfl, rfl, rfl, rfl, rfl, rfl, rfl⟩ := H
  go_enter Try.func20, Try.ntmps20
  have k51 := True.intro
  go_wp2_with (first
   | (go_at_call 16; clear k51; refine (i_task_reader_word.calls k s0 s1 s2 s3 s4 s5 s6 s7 s8 s9 s10 s11 s12 s13 s14 s15 s16 (⟨#[32]⟩ : ByteArray) LN_s3.out t1 t2 t3 t4 t5 t6 t7 t8 t9 t10 t11 t12 t13 t14 t15 t16 t17 g _ BKr.out A39.out).mono ?_; rintro e_ w52 ⟨rfl, ln_t4, hB_, hx_⟩; have LN_t4 := hid ln_t4; clear ln_t4; replace HL := hid (HL.out.bex hx_ HL.out.size (.inl rfl)); replace BKr := hid hB_; clear hx_ hB_)
   | ((with_reducible refine gate_d (N := 6) rfl ?_); refine ag_fix (.pointer (some ⟨g, 2, none⟩)) (ex_field 40 2 (.pointer (some ⟨g, 0, none⟩)) (.pointer (some ⟨g, 2, none⟩)) (fa40_2_0 g) _ rfl rfl) rfl ?_)
   | ((with_reducible refine gate_d (N := 7) rfl ?_); refine ag_fix (.int .i64 t3) (ex_get sT32 g (2) (.int .i64 t3) ((yv [.string t1, .int .i64 t2, .int .i64 t3] (Value.int .i8) t4 [.int .i64 t5, .int .i64 t6, .int .i64 t7, .int .i64 t8, .int .i64 t9, .int .i64 t10, .bool t11, .bool t12, .bool t13, .int .i64 t14, .int .i64 t15, .int .i64 t16, t17])) BKr.out ((yv_pre (a := 3) rfl 2 (by decide)).trans rfl) _ rfl rfl) rfl ?_))
  (try simp only [Act.put, sI, sZ, sS])
  (first | go_end0 | refine bodyPost_ret (results_none rfl _ _ _) rfl ?_)
  exact ⟨by first | rfl | (simp; done), LN_t4.out, (by exact BKr.out), HL.out⟩
def i_task_options_7.f (k : Nat) (s0 : ByteArray) (s1 : Int) (s2 : Int) (s3 : List Int) (s4 : Int) (s5 : Int) (s6 : Int) (s7 : Int) (s8 : Int) (s9 : Int) (s10 : Bool) (s11 : Bool) (s12 : Bool) (s13 : Int) (s14 : Int) (s15 : Int) (s16 : Value) : Option (ByteArray × Int × Int × (List Int) × Int × Int × Int × Int × Int × Int × Bool × Bool × Bool × Int × Int × Int × Value) := (i_task_reader_word.f k s0 s1 s2 s3 s4 s5 s6 s7 s8 s9 s10 s11 s12 s13 s14 s15 s16 (⟨#[32]⟩ : ByteArray)).bind fun bt1 => ((i_task_reader_number.f k bt1.1 bt1.2.1 bt1.2.2.1 bt1.2.2.2.1 bt1.2.2.2.2.1 bt1.2.2.2.2.2.1 bt1.2.2.2.2.2.2.1 bt1.2.2.2.2.2.2.2.1 bt1.2.2.2.2.2.2.2.2.1 bt1.2.2.2.2.2.2.2.2.2.1 bt1.2.2.2.2.2.2.2.2.2.2.1 bt1.2.2.2.2.2.2.2.2.2.2.2.1 bt1.2.2.2.2.2.2.2.2.2.2.2.2.1 bt1.2.2.2.2.2.2.2.2.2.2.2.2.2.1 bt1.2.2.2.2.2.2.2.2.2.2.2.2.2.2.1 bt1.2.2.2.2.2.2.2.2.2.2.2.2.2.2.2.1 bt1.2.2.2.2.2.2.2.2.2.2.2.2.2.2.2.2 0 4).bind fun bt18 => (some (bt18.2.1, bt18.2.2.1, bt18.2.2.2.1, bt18.2.2.2.2.1, bt18.2.2.2.2.2.1, bt18.2.2.2.2.2.2.1, bt18.2.2.2.2.2.2.2.1, bt18.2.2.2.2.2.2.2.2.1, bt18.2.2.2.2.2.2.2.2.2.1, bt18.2.2.2.2.2.2.2.2.2.2.1, bt18.2.2.2.2.2.2.2.2.2.2.2.1, bt18.2.2.2.2.2.2.2.2.2.2.2.2.1, bt18.2.2.2.2.2.2.2.2.2.2.2.2.2.1, bt18.2.2.2.2.2.2.2.2.2.2.2.2.2.2.1, bt18.1, bt18.2.2.2.2.2.2.2.2.2.2.2.2.2.2.2.2.1, bt18.2.2.2.2.2.2.2.2.2.2.2.2.2.2.2.2.2)))
set_option maxHeartbeats 40000000 in
set_option maxRecDepth 100000 in
theorem i_task_options_7.calls (k : Nat) (s0 : ByteArray) (s1 : Int) (s2 : Int) (s3 : List Int) (s4 : Int) (s5 : Int) (s6 : Int) (s7 : Int) (s8 : Int) (s9 : Int) (s10 : Bool) (s11 : Bool) (s12 : Bool) (s13 : Int) (s14 : Int) (s15 : Int) (s16 : Value) (hls3 : s3.length = 64) (q0 : ByteArray) (q1 : Int) (q2 : Int) (q3 : List Int) (q4 : Int) (q5 : Int) (q6 : Int) (q7 : Int) (q8 : Int) (q9 : Int) (q10 : Bool) (q11 : Bool) (q12 : Bool) (q13 : Int) (q14 : Int) (q15 : Int) (q16 : Value) (g : Nat) (w : World) (hB : Blk w g 40 (yv [.string s0, .int .i64 s1, .int .i64 s2] (Value.int .i8) s3 [.int .i64 s4, .int .i64 s5, .int .i64 s6, .int .i64 s7, .int .i64 s8, .int .i64 s9, .bool s10, .bool s11, .bool s12, .int .i64 s13, .int .i64 s14, .int .i64 s15, s16])) (h : i_task_options_7.f k s0 s1 s2 s3 s4 s5 s6 s7 s8 s9 s10 s11 s12 s13 s14 s15 s16 = some (q0, q1, q2, q3, q4, q5, q6, q7, q8, q9, q10, q11, q12, q13, q14, q15, q16)) :
    Calls Try.prog 23 #[.pointer (some ⟨g, 0, none⟩)] w fun e w' => e = .returned (.tuple #[]) ∧ q3.length = 64 ∧ Blk w' g 40 (yv [.string q0, .int .i64 q1, .int .i64 q2] (Value.int .i8) q3 [.int .i64 q4, .int .i64 q5, .int .i64 q6, .int .i64 q7, .int .i64 q8, .int .i64 q9, .bool q10, .bool q11, .bool q12, .int .i64 q13, .int .i64 q14, .int .i64 q15, q16]) ∧ Bex g w.heap.size w w' := by
 have LN_s3 := hid hls3
 clear hls3
 have BKr := hid hB
 clear hB
 have HL := hid (Bex.refl g w.heap.size w)
 have H : ((i_task_reader_word.f k s0 s1 s2 s3 s4 s5 s6 s7 s8 s9 s10 s11 s12 s13 s14 s15 s16 (⟨#[32]⟩ : ByteArray)).bind fun bt1 => ((i_task_reader_number.f k bt1.1 bt1.2.1 bt1.2.2.1 bt1.2.2.2.1 bt1.2.2.2.2.1 bt1.2.2.2.2.2.1 bt1.2.2.2.2.2.2.1 bt1.2.2.2.2.2.2.2.1 bt1.2.2.2.2.2.2.2.2.1 bt1.2.2.2.2.2.2.2.2.2.1 bt1.2.2.2.2.2.2.2.2.2.2.1 bt1.2.2.2.2.2.2.2.2.2.2.2.1 bt1.2.2.2.2.2.2.2.2.2.2.2.2.1 bt1.2.2.2.2.2.2.2.2.2.2.2.2.2.1 bt1.2.2.2.2.2.2.2.2.2.2.2.2.2.2.1 bt1.2.2.2.2.2.2.2.2.2.2.2.2.2.2.2.1 bt1.2.2.2.2.2.2.2.2.2.2.2.2.2.2.2.2 0 4).bind fun bt18 => (some (bt18.2.1, bt18.2.2.1, bt18.2.2.2.1, bt18.2.2.2.2.1, bt18.2.2.2.2.2.1, bt18.2.2.2.2.2.2.1, bt18.2.2.2.2.2.2.2.1, bt18.2.2.2.2.2.2.2.2.1, bt18.2.2.2.2.2.2.2.2.2.1, bt18.2.2.2.2.2.2.2.2.2.2.1, bt18.2.2.2.2.2.2.2.2.2.2.2.1, bt18.2.2.2.2.2.2.2.2.2.2.2.2.1, bt18.2.2.2.2.2.2.2.2.2.2.2.2.2.1, bt18.2.2.2.2.2.2.2.2.2.2.2.2.2.2.1, bt18.1, bt18.2.2.2.2.2.2.2.2.2.2.2.2.2.2.2.2.1, bt18.2.2.2.2.2.2.2.2.2.2.2.2.2.2.2.2.2)))) = some (q0, q1, q2, q3, q4, q5, q6, q7, q8, q9, q10, q11, q12, q13, q14, q15, q16) := h
 clear h
 replace H := Option.bind_eq_some_iff.mp H
 obtain ⟨⟨t1, t2, t3, t4, t5, t6, t7, t8, t9, t10, t11, t12, t13, t14, t15, t16, t17⟩, A36_, H⟩ := H
 dsimp only at H
 have A36 := hid A36_
 clear A36_
 replace H := Option.bind_eq_some_iff.mp H
 obtain ⟨⟨t18, t19, t20, t21, t22, t23, t24, t25, t26, t27, t28, t29, t30, t31, t32, t33, t34, t35⟩, A37_, H⟩ := H
 dsimp only at H
 have A37 := hid A37_
 clear A37_
 simp only [Option.some.injEq, Prod.mk.injEq] at H
 obtain ⟨rfl, rfl, rfl, rfl, rfl, rfl, rfl, rfl, rfl, rfl, rfl, rfl, rfl, rfl, rfl, rfl, rfl⟩ := H
 go_enter Try.func23, Try.ntmps23
 have k38 := True.intro
 have k40 := True.intro
 go_wp2_with (first
  | (go_at_call 16; clear k38; refine (i_task_reader_word.calls k s0 s1 s2 s3 s4 s5 s6 s7 s8 s9 s10 s11 s12 s13 s14 s15 s16 (⟨#[32]⟩ : ByteArray) LN_s3.out t1 t2 t3 t4 t5 t6 t7 t8 t9 t10 t11 t12 t13 t14 t15 t16 t17 g _ BKr.out A36.out).mono ?_; rintro e_ w39 ⟨rfl, ln_t4, hB_, hx_⟩; have LN_t4 := hid ln_t4; clear ln_t4; replace HL := hid (HL.out.bex hx_ HL.out.size (.inl rfl)); replace BKr := hid hB_; clear hx_ hB_)
  | (go_at_call 17; clear k40; refine (i_task_reader_number.calls k t1 t2 t3 t4 t5 t6 t7 t8 t9 t10 t11 t12 t13 t14 t15 t16 t17 0 4 LN_t4.out t18 t19 t20 t21 t22 t23 t24 t25 t26 t27 t28 t29 t30 t31 t32 t33 t34 t35 g _ BKr.out A37.out).mono ?_; rintro e_ w41 ⟨rfl, ln_t22, hB_, hx_⟩; have LN_t22 := hid ln_t22; clear ln_t22; replace HL := hid (HL.out.bex hx_ HL.out.size (.inl rfl)); replace BKr := hid hB_; clear hx_ hB_)
  | ((with_reducible refine gate_d (N := 8) rfl ?_); refine ag_fix (.pointer (some ⟨g, 3, none⟩)) (ex_field 40 3 (.pointer (some ⟨g, 0, none⟩)) (.pointer (some ⟨g, 3, none⟩)) (fa40_3_0 g) _ rfl rfl) rfl ?_)
  | ((with_reducible refine gate_d (N := 9) rfl ?_); refine ag_fix (.pointer (some ⟨g, 77, none⟩)) (ex_field 31 5 (.pointer (some ⟨g, 3, none⟩)) (.pointer (some ⟨g, 77, none⟩)) (fa31_5_3 g) _ rfl rfl) rfl ?_)
  | ((with_reducible refine gate_s (t := 3) (p := 9) rfl ?_); refine ag_set sT3 g (77) (.int .i64 t18) (yv [.string t19, .int .i64 t20, .int .i64 t21] (Value.int .i8) t22 [.int .i64 t23, .int .i64 t24, .int .i64 t25, .int .i64 t26, .int .i64 t27, .int .i64 t28, .bool t29, .bool t30, .bool t31, .int .i64 t32, .int .i64 t33, .int .i64 t34, t35]) (yv [.string t19, .int .i64 t20, .int .i64 t21] (Value.int .i8) t22 [.int .i64 t23, .int .i64 t24, .int .i64 t25, .int .i64 t26, .int .i64 t27, .int .i64 t28, .bool t29, .bool t30, .bool t31, .int .i64 t32, .int .i64 t18, .int .i64 t34, t35]) BKr.out (yv_lt (a := 3) (n := 64) (c := 13) rfl LN_t22.out rfl (m := 77) (by decide)) rfl rfl ((yv_setc (a := 3) (n := 64) rfl LN_t22.out 10 77 (by decide) _).trans rfl) rfl _ _ rfl rfl rfl ?_; intro w42 ho_ hB_; replace HL := hid (HL.out.off ho_ (.inl rfl)); replace BKr := hid hB_; clear ho_ hB_))
 (try simp only [Act.put, sI, sZ, sS])
 (first | go_end0 | refine bodyPost_ret (results_none rfl _ _ _) rfl ?_)
 exact ⟨by first | rfl | (simp; done), LN_t22.out, (by exact BKr.out), HL.out⟩
def i_task_reader_diagram.f (k : Nat) (s0 : ByteArray) (s1 : Int) (s2 : Int) (s3 : List Int) (s4 : Int) (s5 : Int) (s6 : Int) (s7 : Int) (s8 : Int) (s9 : Int) (s10 : Bool) (s11 : Bool) (s12 : Bool) (s13 : Int) (s14 : Int) (s15 : Int) (s16 : Value) : Option (ByteArray × Int × Int × (List Int) × Int × Int × Int × Int × Int × Int × Bool × Bool × Bool × Int × Int × Int × Value) := (i_task_reader_word.f k s0 s1 s2 s3 s4 s5 s6 s7 s8 s9 s10 s11 s12 s13 s14 s15 s16 (⟨#[98, 101, 103, 105, 110, 10]⟩ : ByteArray)).bind fun bt1 => ((i_task_reader_oneOf.f k bt1.1 bt1.2.1 bt1.2.2.1 bt1.2.2.2.1 bt1.2.2.2.2.1 bt1.2.2.2.2.2.1 bt1.2.2.2.2.2.2.1 bt1.2.2.2.2.2.2.2.1 bt1.2.2.2.2.2.2.2.2.1 bt1.2.2.2.2.2.2.2.2.2.1 bt1.2.2.2.2.2.2.2.2.2.2.1 bt1.2.2.2.2.2.2.2.2.2.2.2.1 bt1.2.2.2.2.2.2.2.2.2.2.2.2.1 bt1.2.2.2.2.2.2.2.2.2.2.2.2.2.1 bt1.2.2.2.2.2.2.2.2.2.2.2.2.2.2.1 bt1.2.2.2.2.2.2.2.2.2.2.2.2.2.2.2.1 bt1.2.2.2.2.2.2.2.2.2.2.2.2.2.2.2.2 [(⟨#[102, 111, 114, 115, 121, 116, 104, 32]⟩ : ByteArray), (⟨#[112, 105, 101, 99, 101, 115, 32]⟩ : ByteArray)]).bind fun bt19 => (if bt19.1 = 0 then ((i_task_reader_board.f k bt19.2.1 bt19.2.2.1 bt19.2.2.2.1 bt19.2.2.2.2.1 bt19.2.2.2.2.2.1 bt19.2.2.2.2.2.2.1 bt19.2.2.2.2.2.2.2.1 bt19.2.2.2.2.2.2.2.2.1 bt19.2.2.2.2.2.2.2.2.2.1 bt19.2.2.2.2.2.2.2.2.2.2.1 bt19.2.2.2.2.2.2.2.2.2.2.2.1 bt19.2.2.2.2.2.2.2.2.2.2.2.2.1 bt19.2.2.2.2.2.2.2.2.2.2.2.2.2.1 bt19.2.2.2.2.2.2.2.2.2.2.2.2.2.2.1 bt19.2.2.2.2.2.2.2.2.2.2.2.2.2.2.2.1 bt19.2.2.2.2.2.2.2.2.2.2.2.2.2.2.2.2.1 bt19.2.2.2.2.2.2.2.2.2.2.2.2.2.2.2.2.2 25).bind fun bt37 => (some (bt37.1, bt37.2.1, bt37.2.2.1, bt37.2.2.2.1, bt37.2.2.2.2.1, bt37.2.2.2.2.2.1, bt37.2.2.2.2.2.2.1, bt37.2.2.2.2.2.2.2.1, bt37.2.2.2.2.2.2.2.2.1, bt37.2.2.2.2.2.2.2.2.2.1, bt37.2.2.2.2.2.2.2.2.2.2.1, bt37.2.2.2.2.2.2.2.2.2.2.2.1, bt37.2.2.2.2.2.2.2.2.2.2.2.2.1, bt37.2.2.2.2.2.2.2.2.2.2.2.2.2.1, bt37.2.2.2.2.2.2.2.2.2.2.2.2.2.2.1, bt37.2.2.2.2.2.2.2.2.2.2.2.2.2.2.2.1, bt37.2.2.2.2.2.2.2.2.2.2.2.2.2.2.2.2))) else ((i_task_reader_board.f k bt19.2.1 bt19.2.2.1 bt19.2.2.2.1 bt19.2.2.2.2.1 bt19.2.2.2.2.2.1 bt19.2.2.2.2.2.2.1 bt19.2.2.2.2.2.2.2.1 bt19.2.2.2.2.2.2.2.2.1 bt19.2.2.2.2.2.2.2.2.2.1 bt19.2.2.2.2.2.2.2.2.2.2.1 bt19.2.2.2.2.2.2.2.2.2.2.2.1 bt19.2.2.2.2.2.2.2.2.2.2.2.2.1 bt19.2.2.2.2.2.2.2.2.2.2.2.2.2.1 bt19.2.2.2.2.2.2.2.2.2.2.2.2.2.2.1 bt19.2.2.2.2.2.2.2.2.2.2.2.2.2.2.2.1 bt19.2.2.2.2.2.2.2.2.2.2.2.2.2.2.2.2.1 bt19.2.2.2.2.2.2.2.2.2.2.2.2.2.2.2.2.2 26).bind fun bt54 => (some (bt54.1, bt54.2.1, bt54.2.2.1, bt54.2.2.2.1, bt54.2.2.2.2.1, bt54.2.2.2.2.2.1, bt54.2.2.2.2.2.2.1, bt54.2.2.2.2.2.2.2.1, bt54.2.2.2.2.2.2.2.2.1, bt54.2.2.2.2.2.2.2.2.2.1, bt54.2.2.2.2.2.2.2.2.2.2.1, bt54.2.2.2.2.2.2.2.2.2.2.2.1, bt54.2.2.2.2.2.2.2.2.2.2.2.2.1, bt54.2.2.2.2.2.2.2.2.2.2.2.2.2.1, bt54.2.2.2.2.2.2.2.2.2.2.2.2.2.2.1, bt54.2.2.2.2.2.2.2.2.2.2.2.2.2.2.2.1, bt54.2.2.2.2.2.2.2.2.2.2.2.2.2.2.2.2)))))
set_option maxHeartbeats 40000000 in
set_option maxRecDepth 100000 in
theorem i_task_reader_diagram.calls (k : Nat) (s0 : ByteArray) (s1 : Int) (s2 : Int) (s3 : List Int) (s4 : Int) (s5 : Int) (s6 : Int) (s7 : Int) (s8 : Int) (s9 : Int) (s10 : Bool) (s11 : Bool) (s12 : Bool) (s13 : Int) (s14 : Int) (s15 : Int) (s16 : Value) (hls3 : s3.length = 64) (q0 : ByteArray) (q1 : Int) (q2 : Int) (q3 : List Int) (q4 : Int) (q5 : Int) (q6 : Int) (q7 : Int) (q8 : Int) (q9 : Int) (q10 : Bool) (q11 : Bool) (q12 : Bool) (q13 : Int) (q14 : Int) (q15 : Int) (q16 : Value) (g : Nat) (w : World) (hB : Blk w g 40 (yv [.string s0, .int .i64 s1, .int .i64 s2] (Value.int .i8) s3 [.int .i64 s4, .int .i64 s5, .int .i64 s6, .int .i64 s7, .int .i64 s8, .int .i64 s9, .bool s10, .bool s11, .bool s12, .int .i64 s13, .int .i64 s14, .int .i64 s15, s16])) (h : i_task_reader_diagram.f k s0 s1 s2 s3 s4 s5 s6 s7 s8 s9 s10 s11 s12 s13 s14 s15 s16 = some (q0, q1, q2, q3, q4, q5, q6, q7, q8, q9, q10, q11, q12, q13, q14, q15, q16)) :
    Calls Try.prog 7 #[.pointer (some ⟨g, 0, none⟩)] w fun e w' => e = .returned (.tuple #[]) ∧ q3.length = 64 ∧ Blk w' g 40 (yv [.string q0, .int .i64 q1, .int .i64 q2] (Value.int .i8) q3 [.int .i64 q4, .int .i64 q5, .int .i64 q6, .int .i64 q7, .int .i64 q8, .int .i64 q9, .bool q10, .bool q11, .bool q12, .int .i64 q13, .int .i64 q14, .int .i64 q15, q16]) ∧ Bex g w.heap.size w w' := by
 have LN_s3 := hid hls3
 clear hls3
 have BKr := hid hB
 clear hB
 have HL := hid (Bex.refl g w.heap.size w)
 have H : ((i_task_reader_word.f k s0 s1 s2 s3 s4 s5 s6 s7 s8 s9 s10 s11 s12 s13 s14 s15 s16 (⟨#[98, 101, 103, 105, 110, 10]⟩ : ByteArray)).bind fun bt1 => ((i_task_reader_oneOf.f k bt1.1 bt1.2.1 bt1.2.2.1 bt1.2.2.2.1 bt1.2.2.2.2.1 bt1.2.2.2.2.2.1 bt1.2.2.2.2.2.2.1 bt1.2.2.2.2.2.2.2.1 bt1.2.2.2.2.2.2.2.2.1 bt1.2.2.2.2.2.2.2.2.2.1 bt1.2.2.2.2.2.2.2.2.2.2.1 bt1.2.2.2.2.2.2.2.2.2.2.2.1 bt1.2.2.2.2.2.2.2.2.2.2.2.2.1 bt1.2.2.2.2.2.2.2.2.2.2.2.2.2.1 bt1.2.2.2.2.2.2.2.2.2.2.2.2.2.2.1 bt1.2.2.2.2.2.2.2.2.2.2.2.2.2.2.2.1 bt1.2.2.2.2.2.2.2.2.2.2.2.2.2.2.2.2 [(⟨#[102, 111, 114, 115, 121, 116, 104, 32]⟩ : ByteArray), (⟨#[112, 105, 101, 99, 101, 115, 32]⟩ : ByteArray)]).bind fun bt19 => (if bt19.1 = 0 then ((i_task_reader_board.f k bt19.2.1 bt19.2.2.1 bt19.2.2.2.1 bt19.2.2.2.2.1 bt19.2.2.2.2.2.1 bt19.2.2.2.2.2.2.1 bt19.2.2.2.2.2.2.2.1 bt19.2.2.2.2.2.2.2.2.1 bt19.2.2.2.2.2.2.2.2.2.1 bt19.2.2.2.2.2.2.2.2.2.2.1 bt19.2.2.2.2.2.2.2.2.2.2.2.1 bt19.2.2.2.2.2.2.2.2.2.2.2.2.1 bt19.2.2.2.2.2.2.2.2.2.2.2.2.2.1 bt19.2.2.2.2.2.2.2.2.2.2.2.2.2.2.1 bt19.2.2.2.2.2.2.2.2.2.2.2.2.2.2.2.1 bt19.2.2.2.2.2.2.2.2.2.2.2.2.2.2.2.2.1 bt19.2.2.2.2.2.2.2.2.2.2.2.2.2.2.2.2.2 25).bind fun bt37 => (some (bt37.1, bt37.2.1, bt37.2.2.1, bt37.2.2.2.1, bt37.2.2.2.2.1, bt37.2.2.2.2.2.1, bt37.2.2.2.2.2.2.1, bt37.2.2.2.2.2.2.2.1, bt37.2.2.2.2.2.2.2.2.1, bt37.2.2.2.2.2.2.2.2.2.1, bt37.2.2.2.2.2.2.2.2.2.2.1, bt37.2.2.2.2.2.2.2.2.2.2.2.1, bt37.2.2.2.2.2.2.2.2.2.2.2.2.1, bt37.2.2.2.2.2.2.2.2.2.2.2.2.2.1, bt37.2.2.2.2.2.2.2.2.2.2.2.2.2.2.1, bt37.2.2.2.2.2.2.2.2.2.2.2.2.2.2.2.1, bt37.2.2.2.2.2.2.2.2.2.2.2.2.2.2.2.2))) else ((i_task_reader_board.f k bt19.2.1 bt19.2.2.1 bt19.2.2.2.1 bt19.2.2.2.2.1 bt19.2.2.2.2.2.1 bt19.2.2.2.2.2.2.1 bt19.2.2.2.2.2.2.2.1 bt19.2.2.2.2.2.2.2.2.1 bt19.2.2.2.2.2.2.2.2.2.1 bt19.2.2.2.2.2.2.2.2.2.2.1 bt19.2.2.2.2.2.2.2.2.2.2.2.1 bt19.2.2.2.2.2.2.2.2.2.2.2.2.1 bt19.2.2.2.2.2.2.2.2.2.2.2.2.2.1 bt19.2.2.2.2.2.2.2.2.2.2.2.2.2.2.1 bt19.2.2.2.2.2.2.2.2.2.2.2.2.2.2.2.1 bt19.2.2.2.2.2.2.2.2.2.2.2.2.2.2.2.2.1 bt19.2.2.2.2.2.2.2.2.2.2.2.2.2.2.2.2.2 26).bind fun bt54 => (some (bt54.1, bt54.2.1, bt54.2.2.1, bt54.2.2.2.1, bt54.2.2.2.2.1, bt54.2.2.2.2.2.1, bt54.2.2.2.2.2.2.1, bt54.2.2.2.2.2.2.2.1, bt54.2.2.2.2.2.2.2.2.1, bt54.2.2.2.2.2.2.2.2.2.1, bt54.2.2.2.2.2.2.2.2.2.2.1, bt54.2.2.2.2.2.2.2.2.2.2.2.1, bt54.2.2.2.2.2.2.2.2.2.2.2.2.1, bt54.2.2.2.2.2.2.2.2.2.2.2.2.2.1, bt54.2.2.2.2.2.2.2.2.2.2.2.2.2.2.1, bt54.2.2.2.2.2.2.2.2.2.2.2.2.2.2.2.1, bt54.2.2.2.2.2.2.2.2.2.2.2.2.2.2.2.2)))))) = some (q0, q1, q2, q3, q4, q5, q6, q7, q8, q9, q10, q11, q12, q13, q14, q15, q16) := h
 clear h
 replace H := Option.bind_eq_some_iff.mp H
 obtain ⟨⟨t1, t2, t3, t4, t5, t6, t7, t8, t9, t10, t11, t12, t13, t14, t15, t16, t17⟩, A71_, H⟩ := H
 dsimp only at H
 have A71 := hid A71_
 clear A71_
 have H' := hid H
 clear H
 go_enter Try.func7, Try.ntmps7
 have k73 := True.intro
 go_wp2_with (first
  | (go_at_call 16; clear k73; refine (i_task_reader_word.calls k s0 s1 s2 s3 s4 s5 s6 s7 s8 s9 s10 s11 s12 s13 s14 s15 s16 (⟨#[98, 101, 103, 105, 110, 10]⟩ : ByteArray) LN_s3.out t1 t2 t3 t4 t5 t6 t7 t8 t9 t10 t11 t12 t13 t14 t15 t16 t17 g _ BKr.out A71.out).mono ?_; rintro e_ w74 ⟨rfl, ln_t4, hB_, hx_⟩; have LN_t4 := hid ln_t4; clear ln_t4; replace HL := hid (HL.out.bex hx_ HL.out.size (.inl rfl)); replace BKr := hid hB_; clear hx_ hB_)
  | ((with_reducible refine gate_d (N := 5) rfl ?_); obtain ⟨go18, hgo18⟩ : ∃ g_, w74.heap.size = g_ := ⟨_, rfl⟩; refine ag_litn (e := 9) 2 #[.string (⟨#[102, 111, 114, 115, 121, 116, 104, 32]⟩ : ByteArray), .string (⟨#[112, 105, 101, 99, 101, 115, 32]⟩ : ByteArray)] go18 hgo18 rfl _ rfl (fun w_ => by (try simp only [List.map_toArray, List.map_cons, List.map_nil]); kernel_rfl) ?_; intro w75 hb_ hB_ hs_; have GEo18 : Hid (w.heap.size ≤ go18) := hid (by have := HL.out.size; omega); have NBr_o18 : Hid (g ≠ go18) := hid (by have := BKr.out.lt; omega); have NBo18_r : Hid (go18 ≠ g) := hid (by have := NBr_o18.out; omega); replace BKr := hid (BKr.out.below hb_ (by rw [← hgo18]; exact BKr.out.lt)); replace HL := hid (HL.out.below hb_ (GEo18.out)); have BKo18 := hid hB_; clear hb_ hB_ hs_ hgo18; obtain ⟨uo18, hu_⟩ : ∃ u_, u_ = (Value.slice (some ⟨go18, 0, none⟩) 2 2) := ⟨_, rfl⟩; have SWo18 : Hid (Own w75 w.heap.size 9 (uo18) ([(⟨#[102, 111, 114, 115, 121, 116, 104, 32]⟩ : ByteArray), (⟨#[112, 105, 101, 99, 101, 115, 32]⟩ : ByteArray)].map Value.string)) := hid (by rw [hu_]; exact Own.lit GEo18.out BKo18.out rfl (by simp [maxLen])); rw [← hu_]; clear hu_ BKo18))
 (try simp only [Act.put, sI, sZ, sS])
 have H := H'.out
 clear H'
 replace H := Option.bind_eq_some_iff.mp H
 obtain ⟨⟨t19, t20, t21, t22, t23, t24, t25, t26, t27, t28, t29, t30, t31, t32, t33, t34, t35, t36⟩, A72_, H⟩ := H
 dsimp only at H
 have A72 := hid A72_
 clear A72_
 by_cases c76 : t19 = 0
 ·
  rw [if_pos c76] at H
  have c76b0 : (t19 == 0) = true := beq_iff_eq.mpr c76
  have c76b1 : (t19 != 0) = false := bne_eq_false_iff_eq.mpr c76
  have hc76 := hid c76
  clear c76
  replace H := Option.bind_eq_some_iff.mp H
  obtain ⟨⟨t37, t38, t39, t40, t41, t42, t43, t44, t45, t46, t47, t48, t49, t50, t51, t52, t53⟩, A77_, H⟩ := H
  dsimp only at H
  have A77 := hid A77_
  clear A77_
  simp only [Option.some.injEq, Prod.mk.injEq] at H
  obtain ⟨rfl, rfl, rfl, rfl, rfl, rfl, rfl, rfl, rfl, rfl, rfl, rfl, rfl, rfl, rfl, rfl, rfl⟩ := H
  have k78 := True.intro
  have k80 := True.intro
  go_wp2_with (first
   | (go_at_call 14; clear k78; refine (i_task_reader_oneOf.calls k t1 t2 t3 t4 t5 t6 t7 t8 t9 t10 t11 t12 t13 t14 t15 t16 t17 (uo18) [(⟨#[102, 111, 114, 115, 121, 116, 104, 32]⟩ : ByteArray), (⟨#[112, 105, 101, 99, 101, 115, 32]⟩ : ByteArray)] LN_t4.out t19 t20 t21 t22 t23 t24 t25 t26 t27 t28 t29 t30 t31 t32 t33 t34 t35 t36 g _ BKr.out SWo18.out.slT A72.out).mono ?_; rintro e_ w79 ⟨rfl, ln_t23, hB_, hx_⟩; have LN_t23 := hid ln_t23; clear ln_t23; replace SWo18 := hid (SWo18.out.bex hx_ (Nat.le_refl _) BKr.out (by decide)); replace HL := hid (HL.out.bex hx_ HL.out.size (.inl rfl)); replace BKr := hid hB_; clear hx_ hB_)
   | (go_at_call 24; clear k80; refine (i_task_reader_board.calls k t20 t21 t22 t23 t24 t25 t26 t27 t28 t29 t30 t31 t32 t33 t34 t35 t36 25 LN_t23.out t37 t38 t39 t40 t41 t42 t43 t44 t45 t46 t47 t48 t49 t50 t51 t52 t53 g _ BKr.out A77.out).mono ?_; rintro e_ w81 ⟨rfl, ln_t40, hB_, hx_⟩; have LN_t40 := hid ln_t40; clear ln_t40; replace SWo18 := hid (SWo18.out.bex hx_ (Nat.le_refl _) BKr.out (by decide)); replace HL := hid (HL.out.bex hx_ HL.out.size (.inl rfl)); replace BKr := hid hB_; clear hx_ hB_))
  (try simp only [Act.put, sI, sZ, sS])
  (first | go_end0 | refine bodyPost_ret (results_none rfl _ _ _) rfl ?_)
  exact ⟨by first | rfl | (simp; done), LN_t40.out, (by exact BKr.out), HL.out⟩
 ·
  rw [if_neg c76] at H
  have c76b0 : (t19 == 0) = false := beq_eq_false_iff_ne.mpr c76
  have c76b1 : (t19 != 0) = true := bne_iff_ne.mpr c76
  have hc76 := hid c76
  clear c76
  replace H := Option.bind_eq_some_iff.mp H
  obtain ⟨⟨t54, t55, t56, t57, t58, t59, t60, t61, t62, t63, t64, t65, t66, t67, t68, t69, t70⟩, A82_, H⟩ := H
  dsimp only at H
  have A82 := hid A82_
  clear A82_
  simp only [Option.some.injEq, Prod.mk.injEq] at H
  obtain ⟨rfl, rfl, rfl, rfl, rfl, rfl, rfl, rfl, rfl, rfl, rfl, rfl, rfl, rfl, rfl, rfl, rfl⟩ := H
  have k83 := True.intro
  have k85 := True.intro
  go_wp2_with (first
   | (go_at_call 14; clear k83; refine (i_task_reader_oneOf.calls k t1 t2 t3 t4 t5 t6 t7 t8 t9 t10 t11 t12 t13 t14 t15 t16 t17 (uo18) [(⟨#[102, 111, 114, 115, 121, 116, 104, 32]⟩ : ByteArray), (⟨#[112, 105, 101, 99, 101, 115, 32]⟩ : ByteArray)] LN_t4.out t19 t20 t21 t22 t23 t24 t25 t26 t27 t28 t29 t30 t31 t32 t33 t34 t35 t36 g _ BKr.out SWo18.out.slT A72.out).mono ?_; rintro e_ w84 ⟨rfl, ln_t23, hB_, hx_⟩; have LN_t23 := hid ln_t23; clear ln_t23; replace SWo18 := hid (SWo18.out.bex hx_ (Nat.le_refl _) BKr.out (by decide)); replace HL := hid (HL.out.bex hx_ HL.out.size (.inl rfl)); replace BKr := hid hB_; clear hx_ hB_)
   | (go_at_call 24; clear k85; refine (i_task_reader_board.calls k t20 t21 t22 t23 t24 t25 t26 t27 t28 t29 t30 t31 t32 t33 t34 t35 t36 26 LN_t23.out t54 t55 t56 t57 t58 t59 t60 t61 t62 t63 t64 t65 t66 t67 t68 t69 t70 g _ BKr.out A82.out).mono ?_; rintro e_ w86 ⟨rfl, ln_t57, hB_, hx_⟩; have LN_t57 := hid ln_t57; clear ln_t57; replace SWo18 := hid (SWo18.out.bex hx_ (Nat.le_refl _) BKr.out (by decide)); replace HL := hid (HL.out.bex hx_ HL.out.size (.inl rfl)); replace BKr := hid hB_; clear hx_ hB_))
  (try simp only [Act.put, sI, sZ, sS])
  (first | go_end0 | refine bodyPost_ret (results_none rfl _ _ _) rfl ?_)
  exact ⟨by first | rfl | (simp; done), LN_t57.out, (by exact BKr.out), HL.out⟩
def i_task_reader_stipulation.f (k : Nat) (s0 : ByteArray) (s1 : Int) (s2 : Int) (s3 : List Int) (s4 : Int) (s5 : Int) (s6 : Int) (s7 : Int) (s8 : Int) (s9 : Int) (s10 : Bool) (s11 : Bool) (s12 : Bool) (s13 : Int) (s14 : Int) (s15 : Int) (s16 : Value) : Option (ByteArray × Int × Int × (List Int) × Int × Int × Int × Int × Int × Int × Bool × Bool × Bool × Int × Int × Int × Value) := (i_task_reader_word.f k s0 s1 s2 s3 s4 s5 s6 s7 s8 s9 s10 s11 s12 s13 s14 s15 s16 (⟨#[115, 116, 105, 112, 32]⟩ : ByteArray)).bind fun bt1 => (if bt1.2.2.1 = 0 then ((i_stip_Read.f k bt1.1 bt1.2.1).bind fun bt18 => ((i_task_reader_step.f bt1.1 bt1.2.1 bt1.2.2.1 bt1.2.2.2.1 bt1.2.2.2.2.1 bt1.2.2.2.2.2.1 bt1.2.2.2.2.2.2.1 bt18.1 bt18.2.1 bt18.2.2.1 bt18.2.2.2.1 bt1.2.2.2.2.2.2.2.2.2.2.2.1 bt1.2.2.2.2.2.2.2.2.2.2.2.2.1 bt1.2.2.2.2.2.2.2.2.2.2.2.2.2.1 bt1.2.2.2.2.2.2.2.2.2.2.2.2.2.2.1 bt1.2.2.2.2.2.2.2.2.2.2.2.2.2.2.2.1 bt1.2.2.2.2.2.2.2.2.2.2.2.2.2.2.2.2 bt18.2.2.2.2.1 bt18.2.2.2.2.2.1 bt18.2.2.2.2.2.2).bind fun bt27 => ((i_task_reader_word.f k bt27.2.1 bt27.2.2.1 bt27.2.2.2.1 bt27.2.2.2.2.1 bt27.2.2.2.2.2.1 bt27.2.2.2.2.2.2.1 bt27.2.2.2.2.2.2.2.1 bt27.2.2.2.2.2.2.2.2.1 bt27.2.2.2.2.2.2.2.2.2.1 bt27.2.2.2.2.2.2.2.2.2.2.1 bt27.2.2.2.2.2.2.2.2.2.2.2.1 bt27.2.2.2.2.2.2.2.2.2.2.2.2.1 bt27.2.2.2.2.2.2.2.2.2.2.2.2.2.1 bt27.2.2.2.2.2.2.2.2.2.2.2.2.2.2.1 bt27.2.2.2.2.2.2.2.2.2.2.2.2.2.2.2.1 bt27.2.2.2.2.2.2.2.2.2.2.2.2.2.2.2.2.1 bt27.2.2.2.2.2.2.2.2.2.2.2.2.2.2.2.2.2 (⟨#[10]⟩ : ByteArray)).bind fun bt45 => (some (bt45.1, bt45.2.1, bt45.2.2.1, bt45.2.2.2.1, bt45.2.2.2.2.1, bt45.2.2.2.2.2.1, bt45.2.2.2.2.2.2.1, bt45.2.2.2.2.2.2.2.1, bt45.2.2.2.2.2.2.2.2.1, bt45.2.2.2.2.2.2.2.2.2.1, bt45.2.2.2.2.2.2.2.2.2.2.1, bt45.2.2.2.2.2.2.2.2.2.2.2.1, bt45.2.2.2.2.2.2.2.2.2.2.2.2.1, bt45.2.2.2.2.2.2.2.2.2.2.2.2.2.1, bt45.2.2.2.2.2.2.2.2.2.2.2.2.2.2.1, bt45.2.2.2.2.2.2.2.2.2.2.2.2.2.2.2.1, bt45.2.2.2.2.2.2.2.2.2.2.2.2.2.2.2.2))))) else ((i_task_reader_word.f k bt1.1 bt1.2.1 bt1.2.2.1 bt1.2.2.2.1 bt1.2.2.2.2.1 bt1.2.2.2.2.2.1 bt1.2.2.2.2.2.2.1 bt1.2.2.2.2.2.2.2.1 bt1.2.2.2.2.2.2.2.2.1 bt1.2.2.2.2.2.2.2.2.2.1 bt1.2.2.2.2.2.2.2.2.2.2.1 bt1.2.2.2.2.2.2.2.2.2.2.2.1 bt1.2.2.2.2.2.2.2.2.2.2.2.2.1 bt1.2.2.2.2.2.2.2.2.2.2.2.2.2.1 bt1.2.2.2.2.2.2.2.2.2.2.2.2.2.2.1 bt1.2.2.2.2.2.2.2.2.2.2.2.2.2.2.2.1 bt1.2.2.2.2.2.2.2.2.2.2.2.2.2.2.2.2 (⟨#[10]⟩ : ByteArray)).bind fun bt62 => (some (bt62.1, bt62.2.1, bt62.2.2.1, bt62.2.2.2.1, bt62.2.2.2.2.1, bt62.2.2.2.2.2.1, bt62.2.2.2.2.2.2.1, bt62.2.2.2.2.2.2.2.1, bt62.2.2.2.2.2.2.2.2.1, bt62.2.2.2.2.2.2.2.2.2.1, bt62.2.2.2.2.2.2.2.2.2.2.1, bt62.2.2.2.2.2.2.2.2.2.2.2.1, bt62.2.2.2.2.2.2.2.2.2.2.2.2.1, bt62.2.2.2.2.2.2.2.2.2.2.2.2.2.1, bt62.2.2.2.2.2.2.2.2.2.2.2.2.2.2.1, bt62.2.2.2.2.2.2.2.2.2.2.2.2.2.2.2.1, bt62.2.2.2.2.2.2.2.2.2.2.2.2.2.2.2.2))))
set_option maxHeartbeats 40000000 in
set_option maxRecDepth 100000 in
theorem i_task_reader_stipulation.calls (k : Nat) (s0 : ByteArray) (s1 : Int) (s2 : Int) (s3 : List Int) (s4 : Int) (s5 : Int) (s6 : Int) (s7 : Int) (s8 : Int) (s9 : Int) (s10 : Bool) (s11 : Bool) (s12 : Bool) (s13 : Int) (s14 : Int) (s15 : Int) (s16 : Value) (hls3 : s3.length = 64) (q0 : ByteArray) (q1 : Int) (q2 : Int) (q3 : List Int) (q4 : Int) (q5 : Int) (q6 : Int) (q7 : Int) (q8 : Int) (q9 : Int) (q10 : Bool) (q11 : Bool) (q12 : Bool) (q13 : Int) (q14 : Int) (q15 : Int) (q16 : Value) (g : Nat) (w : World) (hB : Blk w g 40 (yv [.string s0, .int .i64 s1, .int .i64 s2] (Value.int .i8) s3 [.int .i64 s4, .int .i64 s5, .int .i64 s6, .int .i64 s7, .int .i64 s8, .int .i64 s9, .bool s10, .bool s11, .bool s12, .int .i64 s13, .int .i64 s14, .int .i64 s15, s16])) (h : i_task_reader_stipulation.f k s0 s1 s2 s3 s4 s5 s6 s7 s8 s9 s10 s11 s12 s13 s14 s15 s16 = some (q0, q1, q2, q3, q4, q5, q6, q7, q8, q9, q10, q11, q12, q13, q14, q15, q16)) :
    Calls Try.prog 8 #[.pointer (some ⟨g, 0, none⟩)] w fun e w' => e = .returned (.tuple #[]) ∧ q3.length = 64 ∧ Blk w' g 40 (yv [.string q0, .int .i64 q1, .int .i64 q2] (Value.int .i8) q3 [.int .i64 q4, .int .i64 q5, .int .i64 q6, .int .i64 q7, .int .i64 q8, .int .i64 q9, .bool q10, .bool q11, .bool q12, .int .i64 q13, .int .i64 q14, .int .i64 q15, q16]) ∧ Bex g w.heap.size w w' := by
 have LN_s3 := hid hls3
 clear hls3
 have BKr := hid hB
 clear hB
 have HL := hid (Bex.refl g w.heap.size w)
 have H : ((i_task_reader_word.f k s0 s1 s2 s3 s4 s5 s6 s7 s8 s9 s10 s11 s12 s13 s14 s15 s16 (⟨#[115, 116, 105, 112, 32]⟩ : ByteArray)).bind fun bt1 => (if bt1.2.2.1 = 0 then ((i_stip_Read.f k bt1.1 bt1.2.1).bind fun bt18 => ((i_task_reader_step.f bt1.1 bt1.2.1 bt1.2.2.1 bt1.2.2.2.1 bt1.2.2.2.2.1 bt1.2.2.2.2.2.1 bt1.2.2.2.2.2.2.1 bt18.1 bt18.2.1 bt18.2.2.1 bt18.2.2.2.1 bt1.2.2.2.2.2.2.2.2.2.2.2.1 bt1.2.2.2.2.2.2.2.2.2.2.2.2.1 bt1.2.2.2.2.2.2.2.2.2.2.2.2.2.1 bt1.2.2.2.2.2.2.2.2.2.2.2.2.2.2.1 bt1.2.2.2.2.2.2.2.2.2.2.2.2.2.2.2.1 bt1.2.2.2.2.2.2.2.2.2.2.2.2.2.2.2.2 bt18.2.2.2.2.1 bt18.2.2.2.2.2.1 bt18.2.2.2.2.2.2).bind fun bt27 => ((i_task_reader_word.f k bt27.2.1 bt27.2.2.1 bt27.2.2.2.1 bt27.2.2.2.2.1 bt27.2.2.2.2.2.1 bt27.2.2.2.2.2.2.1 bt27.2.2.2.2.2.2.2.1 bt27.2.2.2.2.2.2.2.2.1 bt27.2.2.2.2.2.2.2.2.2.1 bt27.2.2.2.2.2.2.2.2.2.2.1 bt27.2.2.2.2.2.2.2.2.2.2.2.1 bt27.2.2.2.2.2.2.2.2.2.2.2.2.1 bt27.2.2.2.2.2.2.2.2.2.2.2.2.2.1 bt27.2.2.2.2.2.2.2.2.2.2.2.2.2.2.1 bt27.2.2.2.2.2.2.2.2.2.2.2.2.2.2.2.1 bt27.2.2.2.2.2.2.2.2.2.2.2.2.2.2.2.2.1 bt27.2.2.2.2.2.2.2.2.2.2.2.2.2.2.2.2.2 (⟨#[10]⟩ : ByteArray)).bind fun bt45 => (some (bt45.1, bt45.2.1, bt45.2.2.1, bt45.2.2.2.1, bt45.2.2.2.2.1, bt45.2.2.2.2.2.1, bt45.2.2.2.2.2.2.1, bt45.2.2.2.2.2.2.2.1, bt45.2.2.2.2.2.2.2.2.1, bt45.2.2.2.2.2.2.2.2.2.1, bt45.2.2.2.2.2.2.2.2.2.2.1, bt45.2.2.2.2.2.2.2.2.2.2.2.1, bt45.2.2.2.2.2.2.2.2.2.2.2.2.1, bt45.2.2.2.2.2.2.2.2.2.2.2.2.2.1, bt45.2.2.2.2.2.2.2.2.2.2.2.2.2.2.1, bt45.2.2.2.2.2.2.2.2.2.2.2.2.2.2.2.1, bt45.2.2.2.2.2.2.2.2.2.2.2.2.2.2.2.2))))) else ((i_task_reader_word.f k bt1.1 bt1.2.1 bt1.2.2.1 bt1.2.2.2.1 bt1.2.2.2.2.1 bt1.2.2.2.2.2.1 bt1.2.2.2.2.2.2.1 bt1.2.2.2.2.2.2.2.1 bt1.2.2.2.2.2.2.2.2.1 bt1.2.2.2.2.2.2.2.2.2.1 bt1.2.2.2.2.2.2.2.2.2.2.1 bt1.2.2.2.2.2.2.2.2.2.2.2.1 bt1.2.2.2.2.2.2.2.2.2.2.2.2.1 bt1.2.2.2.2.2.2.2.2.2.2.2.2.2.1 bt1.2.2.2.2.2.2.2.2.2.2.2.2.2.2.1 bt1.2.2.2.2.2.2.2.2.2.2.2.2.2.2.2.1 bt1.2.2.2.2.2.2.2.2.2.2.2.2.2.2.2.2 (⟨#[10]⟩ : ByteArray)).bind fun bt62 => (some (bt62.1, bt62.2.1, bt62.2.2.1, bt62.2.2.2.1, bt62.2.2.2.2.1, bt62.2.2.2.2.2.1, bt62.2.2.2.2.2.2.1, bt62.2.2.2.2.2.2.2.1, bt62.2.2.2.2.2.2.2.2.1, bt62.2.2.2.2.2.2.2.2.2.1, bt62.2.2.2.2.2.2.2.2.2.2.1, bt62.2.2.2.2.2.2.2.2.2.2.2.1, bt62.2.2.2.2.2.2.2.2.2.2.2.2.1, bt62.2.2.2.2.2.2.2.2.2.2.2.2.2.1, bt62.2.2.2.2.2.2.2.2.2.2.2.2.2.2.1, bt62.2.2.2.2.2.2.2.2.2.2.2.2.2.2.2.1, bt62.2.2.2.2.2.2.2.2.2.2.2.2.2.2.2.2))))) = some (q0, q1, q2, q3, q4, q5, q6, q7, q8, q9, q10, q11, q12, q13, q14, q15, q16) := h
 clear h
 replace H := Option.bind_eq_some_iff.mp H
 obtain ⟨⟨t1, t2, t3, t4, t5, t6, t7, t8, t9, t10, t11, t12, t13, t14, t15, t16, t17⟩, A79_, H⟩ := H
 dsimp only at H
 have A79 := hid A79_
 clear A79_
 by_cases c80 : t3 = 0
 ·
  rw [if_pos c80] at H
  have c80b0 : (t3 == 0) = true := beq_iff_eq.mpr c80
  have c80b1 : (t3 != 0) = false := bne_eq_false_iff_eq.mpr c80
  have hc80 := hid c80
  clear c80
  replace H := Option.bind_eq_some_iff.mp H
  obtain ⟨⟨t18, t19, t20, t21, t22, t23, t24⟩, A81_, H⟩ := H
  dsimp only at H
  have A81 := hid A81_
  clear A81_
  replace H := Option.bind_eq_some_iff.mp H
  obtain ⟨⟨t27, t28, t29, t30, t31, t32, t33, t34, t35, t36, t37, t38, t39, t40, t41, t42, t43, t44⟩, A82_, H⟩ := H
  dsimp only at H
  have A82 := hid A82_
  clear A82_
  replace H := Option.bind_eq_some_iff.mp H
  obtain ⟨⟨t45, t46, t47, t48, t49, t50, t51, t52, t53, t54, t55, t56, t57, t58, t59, t60, t61⟩, A83_, H⟩ := H
  dsimp only at H
  have A83 := hid A83_
  clear A83_
  simp only [Option.some.injEq, Prod.mk.injEq] at H
  obtain ⟨rfl, rfl, rfl, rfl, rfl, rfl, rfl, rfl, rfl, rfl, rfl, rfl, rfl, rfl, rfl, rfl, rfl⟩ := H
  go_enter Try.func8, Try.ntmps8
  have k84 := True.intro
  go_wp2_with (first
   | (go_at_call 16; clear k84; refine (i_task_reader_word.calls k s0 s1 s2 s3 s4 s5 s6 s7 s8 s9 s10 s11 s12 s13 s14 s15 s16 (⟨#[115, 116, 105, 112, 32]⟩ : ByteArray) LN_s3.out t1 t2 t3 t4 t5 t6 t7 t8 t9 t10 t11 t12 t13 t14 t15 t16 t17 g _ BKr.out A79.out).mono ?_; rintro e_ w85 ⟨rfl, ln_t4, hB_, hx_⟩; have LN_t4 := hid ln_t4; clear ln_t4; replace HL := hid (HL.out.bex hx_ HL.out.size (.inl rfl)); replace BKr := hid hB_; clear hx_ hB_)
   | ((with_reducible refine gate_d (N := 8) rfl ?_); refine ag_fix (.pointer (some ⟨g, 2, none⟩)) (ex_field 40 2 (.pointer (some ⟨g, 0, none⟩)) (.pointer (some ⟨g, 2, none⟩)) (fa40_2_0 g) _ rfl rfl) rfl ?_)
   | ((with_reducible refine gate_d (N := 9) rfl ?_); refine ag_fix (.int .i64 t3) (ex_get sT32 g (2) (.int .i64 t3) ((yv [.string t1, .int .i64 t2, .int .i64 t3] (Value.int .i8) t4 [.int .i64 t5, .int .i64 t6, .int .i64 t7, .int .i64 t8, .int .i64 t9, .int .i64 t10, .bool t11, .bool t12, .bool t13, .int .i64 t14, .int .i64 t15, .int .i64 t16, t17])) BKr.out ((yv_pre (a := 3) rfl 2 (by decide)).trans rfl) _ rfl rfl) rfl ?_))
  (try simp only [Act.put, sI, sZ, sS])
  have WR64 := i64_w
  have WR32 := i32_w
  have WR8 := u8_w
  have WRU := u32_w
  apply sq_join2 (F := fun gb25 gb26 w'_ => (Bex g w.heap.size w w'_) ∧ (Blk w'_ g 40 (yv [.string t1, .int .i64 t2, .int .i64 t3] (Value.int .i8) t4 [.int .i64 t5, .int .i64 t6, .int .i64 t7, .int .i64 t8, .int .i64 t9, .int .i64 t10, .bool t11, .bool t12, .bool t13, .int .i64 t14, .int .i64 t15, .int .i64 t16, t17])) ∧ (Blk w'_ gb25 29 #[.int .i64 t18, .int .i64 t19, .int .i64 t20, .bool t21]) ∧ (Blk w'_ gb26 48 #[.int .i64 t22, .int .i64 t23, .int .i64 t24]) ∧ (w.heap.size ≤ gb25) ∧ (g ≠ gb25) ∧ (gb25 ≠ g) ∧ (gb26 ≠ gb25) ∧ (w.heap.size ≤ gb26) ∧ (g ≠ gb26) ∧ (gb26 ≠ g) ∧ (gb25 ≠ gb26))
  ·
   refine st_region (fun w'_ => Bex g w.heap.size w w'_ ∧ Blk w'_ g 40 (yv [.string t1, .int .i64 t2, .int .i64 t3] (Value.int .i8) t4 [.int .i64 t5, .int .i64 t6, .int .i64 t7, .int .i64 t8, .int .i64 t9, .int .i64 t10, .bool t11, .bool t12, .bool t13, .int .i64 t14, .int .i64 t15, .int .i64 t16, t17]) ∧ True) [8, 14, 15] (.pure 0 (.pure 1 (.pure 2 (.take 3 (.pure 4 (.pure 5 (.pure 6 (.take 7 (.f3 8 (.pure 9 (.pure 10 (.pure 11 (.f2 12 (.act 13 (.act 14 (.act 15 .nil))) 13 (.act 12 (.act 14 (.act 15 .nil))))))) 12 (.f2 8 (.pure 9 (.pure 10 (.pure 11 (.act 13 (.act 14 (.act 15 .nil)))))) 13 (.act 8 (.pure 9 (.pure 10 (.pure 11 (.act 14 (.act 15 .nil))))))) 13 (.f2 8 (.pure 9 (.pure 10 (.pure 11 (.act 12 (.act 14 (.act 15 .nil)))))) 12 (.act 8 (.pure 9 (.pure 10 (.pure 11 (.act 14 (.act 15 .nil)))))))))))))))) (by kernel_rfl) (by kernel_rfl) (by kernel_rfl) rfl ?_
   intro w86 hb_
   replace BKr := hid (BKr.out.below hb_ BKr.out.lt)
   replace HL := hid (HL.out.below hb_ HL.out.size)
   clear hb_
   refine st_pure (.pointer (some ⟨g, 0, none⟩)) rfl (fun w'_ => ex_mv (.tmp 0) (.inl rfl) _ rfl) rfl rfl ?_
   intro ts_ ht_; simp only [sI, sZ, sS] at ht_; subst ht_
   refine st_pure (.pointer (some ⟨g, 0, none⟩)) rfl (fun w'_ => by go_simp <;> (unfold wrap64; omega)) rfl rfl ?_
   intro ts_ ht_; simp only [sI, sZ, sS] at ht_; subst ht_
   refine st_pure (.pointer (some ⟨g, 0, none⟩)) rfl (fun w'_ => ex_field 40 0 (.pointer (some ⟨g, 0, none⟩)) (.pointer (some ⟨g, 0, none⟩)) (fa40_0_0 g) _ rfl rfl) rfl rfl ?_
   intro ts_ ht_; simp only [sI, sZ, sS] at ht_; subst ht_
   refine st_take (.string t1) ⟨HL.out, BKr.out, trivial⟩ rfl (fun w'_ hS_ => ex_get sT9 g (0) (.string t1) ((yv [.string t1, .int .i64 t2, .int .i64 t3] (Value.int .i8) t4 [.int .i64 t5, .int .i64 t6, .int .i64 t7, .int .i64 t8, .int .i64 t9, .int .i64 t10, .bool t11, .bool t12, .bool t13, .int .i64 t14, .int .i64 t15, .int .i64 t16, t17])) hS_.2.1 ((yv_pre (a := 3) rfl 0 (by decide)).trans rfl) _ rfl rfl) rfl rfl ?_
   intro ts_ ht_; simp only [sI, sZ, sS] at ht_; subst ht_
   refine st_pure (.pointer (some ⟨g, 0, none⟩)) rfl (fun w'_ => ex_mv (.tmp 0) (.inl rfl) _ rfl) rfl rfl ?_
   intro ts_ ht_; simp only [sI, sZ, sS] at ht_; subst ht_
   refine st_pure (.pointer (some ⟨g, 0, none⟩)) rfl (fun w'_ => by go_simp <;> (unfold wrap64; omega)) rfl rfl ?_
   intro ts_ ht_; simp only [sI, sZ, sS] at ht_; subst ht_
   refine st_pure (.pointer (some ⟨g, 1, none⟩)) rfl (fun w'_ => ex_field 40 1 (.pointer (some ⟨g, 0, none⟩)) (.pointer (some ⟨g, 1, none⟩)) (fa40_1_0 g) _ rfl rfl) rfl rfl ?_
   intro ts_ ht_; simp only [sI, sZ, sS] at ht_; subst ht_
   refine st_take (.int .i64 t2) ⟨HL.out, BKr.out, trivial⟩ rfl (fun w'_ hS_ => ex_get sT3 g (1) (.int .i64 t2) ((yv [.string t1, .int .i64 t2, .int .i64 t3] (Value.int .i8) t4 [.int .i64 t5, .int .i64 t6, .int .i64 t7, .int .i64 t8, .int .i64 t9, .int .i64 t10, .bool t11, .bool t12, .bool t13, .int .i64 t14, .int .i64 t15, .int .i64 t16, t17])) hS_.2.1 ((yv_pre (a := 3) rfl 1 (by decide)).trans rfl) _ rfl rfl) rfl rfl ?_
   intro ts_ ht_; simp only [sI, sZ, sS] at ht_; subst ht_
   refine st_f3 ?_ ?_ ?_
   ·
    refine st_op rfl (fun Q'_ hQ_ => ?_)
    refine wl_call 27 #[.string t1, .int .i64 t2] (by go_simp) rfl ((i_stip_Read.calls k t1 t2 t18 t19 t20 t21 t22 t23 t24 _ A81.out).mono ?_)
    rintro e_ w88 ⟨rfl, hb_⟩
    replace BKr := hid (BKr.out.below hb_ BKr.out.lt)
    replace HL := hid (HL.out.below hb_ HL.out.size)
    clear hb_
    refine ⟨_, rfl, ?_⟩
    refine hQ_ _ _ (fun h_ => absurd h_ (by decide)) ?_
    clear hQ_ Q'_
    simp only [Act.put, sI, sZ, sS]
    refine st_pure (.tuple #[.agg #[.int .i64 t18, .int .i64 t19, .int .i64 t20, .bool t21], .agg #[.int .i64 t22, .int .i64 t23, .int .i64 t24]]) rfl (fun w'_ => ex_mv (.tmp 20) (.inl rfl) _ rfl) rfl rfl ?_
    intro ts_ ht_; simp only [sI, sZ, sS] at ht_; subst ht_
    refine st_pure (.agg #[.int .i64 t18, .int .i64 t19, .int .i64 t20, .bool t21]) rfl (fun w'_ => by go_simp <;> (unfold wrap64; omega)) rfl rfl ?_
    intro ts_ ht_; simp only [sI, sZ, sS] at ht_; subst ht_
    refine st_pure (.agg #[.int .i64 t22, .int .i64 t23, .int .i64 t24]) rfl (fun w'_ => by go_simp <;> (unfold wrap64; omega)) rfl rfl ?_
    intro ts_ ht_; simp only [sI, sZ, sS] at ht_; subst ht_
    refine st_f2 ?_ ?_
    ·
     refine st_op rfl (fun Q'_ hQ_ => ?_)
     (with_reducible refine gate_d (N := 2) rfl ?_)
     obtain ⟨gb25, hgb25⟩ : ∃ g_, w88.heap.size = g_ := ⟨_, rfl⟩
     refine ag_alloc aT29 gb25 hgb25 rfl rfl ?_
     intro w89 hb_ hB_ hs_
     have GEb25 : Hid (w.heap.size ≤ gb25) := hid (by have := HL.out.size; omega)
     have NBr_b25 : Hid (g ≠ gb25) := hid (by have := BKr.out.lt; omega)
     have NBb25_r : Hid (gb25 ≠ g) := hid (by have := NBr_b25.out; omega)
     replace BKr := hid (BKr.out.below hb_ (by rw [← hgb25]; exact BKr.out.lt))
     replace HL := hid (HL.out.below hb_ (GEb25.out))
     have BKb25 := hid hB_
     clear hb_ hB_ hs_ hgb25
     refine act_end ?_
     refine hQ_ _ _ (fun _ => ⟨HL.out, BKr.out, trivial⟩) ?_
     clear hQ_ Q'_
     simp only [Act.put, sI, sZ, sS]
     refine st_act ?_
     refine st_op rfl (fun Q'_ hQ_ => ?_)
     (with_reducible refine gate_d (N := 3) rfl ?_)
     obtain ⟨gb26, hgb26⟩ : ∃ g_, w89.heap.size = g_ := ⟨_, rfl⟩
     refine ag_alloc aT48 gb26 hgb26 rfl rfl ?_
     intro w90 hb_ hB_ hs_
     have GEb26 : Hid (w.heap.size ≤ gb26) := hid (by have := HL.out.size; omega)
     have NBr_b26 : Hid (g ≠ gb26) := hid (by have := BKr.out.lt; omega)
     have NBb26_r : Hid (gb26 ≠ g) := hid (by have := NBr_b26.out; omega)
     replace BKr := hid (BKr.out.below hb_ (by rw [← hgb26]; exact BKr.out.lt))
     have NBb25_b26 : Hid (gb25 ≠ gb26) := hid (by have := BKb25.out.lt; omega)
     have NBb26_b25 : Hid (gb26 ≠ gb25) := hid (by have := NBb25_b26.out; omega)
     replace BKb25 := hid (BKb25.out.below hb_ (by rw [← hgb26]; exact BKb25.out.lt))
     replace HL := hid (HL.out.below hb_ (GEb26.out))
     have BKb26 := hid hB_
     clear hb_ hB_ hs_ hgb26
     refine act_end ?_
     refine hQ_ _ _ (fun _ => ⟨HL.out, BKr.out, trivial⟩) ?_
     clear hQ_ Q'_
     simp only [Act.put, sI, sZ, sS]
     refine st_act ?_
     refine st_op rfl (fun Q'_ hQ_ => ?_)
     (with_reducible refine gate_s (t := 29) (p := 2) rfl ?_)
     refine ag_store aT29 gb25 0 #[.int .i64 0, .int .i64 0, .int .i64 0, .bool false] #[.int .i64 t18, .int .i64 t19, .int .i64 t20, .bool t21] #[.int .i64 t18, .int .i64 t19, .int .i64 t20, .bool t21] BKb25.out rfl (by simp) (by intro v_ hv_; simp at hv_; rcases hv_ with rfl | rfl | rfl | rfl <;> first | rfl) rfl rfl _ _ rfl rfl rfl ?_
     intro w91 ho_ hB_
     replace BKr := hid (BKr.out.off ho_ NBr_b25.out)
     replace BKb26 := hid (BKb26.out.off ho_ NBb26_b25.out)
     replace HL := hid (HL.out.off ho_ (.inr GEb25.out))
     replace BKb25 := hid hB_
     clear ho_ hB_
     refine act_end ?_
     refine hQ_ _ _ (fun h_ => absurd h_ (by decide)) ?_
     clear hQ_ Q'_
     simp only [Act.put]
     refine st_act ?_
     refine st_op rfl (fun Q'_ hQ_ => ?_)
     (with_reducible refine gate_s (t := 48) (p := 3) rfl ?_)
     refine ag_store aT48 gb26 0 #[.int .i64 0, .int .i64 0, .int .i64 0] #[.int .i64 t22, .int .i64 t23, .int .i64 t24] #[.int .i64 t22, .int .i64 t23, .int .i64 t24] BKb26.out rfl (by simp) (by intro v_ hv_; simp at hv_; rcases hv_ with rfl | rfl | rfl <;> first | rfl) rfl rfl _ _ rfl rfl rfl ?_
     intro w92 ho_ hB_
     replace BKr := hid (BKr.out.off ho_ NBr_b26.out)
     replace BKb25 := hid (BKb25.out.off ho_ NBb25_b26.out)
     replace HL := hid (HL.out.off ho_ (.inr GEb26.out))
     replace BKb26 := hid hB_
     clear ho_ hB_
     refine act_end ?_
     refine hQ_ _ _ (fun h_ => absurd h_ (by decide)) ?_
     clear hQ_ Q'_
     simp only [Act.put]
     exact st_end ⟨rfl, gb25, gb26, rfl, HL.out, BKr.out, BKb25.out, BKb26.out, GEb25.out, NBr_b25.out, NBb25_r.out, NBb26_b25.out, GEb26.out, NBr_b26.out, NBb26_r.out, NBb25_b26.out⟩
    ·
     refine st_op rfl (fun Q'_ hQ_ => ?_)
     (with_reducible refine gate_d (N := 3) rfl ?_)
     obtain ⟨gb26, hgb26⟩ : ∃ g_, w88.heap.size = g_ := ⟨_, rfl⟩
     refine ag_alloc aT48 gb26 hgb26 rfl rfl ?_
     intro w93 hb_ hB_ hs_
     have GEb26 : Hid (w.heap.size ≤ gb26) := hid (by have := HL.out.size; omega)
     have NBr_b26 : Hid (g ≠ gb26) := hid (by have := BKr.out.lt; omega)
     have NBb26_r : Hid (gb26 ≠ g) := hid (by have := NBr_b26.out; omega)
     replace BKr := hid (BKr.out.below hb_ (by rw [← hgb26]; exact BKr.out.lt))
     replace HL := hid (HL.out.below hb_ (GEb26.out))
     have BKb26 := hid hB_
     clear hb_ hB_ hs_ hgb26
     refine act_end ?_
     refine hQ_ _ _ (fun _ => ⟨HL.out, BKr.out, trivial⟩) ?_
     clear hQ_ Q'_
     simp only [Act.put, sI, sZ, sS]
     refine st_act ?_
     refine st_op rfl (fun Q'_ hQ_ => ?_)
     (with_reducible refine gate_d (N := 2) rfl ?_)
     obtain ⟨gb25, hgb25⟩ : ∃ g_, w93.heap.size = g_ := ⟨_, rfl⟩
     refine ag_alloc aT29 gb25 hgb25 rfl rfl ?_
     intro w94 hb_ hB_ hs_
     have GEb25 : Hid (w.heap.size ≤ gb25) := hid (by have := HL.out.size; omega)
     have NBr_b25 : Hid (g ≠ gb25) := hid (by have := BKr.out.lt; omega)
     have NBb25_r : Hid (gb25 ≠ g) := hid (by have := NBr_b25.out; omega)
     replace BKr := hid (BKr.out.below hb_ (by rw [← hgb25]; exact BKr.out.lt))
     have NBb26_b25 : Hid (gb26 ≠ gb25) := hid (by have := BKb26.out.lt; omega)
     have NBb25_b26 : Hid (gb25 ≠ gb26) := hid (by have := NBb26_b25.out; omega)
     replace BKb26 := hid (BKb26.out.below hb_ (by rw [← hgb25]; exact BKb26.out.lt))
     replace HL := hid (HL.out.below hb_ (GEb25.out))
     have BKb25 := hid hB_
     clear hb_ hB_ hs_ hgb25
     refine act_end ?_
     refine hQ_ _ _ (fun _ => ⟨HL.out, BKr.out, trivial⟩) ?_
     clear hQ_ Q'_
     simp only [Act.put, sI, sZ, sS]
     refine st_act ?_
     refine st_op rfl (fun Q'_ hQ_ => ?_)
     (with_reducible refine gate_s (t := 29) (p := 2) rfl ?_)
     refine ag_store aT29 gb25 0 #[.int .i64 0, .int .i64 0, .int .i64 0, .bool false] #[.int .i64 t18, .int .i64 t19, .int .i64 t20, .bool t21] #[.int .i64 t18, .int .i64 t19, .int .i64 t20, .bool t21] BKb25.out rfl (by simp) (by intro v_ hv_; simp at hv_; rcases hv_ with rfl | rfl | rfl | rfl <;> first | rfl) rfl rfl _ _ rfl rfl rfl ?_
     intro w95 ho_ hB_
     replace BKr := hid (BKr.out.off ho_ NBr_b25.out)
     replace BKb26 := hid (BKb26.out.off ho_ NBb26_b25.out)
     replace HL := hid (HL.out.off ho_ (.inr GEb25.out))
     replace BKb25 := hid hB_
     clear ho_ hB_
     refine act_end ?_
     refine hQ_ _ _ (fun h_ => absurd h_ (by decide)) ?_
     clear hQ_ Q'_
     simp only [Act.put]
     refine st_act ?_
     refine st_op rfl (fun Q'_ hQ_ => ?_)
     (with_reducible refine gate_s (t := 48) (p := 3) rfl ?_)
     refine ag_store aT48 gb26 0 #[.int .i64 0, .int .i64 0, .int .i64 0] #[.int .i64 t22, .int .i64 t23, .int .i64 t24] #[.int .i64 t22, .int .i64 t23, .int .i64 t24] BKb26.out rfl (by simp) (by intro v_ hv_; simp at hv_; rcases hv_ with rfl | rfl | rfl <;> first | rfl) rfl rfl _ _ rfl rfl rfl ?_
     intro w96 ho_ hB_
     replace BKr := hid (BKr.out.off ho_ NBr_b26.out)
     replace BKb25 := hid (BKb25.out.off ho_ NBb25_b26.out)
     replace HL := hid (HL.out.off ho_ (.inr GEb26.out))
     replace BKb26 := hid hB_
     clear ho_ hB_
     refine act_end ?_
     refine hQ_ _ _ (fun h_ => absurd h_ (by decide)) ?_
     clear hQ_ Q'_
     simp only [Act.put]
     exact st_end ⟨rfl, gb25, gb26, rfl, HL.out, BKr.out, BKb25.out, BKb26.out, GEb25.out, NBr_b25.out, NBb25_r.out, NBb26_b25.out, GEb26.out, NBr_b26.out, NBb26_r.out, NBb25_b26.out⟩
   ·
    refine st_op rfl (fun Q'_ hQ_ => ?_)
    (with_reducible refine gate_d (N := 2) rfl ?_)
    obtain ⟨gb25, hgb25⟩ : ∃ g_, w86.heap.size = g_ := ⟨_, rfl⟩
    refine ag_alloc aT29 gb25 hgb25 rfl rfl ?_
    intro w97 hb_ hB_ hs_
    have GEb25 : Hid (w.heap.size ≤ gb25) := hid (by have := HL.out.size; omega)
    have NBr_b25 : Hid (g ≠ gb25) := hid (by have := BKr.out.lt; omega)
    have NBb25_r : Hid (gb25 ≠ g) := hid (by have := NBr_b25.out; omega)
    replace BKr := hid (BKr.out.below hb_ (by rw [← hgb25]; exact BKr.out.lt))
    replace HL := hid (HL.out.below hb_ (GEb25.out))
    have BKb25 := hid hB_
    clear hb_ hB_ hs_ hgb25
    refine act_end ?_
    refine hQ_ _ _ (fun _ => ⟨HL.out, BKr.out, trivial⟩) ?_
    clear hQ_ Q'_
    simp only [Act.put, sI, sZ, sS]
    refine st_f2 ?_ ?_
    ·
     refine st_op rfl (fun Q'_ hQ_ => ?_)
     refine wl_call 27 #[.string t1, .int .i64 t2] (by go_simp) rfl ((i_stip_Read.calls k t1 t2 t18 t19 t20 t21 t22 t23 t24 _ A81.out).mono ?_)
     rintro e_ w99 ⟨rfl, hb_⟩
     replace BKr := hid (BKr.out.below hb_ BKr.out.lt)
     replace BKb25 := hid (BKb25.out.below hb_ BKb25.out.lt)
     replace HL := hid (HL.out.below hb_ HL.out.size)
     clear hb_
     refine ⟨_, rfl, ?_⟩
     refine hQ_ _ _ (fun h_ => absurd h_ (by decide)) ?_
     clear hQ_ Q'_
     simp only [Act.put, sI, sZ, sS]
     refine st_pure (.tuple #[.agg #[.int .i64 t18, .int .i64 t19, .int .i64 t20, .bool t21], .agg #[.int .i64 t22, .int .i64 t23, .int .i64 t24]]) rfl (fun w'_ => ex_mv (.tmp 20) (.inl rfl) _ rfl) rfl rfl ?_
     intro ts_ ht_; simp only [sI, sZ, sS] at ht_; subst ht_
     refine st_pure (.agg #[.int .i64 t18, .int .i64 t19, .int .i64 t20, .bool t21]) rfl (fun w'_ => by go_simp <;> (unfold wrap64; omega)) rfl rfl ?_
     intro ts_ ht_; simp only [sI, sZ, sS] at ht_; subst ht_
     refine st_pure (.agg #[.int .i64 t22, .int .i64 t23, .int .i64 t24]) rfl (fun w'_ => by go_simp <;> (unfold wrap64; omega)) rfl rfl ?_
     intro ts_ ht_; simp only [sI, sZ, sS] at ht_; subst ht_
     refine st_act ?_
     refine st_op rfl (fun Q'_ hQ_ => ?_)
     (with_reducible refine gate_d (N := 3) rfl ?_)
     obtain ⟨gb26, hgb26⟩ : ∃ g_, w99.heap.size = g_ := ⟨_, rfl⟩
     refine ag_alloc aT48 gb26 hgb26 rfl rfl ?_
     intro w100 hb_ hB_ hs_
     have GEb26 : Hid (w.heap.size ≤ gb26) := hid (by have := HL.out.size; omega)
     have NBr_b26 : Hid (g ≠ gb26) := hid (by have := BKr.out.lt; omega)
     have NBb26_r : Hid (gb26 ≠ g) := hid (by have := NBr_b26.out; omega)
     replace BKr := hid (BKr.out.below hb_ (by rw [← hgb26]; exact BKr.out.lt))
     have NBb25_b26 : Hid (gb25 ≠ gb26) := hid (by have := BKb25.out.lt; omega)
     have NBb26_b25 : Hid (gb26 ≠ gb25) := hid (by have := NBb25_b26.out; omega)
     replace BKb25 := hid (BKb25.out.below hb_ (by rw [← hgb26]; exact BKb25.out.lt))
     replace HL := hid (HL.out.below hb_ (GEb26.out))
     have BKb26 := hid hB_
     clear hb_ hB_ hs_ hgb26
     refine act_end ?_
     refine hQ_ _ _ (fun _ => ⟨HL.out, BKr.out, trivial⟩) ?_
     clear hQ_ Q'_
     simp only [Act.put, sI, sZ, sS]
     refine st_act ?_
     refine st_op rfl (fun Q'_ hQ_ => ?_)
     (with_reducible refine gate_s (t := 29) (p := 2) rfl ?_)
     refine ag_store aT29 gb25 0 #[.int .i64 0, .int .i64 0, .int .i64 0, .bool false] #[.int .i64 t18, .int .i64 t19, .int .i64 t20, .bool t21] #[.int .i64 t18, .int .i64 t19, .int .i64 t20, .bool t21] BKb25.out rfl (by simp) (by intro v_ hv_; simp at hv_; rcases hv_ with rfl | rfl | rfl | rfl <;> first | rfl) rfl rfl _ _ rfl rfl rfl ?_
     intro w101 ho_ hB_
     replace BKr := hid (BKr.out.off ho_ NBr_b25.out)
     replace BKb26 := hid (BKb26.out.off ho_ NBb26_b25.out)
     replace HL := hid (HL.out.off ho_ (.inr GEb25.out))
     replace BKb25 := hid hB_
     clear ho_ hB_
     refine act_end ?_
     refine hQ_ _ _ (fun h_ => absurd h_ (by decide)) ?_
     clear hQ_ Q'_
     simp only [Act.put]
     refine st_act ?_
     refine st_op rfl (fun Q'_ hQ_ => ?_)
     (with_reducible refine gate_s (t := 48) (p := 3) rfl ?_)
     refine ag_store aT48 gb26 0 #[.int .i64 0, .int .i64 0, .int .i64 0] #[.int .i64 t22, .int .i64 t23, .int .i64 t24] #[.int .i64 t22, .int .i64 t23, .int .i64 t24] BKb26.out rfl (by simp) (by intro v_ hv_; simp at hv_; rcases hv_ with rfl | rfl | rfl <;> first | rfl) rfl rfl _ _ rfl rfl rfl ?_
     intro w102 ho_ hB_
     replace BKr := hid (BKr.out.off ho_ NBr_b26.out)
     replace BKb25 := hid (BKb25.out.off ho_ NBb25_b26.out)
     replace HL := hid (HL.out.off ho_ (.inr GEb26.out))
     replace BKb26 := hid hB_
     clear ho_ hB_
     refine act_end ?_
     refine hQ_ _ _ (fun h_ => absurd h_ (by decide)) ?_
     clear hQ_ Q'_
     simp only [Act.put]
     exact st_end ⟨rfl, gb25, gb26, rfl, HL.out, BKr.out, BKb25.out, BKb26.out, GEb25.out, NBr_b25.out, NBb25_r.out, NBb26_b25.out, GEb26.out, NBr_b26.out, NBb26_r.out, NBb25_b26.out⟩
    ·
     refine st_op rfl (fun Q'_ hQ_ => ?_)
     (with_reducible refine gate_d (N := 3) rfl ?_)
     obtain ⟨gb26, hgb26⟩ : ∃ g_, w97.heap.size = g_ := ⟨_, rfl⟩
     refine ag_alloc aT48 gb26 hgb26 rfl rfl ?_
     intro w103 hb_ hB_ hs_
     have GEb26 : Hid (w.heap.size ≤ gb26) := hid (by have := HL.out.size; omega)
     have NBr_b26 : Hid (g ≠ gb26) := hid (by have := BKr.out.lt; omega)
     have NBb26_r : Hid (gb26 ≠ g) := hid (by have := NBr_b26.out; omega)
     replace BKr := hid (BKr.out.below hb_ (by rw [← hgb26]; exact BKr.out.lt))
     have NBb25_b26 : Hid (gb25 ≠ gb26) := hid (by have := BKb25.out.lt; omega)
     have NBb26_b25 : Hid (gb26 ≠ gb25) := hid (by have := NBb25_b26.out; omega)
     replace BKb25 := hid (BKb25.out.below hb_ (by rw [← hgb26]; exact BKb25.out.lt))
     replace HL := hid (HL.out.below hb_ (GEb26.out))
     have BKb26 := hid hB_
     clear hb_ hB_ hs_ hgb26
     refine act_end ?_
     refine hQ_ _ _ (fun _ => ⟨HL.out, BKr.out, trivial⟩) ?_
     clear hQ_ Q'_
     simp only [Act.put, sI, sZ, sS]
     refine st_act ?_
     refine st_op rfl (fun Q'_ hQ_ => ?_)
     refine wl_call 27 #[.string t1, .int .i64 t2] (by go_simp) rfl ((i_stip_Read.calls k t1 t2 t18 t19 t20 t21 t22 t23 t24 _ A81.out).mono ?_)
     rintro e_ w105 ⟨rfl, hb_⟩
     replace BKr := hid (BKr.out.below hb_ BKr.out.lt)
     replace BKb25 := hid (BKb25.out.below hb_ BKb25.out.lt)
     replace BKb26 := hid (BKb26.out.below hb_ BKb26.out.lt)
     replace HL := hid (HL.out.below hb_ HL.out.size)
     clear hb_
     refine ⟨_, rfl, ?_⟩
     refine hQ_ _ _ (fun h_ => absurd h_ (by decide)) ?_
     clear hQ_ Q'_
     simp only [Act.put, sI, sZ, sS]
     refine st_pure (.tuple #[.agg #[.int .i64 t18, .int .i64 t19, .int .i64 t20, .bool t21], .agg #[.int .i64 t22, .int .i64 t23, .int .i64 t24]]) rfl (fun w'_ => ex_mv (.tmp 20) (.inl rfl) _ rfl) rfl rfl ?_
     intro ts_ ht_; simp only [sI, sZ, sS] at ht_; subst ht_
     refine st_pure (.agg #[.int .i64 t18, .int .i64 t19, .int .i64 t20, .bool t21]) rfl (fun w'_ => by go_simp <;> (unfold wrap64; omega)) rfl rfl ?_
     intro ts_ ht_; simp only [sI, sZ, sS] at ht_; subst ht_
     refine st_pure (.agg #[.int .i64 t22, .int .i64 t23, .int .i64 t24]) rfl (fun w'_ => by go_simp <;> (unfold wrap64; omega)) rfl rfl ?_
     intro ts_ ht_; simp only [sI, sZ, sS] at ht_; subst ht_
     refine st_act ?_
     refine st_op rfl (fun Q'_ hQ_ => ?_)
     (with_reducible refine gate_s (t := 29) (p := 2) rfl ?_)
     refine ag_store aT29 gb25 0 #[.int .i64 0, .int .i64 0, .int .i64 0, .bool false] #[.int .i64 t18, .int .i64 t19, .int .i64 t20, .bool t21] #[.int .i64 t18, .int .i64 t19, .int .i64 t20, .bool t21] BKb25.out rfl (by simp) (by intro v_ hv_; simp at hv_; rcases hv_ with rfl | rfl | rfl | rfl <;> first | rfl) rfl rfl _ _ rfl rfl rfl ?_
     intro w106 ho_ hB_
     replace BKr := hid (BKr.out.off ho_ NBr_b25.out)
     replace BKb26 := hid (BKb26.out.off ho_ NBb26_b25.out)
     replace HL := hid (HL.out.off ho_ (.inr GEb25.out))
     replace BKb25 := hid hB_
     clear ho_ hB_
     refine act_end ?_
     refine hQ_ _ _ (fun h_ => absurd h_ (by decide)) ?_
     clear hQ_ Q'_
     simp only [Act.put]
     refine st_act ?_
     refine st_op rfl (fun Q'_ hQ_ => ?_)
     (with_reducible refine gate_s (t := 48) (p := 3) rfl ?_)
     refine ag_store aT48 gb26 0 #[.int .i64 0, .int .i64 0, .int .i64 0] #[.int .i64 t22, .int .i64 t23, .int .i64 t24] #[.int .i64 t22, .int .i64 t23, .int .i64 t24] BKb26.out rfl (by simp) (by intro v_ hv_; simp at hv_; rcases hv_ with rfl | rfl | rfl <;> first | rfl) rfl rfl _ _ rfl rfl rfl ?_
     intro w107 ho_ hB_
     replace BKr := hid (BKr.out.off ho_ NBr_b26.out)
     replace BKb25 := hid (BKb25.out.off ho_ NBb25_b26.out)
     replace HL := hid (HL.out.off ho_ (.inr GEb26.out))
     replace BKb26 := hid hB_
     clear ho_ hB_
     refine act_end ?_
     refine hQ_ _ _ (fun h_ => absurd h_ (by decide)) ?_
     clear hQ_ Q'_
     simp only [Act.put]
     exact st_end ⟨rfl, gb25, gb26, rfl, HL.out, BKr.out, BKb25.out, BKb26.out, GEb25.out, NBr_b25.out, NBb25_r.out, NBb26_b25.out, GEb26.out, NBr_b26.out, NBb26_r.out, NBb25_b26.out⟩
   ·
    refine st_op rfl (fun Q'_ hQ_ => ?_)
    (with_reducible refine gate_d (N := 3) rfl ?_)
    obtain ⟨gb26, hgb26⟩ : ∃ g_, w86.heap.size = g_ := ⟨_, rfl⟩
    refine ag_alloc aT48 gb26 hgb26 rfl rfl ?_
    intro w108 hb_ hB_ hs_
    have GEb26 : Hid (w.heap.size ≤ gb26) := hid (by have := HL.out.size; omega)
    have NBr_b26 : Hid (g ≠ gb26) := hid (by have := BKr.out.lt; omega)
    have NBb26_r : Hid (gb26 ≠ g) := hid (by have := NBr_b26.out; omega)
    replace BKr := hid (BKr.out.below hb_ (by rw [← hgb26]; exact BKr.out.lt))
    replace HL := hid (HL.out.below hb_ (GEb26.out))
    have BKb26 := hid hB_
    clear hb_ hB_ hs_ hgb26
    refine act_end ?_
    refine hQ_ _ _ (fun _ => ⟨HL.out, BKr.out, trivial⟩) ?_
    clear hQ_ Q'_
    simp only [Act.put, sI, sZ, sS]
    refine st_f2 ?_ ?_
    ·
     refine st_op rfl (fun Q'_ hQ_ => ?_)
     refine wl_call 27 #[.string t1, .int .i64 t2] (by go_simp) rfl ((i_stip_Read.calls k t1 t2 t18 t19 t20 t21 t22 t23 t24 _ A81.out).mono ?_)
     rintro e_ w110 ⟨rfl, hb_⟩
     replace BKr := hid (BKr.out.below hb_ BKr.out.lt)
     replace BKb26 := hid (BKb26.out.below hb_ BKb26.out.lt)
     replace HL := hid (HL.out.below hb_ HL.out.size)
     clear hb_
     refine ⟨_, rfl, ?_⟩
     refine hQ_ _ _ (fun h_ => absurd h_ (by decide)) ?_
     clear hQ_ Q'_
     simp only [Act.put, sI, sZ, sS]
     refine st_pure (.tuple #[.agg #[.int .i64 t18, .int .i64 t19, .int .i64 t20, .bool t21], .agg #[.int .i64 t22, .int .i64 t23, .int .i64 t24]]) rfl (fun w'_ => ex_mv (.tmp 20) (.inl rfl) _ rfl) rfl rfl ?_
     intro ts_ ht_; simp only [sI, sZ, sS] at ht_; subst ht_
     refine st_pure (.agg #[.int .i64 t18, .int .i64 t19, .int .i64 t20, .bool t21]) rfl (fun w'_ => by go_simp <;> (unfold wrap64; omega)) rfl rfl ?_
     intro ts_ ht_; simp only [sI, sZ, sS] at ht_; subst ht_
     refine st_pure (.agg #[.int .i64 t22, .int .i64 t23, .int .i64 t24]) rfl (fun w'_ => by go_simp <;> (unfold wrap64; omega)) rfl rfl ?_
     intro ts_ ht_; simp only [sI, sZ, sS] at ht_; subst ht_
     refine st_act ?_
     refine st_op rfl (fun Q'_ hQ_ => ?_)
     (with_reducible refine gate_d (N := 2) rfl ?_)
     obtain ⟨gb25, hgb25⟩ : ∃ g_, w110.heap.size = g_ := ⟨_, rfl⟩
     refine ag_alloc aT29 gb25 hgb25 rfl rfl ?_
     intro w111 hb_ hB_ hs_
     have GEb25 : Hid (w.heap.size ≤ gb25) := hid (by have := HL.out.size; omega)
     have NBr_b25 : Hid (g ≠ gb25) := hid (by have := BKr.out.lt; omega)
     have NBb25_r : Hid (gb25 ≠ g) := hid (by have := NBr_b25.out; omega)
     replace BKr := hid (BKr.out.below hb_ (by rw [← hgb25]; exact BKr.out.lt))
     have NBb26_b25 : Hid (gb26 ≠ gb25) := hid (by have := BKb26.out.lt; omega)
     have NBb25_b26 : Hid (gb25 ≠ gb26) := hid (by have := NBb26_b25.out; omega)
     replace BKb26 := hid (BKb26.out.below hb_ (by rw [← hgb25]; exact BKb26.out.lt))
     replace HL := hid (HL.out.below hb_ (GEb25.out))
     have BKb25 := hid hB_
     clear hb_ hB_ hs_ hgb25
     refine act_end ?_
     refine hQ_ _ _ (fun _ => ⟨HL.out, BKr.out, trivial⟩) ?_
     clear hQ_ Q'_
     simp only [Act.put, sI, sZ, sS]
     refine st_act ?_
     refine st_op rfl (fun Q'_ hQ_ => ?_)
     (with_reducible refine gate_s (t := 29) (p := 2) rfl ?_)
     refine ag_store aT29 gb25 0 #[.int .i64 0, .int .i64 0, .int .i64 0, .bool false] #[.int .i64 t18, .int .i64 t19, .int .i64 t20, .bool t21] #[.int .i64 t18, .int .i64 t19, .int .i64 t20, .bool t21] BKb25.out rfl (by simp) (by intro v_ hv_; simp at hv_; rcases hv_ with rfl | rfl | rfl | rfl <;> first | rfl) rfl rfl _ _ rfl rfl rfl ?_
     intro w112 ho_ hB_
     replace BKr := hid (BKr.out.off ho_ NBr_b25.out)
     replace BKb26 := hid (BKb26.out.off ho_ NBb26_b25.out)
     replace HL := hid (HL.out.off ho_ (.inr GEb25.out))
     replace BKb25 := hid hB_
     clear ho_ hB_
     refine act_end ?_
     refine hQ_ _ _ (fun h_ => absurd h_ (by decide)) ?_
     clear hQ_ Q'_
     simp only [Act.put]
     refine st_act ?_
     refine st_op rfl (fun Q'_ hQ_ => ?_)
     (with_reducible refine gate_s (t := 48) (p := 3) rfl ?_)
     refine ag_store aT48 gb26 0 #[.int .i64 0, .int .i64 0, .int .i64 0] #[.int .i64 t22, .int .i64 t23, .int .i64 t24] #[.int .i64 t22, .int .i64 t23, .int .i64 t24] BKb26.out rfl (by simp) (by intro v_ hv_; simp at hv_; rcases hv_ with rfl | rfl | rfl <;> first | rfl) rfl rfl _ _ rfl rfl rfl ?_
     intro w113 ho_ hB_
     replace BKr := hid (BKr.out.off ho_ NBr_b26.out)
     replace BKb25 := hid (BKb25.out.off ho_ NBb25_b26.out)
     replace HL := hid (HL.out.off ho_ (.inr GEb26.out))
     replace BKb26 := hid hB_
     clear ho_ hB_
     refine act_end ?_
     refine hQ_ _ _ (fun h_ => absurd h_ (by decide)) ?_
     clear hQ_ Q'_
     simp only [Act.put]
     exact st_end ⟨rfl, gb25, gb26, rfl, HL.out, BKr.out, BKb25.out, BKb26.out, GEb25.out, NBr_b25.out, NBb25_r.out, NBb26_b25.out, GEb26.out, NBr_b26.out, NBb26_r.out, NBb25_b26.out⟩
    ·
     refine st_op rfl (fun Q'_ hQ_ => ?_)
     (with_reducible refine gate_d (N := 2) rfl ?_)
     obtain ⟨gb25, hgb25⟩ : ∃ g_, w108.heap.size = g_ := ⟨_, rfl⟩
     refine ag_alloc aT29 gb25 hgb25 rfl rfl ?_
     intro w114 hb_ hB_ hs_
     have GEb25 : Hid (w.heap.size ≤ gb25) := hid (by have := HL.out.size; omega)
     have NBr_b25 : Hid (g ≠ gb25) := hid (by have := BKr.out.lt; omega)
     have NBb25_r : Hid (gb25 ≠ g) := hid (by have := NBr_b25.out; omega)
     replace BKr := hid (BKr.out.below hb_ (by rw [← hgb25]; exact BKr.out.lt))
     have NBb26_b25 : Hid (gb26 ≠ gb25) := hid (by have := BKb26.out.lt; omega)
     have NBb25_b26 : Hid (gb25 ≠ gb26) := hid (by have := NBb26_b25.out; omega)
     replace BKb26 := hid (BKb26.out.below hb_ (by rw [← hgb25]; exact BKb26.out.lt))
     replace HL := hid (HL.out.below hb_ (GEb25.out))
     have BKb25 := hid hB_
     clear hb_ hB_ hs_ hgb25
     refine act_end ?_
     refine hQ_ _ _ (fun _ => ⟨HL.out, BKr.out, trivial⟩) ?_
     clear hQ_ Q'_
     simp only [Act.put, sI, sZ, sS]
     refine st_act ?_
     refine st_op rfl (fun Q'_ hQ_ => ?_)
     refine wl_call 27 #[.string t1, .int .i64 t2] (by go_simp) rfl ((i_stip_Read.calls k t1 t2 t18 t19 t20 t21 t22 t23 t24 _ A81.out).mono ?_)
     rintro e_ w116 ⟨rfl, hb_⟩
     replace BKr := hid (BKr.out.below hb_ BKr.out.lt)
     replace BKb26 := hid (BKb26.out.below hb_ BKb26.out.lt)
     replace BKb25 := hid (BKb25.out.below hb_ BKb25.out.lt)
     replace HL := hid (HL.out.below hb_ HL.out.size)
     clear hb_
     refine ⟨_, rfl, ?_⟩
     refine hQ_ _ _ (fun h_ => absurd h_ (by decide)) ?_
     clear hQ_ Q'_
     simp only [Act.put, sI, sZ, sS]
     refine st_pure (.tuple #[.agg #[.int .i64 t18, .int .i64 t19, .int .i64 t20, .bool t21], .agg #[.int .i64 t22, .int .i64 t23, .int .i64 t24]]) rfl (fun w'_ => ex_mv (.tmp 20) (.inl rfl) _ rfl) rfl rfl ?_
     intro ts_ ht_; simp only [sI, sZ, sS] at ht_; subst ht_
     refine st_pure (.agg #[.int .i64 t18, .int .i64 t19, .int .i64 t20, .bool t21]) rfl (fun w'_ => by go_simp <;> (unfold wrap64; omega)) rfl rfl ?_
     intro ts_ ht_; simp only [sI, sZ, sS] at ht_; subst ht_
     refine st_pure (.agg #[.int .i64 t22, .int .i64 t23, .int .i64 t24]) rfl (fun w'_ => by go_simp <;> (unfold wrap64; omega)) rfl rfl ?_
     intro ts_ ht_; simp only [sI, sZ, sS] at ht_; subst ht_
     refine st_act ?_
     refine st_op rfl (fun Q'_ hQ_ => ?_)
     (with_reducible refine gate_s (t := 29) (p := 2) rfl ?_)
     refine ag_store aT29 gb25 0 #[.int .i64 0, .int .i64 0, .int .i64 0, .bool false] #[.int .i64 t18, .int .i64 t19, .int .i64 t20, .bool t21] #[.int .i64 t18, .int .i64 t19, .int .i64 t20, .bool t21] BKb25.out rfl (by simp) (by intro v_ hv_; simp at hv_; rcases hv_ with rfl | rfl | rfl | rfl <;> first | rfl) rfl rfl _ _ rfl rfl rfl ?_
     intro w117 ho_ hB_
     replace BKr := hid (BKr.out.off ho_ NBr_b25.out)
     replace BKb26 := hid (BKb26.out.off ho_ NBb26_b25.out)
     replace HL := hid (HL.out.off ho_ (.inr GEb25.out))
     replace BKb25 := hid hB_
     clear ho_ hB_
     refine act_end ?_
     refine hQ_ _ _ (fun h_ => absurd h_ (by decide)) ?_
     clear hQ_ Q'_
     simp only [Act.put]
     refine st_act ?_
     refine st_op rfl (fun Q'_ hQ_ => ?_)
     (with_reducible refine gate_s (t := 48) (p := 3) rfl ?_)
     refine ag_store aT48 gb26 0 #[.int .i64 0, .int .i64 0, .int .i64 0] #[.int .i64 t22, .int .i64 t23, .int .i64 t24] #[.int .i64 t22, .int .i64 t23, .int .i64 t24] BKb26.out rfl (by simp) (by intro v_ hv_; simp at hv_; rcases hv_ with rfl | rfl | rfl <;> first | rfl) rfl rfl _ _ rfl rfl rfl ?_
     intro w118 ho_ hB_
     replace BKr := hid (BKr.out.off ho_ NBr_b26.out)
     replace BKb25 := hid (BKb25.out.off ho_ NBb25_b26.out)
     replace HL := hid (HL.out.off ho_ (.inr GEb26.out))
     replace BKb26 := hid hB_
     clear ho_ hB_
     refine act_end ?_
     refine hQ_ _ _ (fun h_ => absurd h_ (by decide)) ?_
     clear hQ_ Q'_
     simp only [Act.put]
     exact st_end ⟨rfl, gb25, gb26, rfl, HL.out, BKr.out, BKb25.out, BKb26.out, GEb25.out, NBr_b25.out, NBb25_r.out, NBb26_b25.out, GEb26.out, NBr_b26.out, NBb26_r.out, NBb25_b26.out⟩
  rintro gb25 gb26 w119 ⟨HL_, BKr_, BKb25_, BKb26_, GEb25_, NBr_b25_, NBb25_r_, NBb26_b25_, GEb26_, NBr_b26_, NBb26_r_, NBb25_b26_⟩
  clear HL BKr
  have HL := hid HL_
  clear HL_
  have BKr := hid BKr_
  clear BKr_
  have BKb25 := hid BKb25_
  clear BKb25_
  have BKb26 := hid BKb26_
  clear BKb26_
  have GEb25 := hid GEb25_
  clear GEb25_
  have NBr_b25 := hid NBr_b25_
  clear NBr_b25_
  have NBb25_r := hid NBb25_r_
  clear NBb25_r_
  have NBb26_b25 := hid NBb26_b25_
  clear NBb26_b25_
  have GEb26 := hid GEb26_
  clear GEb26_
  have NBr_b26 := hid NBr_b26_
  clear NBr_b26_
  have NBb26_r := hid NBb26_r_
  clear NBb26_r_
  have NBb25_b26 := hid NBb25_b26_
  clear NBb25_b26_
  have k121 := True.intro
  have k123 := True.intro
  go_wp2_with (first
   | ((with_reducible refine gate_d (N := 24) rfl ?_); refine ag_fix (.agg #[.int .i64 t18, .int .i64 t19, .int .i64 t20, .bool t21]) (ex_load aT29 gb25 0 #[.int .i64 t18, .int .i64 t19, .int .i64 t20, .bool t21] #[.int .i64 t18, .int .i64 t19, .int .i64 t20, .bool t21] BKb25.out (by simp) rfl _ rfl rfl) rfl ?_)
   | ((with_reducible refine gate_d (N := 26) rfl ?_); refine ag_fix (.pointer (some ⟨g, 3, none⟩)) (ex_field 40 3 (.pointer (some ⟨g, 0, none⟩)) (.pointer (some ⟨g, 3, none⟩)) (fa40_3_0 g) _ rfl rfl) rfl ?_)
   | ((with_reducible refine gate_d (N := 27) rfl ?_); refine ag_fix (.pointer (some ⟨g, 70, none⟩)) (ex_field 31 1 (.pointer (some ⟨g, 3, none⟩)) (.pointer (some ⟨g, 70, none⟩)) (fa31_1_3 g) _ rfl rfl) rfl ?_)
   | ((with_reducible refine gate_s (t := 29) (p := 27) rfl ?_); refine ag_store aT29 g 70 (yv [.string t1, .int .i64 t2, .int .i64 t3] (Value.int .i8) t4 [.int .i64 t5, .int .i64 t6, .int .i64 t7, .int .i64 t8, .int .i64 t9, .int .i64 t10, .bool t11, .bool t12, .bool t13, .int .i64 t14, .int .i64 t15, .int .i64 t16, t17]) #[.int .i64 t18, .int .i64 t19, .int .i64 t20, .bool t21] (yv [.string t1, .int .i64 t2, .int .i64 t3] (Value.int .i8) t4 [.int .i64 t5, .int .i64 t6, .int .i64 t7, .int .i64 t18, .int .i64 t19, .int .i64 t20, .bool t21, .bool t12, .bool t13, .int .i64 t14, .int .i64 t15, .int .i64 t16, t17]) BKr.out rfl (yv_le (a := 3) (n := 64) (c := 13) rfl LN_t4.out rfl (m := 74) (by decide)) (by intro v_ hv_; simp at hv_; rcases hv_ with rfl | rfl | rfl | rfl <;> first | rfl) (yv_puts (a := 3) (n := 64) rfl LN_t4.out _ 3 70 (by decide) (by simp) rfl) rfl _ _ rfl rfl rfl ?_; intro w120 ho_ hB_; replace BKb26 := hid (BKb26.out.off ho_ NBb26_r.out); replace BKb25 := hid (BKb25.out.off ho_ NBb25_r.out); replace HL := hid (HL.out.off ho_ (.inl rfl)); replace BKr := hid hB_; clear ho_ hB_)
   | ((with_reducible refine gate_d (N := 29) rfl ?_); refine ag_fix (.agg #[.int .i64 t22, .int .i64 t23, .int .i64 t24]) (ex_load aT48 gb26 0 #[.int .i64 t22, .int .i64 t23, .int .i64 t24] #[.int .i64 t22, .int .i64 t23, .int .i64 t24] BKb26.out (by simp) rfl _ rfl rfl) rfl ?_)
   | (go_at_call 21; clear k121; refine (i_task_reader_step.calls t1 t2 t3 t4 t5 t6 t7 t18 t19 t20 t21 t12 t13 t14 t15 t16 t17 t22 t23 t24 LN_t4.out t27 t28 t29 t30 t31 t32 t33 t34 t35 t36 t37 t38 t39 t40 t41 t42 t43 t44 g _ BKr.out A82.out).mono ?_; rintro e_ w122 ⟨rfl, ln_t31, hB_, hx_⟩; have LN_t31 := hid ln_t31; clear ln_t31; replace BKb26 := hid (BKb26.out.bex hx_ BKb26.out.lt NBb26_r.out); replace BKb25 := hid (BKb25.out.bex hx_ BKb25.out.lt NBb25_r.out); replace HL := hid (HL.out.bex hx_ HL.out.size (.inl rfl)); replace BKr := hid hB_; clear hx_ hB_)
   | (go_at_call 16; clear k123; refine (i_task_reader_word.calls k t28 t29 t30 t31 t32 t33 t34 t35 t36 t37 t38 t39 t40 t41 t42 t43 t44 (⟨#[10]⟩ : ByteArray) LN_t31.out t45 t46 t47 t48 t49 t50 t51 t52 t53 t54 t55 t56 t57 t58 t59 t60 t61 g _ BKr.out A83.out).mono ?_; rintro e_ w124 ⟨rfl, ln_t48, hB_, hx_⟩; have LN_t48 := hid ln_t48; clear ln_t48; replace BKb26 := hid (BKb26.out.bex hx_ BKb26.out.lt NBb26_r.out); replace BKb25 := hid (BKb25.out.bex hx_ BKb25.out.lt NBb25_r.out); replace HL := hid (HL.out.bex hx_ HL.out.size (.inl rfl)); replace BKr := hid hB_; clear hx_ hB_))
  (try simp only [Act.put, sI, sZ, sS])
  (first | go_end0 | refine bodyPost_ret (results_none rfl _ _ _) rfl ?_)
  exact ⟨by first | rfl | (simp; done), LN_t48.out, (by exact BKr.out), HL.out⟩
 ·
  rw [if_neg c80] at H
  have c80b0 : (t3 == 0) = false := beq_eq_false_iff_ne.mpr c80
  have c80b1 : (t3 != 0) = true := bne_iff_ne.mpr c80
  have hc80 := hid c80
  clear c80
  replace H := Option.bind_eq_some_iff.mp H
  obtain ⟨⟨t62, t63, t64, t65, t66, t67, t68, t69, t70, t71, t72, t73, t74, t75, t76, t77, t78⟩, A125_, H⟩ := H
  dsimp only at H
  have A125 := hid A125_
  clear A125_
  simp only [Option.some.injEq, Prod.mk.injEq] at H
  obtain ⟨rfl, rfl, rfl, rfl, rfl, rfl, rfl, rfl, rfl, rfl, rfl, rfl, rfl, rfl, rfl, rfl, rfl⟩ := H
  go_enter Try.func8, Try.ntmps8
  have k126 := True.intro
  have k128 := True.intro
  go_wp2_with (first
   | (go_at_call 16; clear k126; refine (i_task_reader_word.calls k s0 s1 s2 s3 s4 s5 s6 s7 s8 s9 s10 s11 s12 s13 s14 s15 s16 (⟨#[115, 116, 105, 112, 32]⟩ : ByteArray) LN_s3.out t1 t2 t3 t4 t5 t6 t7 t8 t9 t10 t11 t12 t13 t14 t15 t16 t17 g _ BKr.out A79.out).mono ?_; rintro e_ w127 ⟨rfl, ln_t4, hB_, hx_⟩; have LN_t4 := hid ln_t4; clear ln_t4; replace HL := hid (HL.out.bex hx_ HL.out.size (.inl rfl)); replace BKr := hid hB_; clear hx_ hB_)
   | ((with_reducible refine gate_d (N := 8) rfl ?_); refine ag_fix (.pointer (some ⟨g, 2, none⟩)) (ex_field 40 2 (.pointer (some ⟨g, 0, none⟩)) (.pointer (some ⟨g, 2, none⟩)) (fa40_2_0 g) _ rfl rfl) rfl ?_)
   | ((with_reducible refine gate_d (N := 9) rfl ?_); refine ag_fix (.int .i64 t3) (ex_get sT32 g (2) (.int .i64 t3) ((yv [.string t1, .int .i64 t2, .int .i64 t3] (Value.int .i8) t4 [.int .i64 t5, .int .i64 t6, .int .i64 t7, .int .i64 t8, .int .i64 t9, .int .i64 t10, .bool t11, .bool t12, .bool t13, .int .i64 t14, .int .i64 t15, .int .i64 t16, t17])) BKr.out ((yv_pre (a := 3) rfl 2 (by decide)).trans rfl) _ rfl rfl) rfl ?_)
   | (go_at_call 16; clear k128; refine (i_task_reader_word.calls k t1 t2 t3 t4 t5 t6 t7 t8 t9 t10 t11 t12 t13 t14 t15 t16 t17 (⟨#[10]⟩ : ByteArray) LN_t4.out t62 t63 t64 t65 t66 t67 t68 t69 t70 t71 t72 t73 t74 t75 t76 t77 t78 g _ BKr.out A125.out).mono ?_; rintro e_ w129 ⟨rfl, ln_t65, hB_, hx_⟩; have LN_t65 := hid ln_t65; clear ln_t65; replace HL := hid (HL.out.bex hx_ HL.out.size (.inl rfl)); replace BKr := hid hB_; clear hx_ hB_))
  (try simp only [Act.put, sI, sZ, sS])
  (first | go_end0 | refine bodyPost_ret (results_none rfl _ _ _) rfl ?_)
  exact ⟨by first | rfl | (simp; done), LN_t65.out, (by exact BKr.out), HL.out⟩
end Go.Proofs.Ytaipghemddjecaa
