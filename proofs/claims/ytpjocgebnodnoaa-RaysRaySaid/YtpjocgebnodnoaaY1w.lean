/- The walks of package rays: steps, squares along a way. -/
import Derived.Test.YtpjocgebnodnoaaProg
import Derived.Test.YtpjocgebnodnoaaC1w
import Derived.Test.YtpjocgebnodnoaaRs
namespace Go.Proofs.Ytpjocgebnodnoaa
open Go.RowKit
set_option linter.unusedVariables false
set_option linter.unusedSimpArgs false
set_option maxRecDepth 100000
def en87 (x : Int × Int) : List Value := [.int .i64 x.1, .int .i64 x.2]
theorem en87_len (x : Int × Int) : (en87 x).length = 2 := rfl
theorem eN83_info : (Try.prog.info? 87).map (fun i => (i.zero, i.size, i.bytes)) = some (some (.agg #[.int .i64 0, .int .i64 0]), 2, 16) := by kernel_rfl
theorem eN83 : ElemN Try.prog 83 87 2 16 := ⟨by kernel_rfl, by
  obtain ⟨i, h1, h2, h3, h4⟩ := info_parts eN83_info
  exact ⟨i, _, h1, h2, h3, h4, rfl⟩, by decide⟩
theorem fa87_0_0 (g : Nat) (w : World) : (Instr.fieldAt 87 (.pointer (some ⟨g, 0, none⟩)) 0).run Try.prog w = .ok (.pointer (some ⟨g, 0, none⟩)) w := by kernel_rfl
theorem fa87_1_0 (g : Nat) (w : World) : (Instr.fieldAt 87 (.pointer (some ⟨g, 0, none⟩)) 1).run Try.prog w = .ok (.pointer (some ⟨g, 1, none⟩)) w := by kernel_rfl
theorem aT87_agg (w : World) : (isAgg 87).run Try.prog w = .ok true w := by kernel_rfl
theorem aT87_size (w : World) : (sizeOf 87).run Try.prog w = .ok 2 w := by kernel_rfl
theorem aT87_zero (w : World) : (zeroValue 87).run Try.prog w = .ok (.agg #[.int .i64 0, .int .i64 0]) w := by kernel_rfl
theorem aT87 : AggT Try.prog 87 2 #[.int .i64 0, .int .i64 0] := ⟨aT87_agg, aT87_size, aT87_zero, by first | rfl | decide⟩
theorem eqS87 (d : Nat) (w : World) (x0 y0 : Int) (x1 y1 : Int) : (Op.equalIn (d + 2) 87 (.agg #[.int .i64 x0, .int .i64 x1]) (.agg #[.int .i64 y0, .int .i64 y1])).run Try.prog w = .ok ((x0 == y0) && ((x1 == y1))) w := by
  refine eqs_of Try.underlying87 (by kernel_rfl) ?_
  refine eqs_more (by rfl) (by go_simp; rfl) (by go_simp; rfl) (by go_simp) ?_
  exact eqs_last (by rfl) (by go_simp; rfl) (by go_simp; rfl) (by go_simp)
/-! i_rays_straight: function 92 -/
def i_rays_straight.f  : Option ((List (Int × Int))) := some [(0, 1), (1, 0), (0, (-1)), ((-1), 0)]
def i_rays_straight.post (r1 : List (Int × Int)) (w : World) (e : Ending) (w' : World) : Prop := ∃ (u_r1 : Value), e = .returned (u_r1) ∧ OwnN w' w.heap.size 87 2 (u_r1) r1.length (r1.flatMap en87) ∧ Below w.heap.size w w'
set_option maxHeartbeats 40000000 in
set_option maxRecDepth 100000 in
theorem i_rays_straight.calls (r1 : List (Int × Int)) (w : World) (h : i_rays_straight.f = some r1) :
    Calls Try.prog 92 #[] w (i_rays_straight.post r1 w) := by
 have HL := hid (Below.refl w.heap.size w)
 have H : (some [(0, 1), (1, 0), (0, (-1)), ((-1), 0)]) = some r1 := h
 clear h
 obtain rfl := Option.some.inj H
 clear H
 go_enter Try.func92, Try.ntmps92
 go_wp2_with (first
  | ((with_reducible refine gate_d (N := 1) rfl ?_); refine ag_build (.agg #[.int .i64 0, .int .i64 1]) _ rfl rfl ?_ ?_; (intro ww_; simp only [List.map_toArray, List.map_cons, List.map_nil]; kernel_rfl))
  | ((with_reducible refine gate_d (N := 2) rfl ?_); refine ag_build (.agg #[.int .i64 1, .int .i64 0]) _ rfl rfl ?_ ?_; (intro ww_; simp only [List.map_toArray, List.map_cons, List.map_nil]; kernel_rfl))
  | ((with_reducible refine gate_d (N := 3) rfl ?_); refine ag_build (.agg #[.int .i64 0, .int .i64 (-1)]) _ rfl rfl ?_ ?_; (intro ww_; simp only [List.map_toArray, List.map_cons, List.map_nil]; kernel_rfl))
  | ((with_reducible refine gate_d (N := 4) rfl ?_); refine ag_build (.agg #[.int .i64 (-1), .int .i64 0]) _ rfl rfl ?_ ?_; (intro ww_; simp only [List.map_toArray, List.map_cons, List.map_nil]; kernel_rfl))
  | ((with_reducible refine gate_d (N := 5) rfl ?_); obtain ⟨go1, hgo1⟩ : ∃ g_, w.heap.size = g_ := ⟨_, rfl⟩; refine ag_litn (e := 87) 4 #[.int .i64 0, .int .i64 1, .int .i64 1, .int .i64 0, .int .i64 0, .int .i64 (-1), .int .i64 (-1), .int .i64 0] go1 hgo1 rfl _ rfl (fun w_ => by (try simp only [List.map_toArray, List.map_cons, List.map_nil]); kernel_rfl) ?_; intro w2 hb_ hB_ hs_; have GEo1 : Hid (w.heap.size ≤ go1) := hid (by have := HL.out.size; omega); replace HL := hid (HL.out.trans (hb_.mono GEo1.out)); have BKo1 := hid hB_; clear hb_ hB_ hs_ hgo1; obtain ⟨uo1, hu_⟩ : ∃ u_, u_ = (Value.slice (some ⟨go1, 0, none⟩) 4 4) := ⟨_, rfl⟩; have SWo1 : Hid (OwnN w2 w.heap.size 87 2 (uo1) [(0, 1), (1, 0), (0, (-1)), ((-1), 0)].length ([(0, 1), (1, 0), (0, (-1)), ((-1), 0)].flatMap en87)) := hid (by rw [hu_]; exact OwnN.lit [(0, 1), (1, 0), (0, (-1)), ((-1), 0)] en87_len GEo1.out BKo1.out rfl (by simp [maxLen])); rw [← hu_]; clear hu_ BKo1))
 (try simp only [Act.put, sI, sZ, sS])
 go_ret
 exact ⟨_, rfl, (by exact SWo1.out), HL.out⟩
/-! i_rays_slant: function 91 -/
def i_rays_slant.f  : Option ((List (Int × Int))) := some [(1, 1), (1, (-1)), ((-1), (-1)), ((-1), 1)]
def i_rays_slant.post (r1 : List (Int × Int)) (w : World) (e : Ending) (w' : World) : Prop := ∃ (u_r1 : Value), e = .returned (u_r1) ∧ OwnN w' w.heap.size 87 2 (u_r1) r1.length (r1.flatMap en87) ∧ Below w.heap.size w w'
set_option maxHeartbeats 40000000 in
set_option maxRecDepth 100000 in
theorem i_rays_slant.calls (r1 : List (Int × Int)) (w : World) (h : i_rays_slant.f = some r1) :
    Calls Try.prog 91 #[] w (i_rays_slant.post r1 w) := by
 have HL := hid (Below.refl w.heap.size w)
 have H : (some [(1, 1), (1, (-1)), ((-1), (-1)), ((-1), 1)]) = some r1 := h
 clear h
 obtain rfl := Option.some.inj H
 clear H
 go_enter Try.func91, Try.ntmps91
 go_wp2_with (first
  | ((with_reducible refine gate_d (N := 1) rfl ?_); refine ag_build (.agg #[.int .i64 1, .int .i64 1]) _ rfl rfl ?_ ?_; (intro ww_; simp only [List.map_toArray, List.map_cons, List.map_nil]; kernel_rfl))
  | ((with_reducible refine gate_d (N := 2) rfl ?_); refine ag_build (.agg #[.int .i64 1, .int .i64 (-1)]) _ rfl rfl ?_ ?_; (intro ww_; simp only [List.map_toArray, List.map_cons, List.map_nil]; kernel_rfl))
  | ((with_reducible refine gate_d (N := 3) rfl ?_); refine ag_build (.agg #[.int .i64 (-1), .int .i64 (-1)]) _ rfl rfl ?_ ?_; (intro ww_; simp only [List.map_toArray, List.map_cons, List.map_nil]; kernel_rfl))
  | ((with_reducible refine gate_d (N := 4) rfl ?_); refine ag_build (.agg #[.int .i64 (-1), .int .i64 1]) _ rfl rfl ?_ ?_; (intro ww_; simp only [List.map_toArray, List.map_cons, List.map_nil]; kernel_rfl))
  | ((with_reducible refine gate_d (N := 5) rfl ?_); obtain ⟨go1, hgo1⟩ : ∃ g_, w.heap.size = g_ := ⟨_, rfl⟩; refine ag_litn (e := 87) 4 #[.int .i64 1, .int .i64 1, .int .i64 1, .int .i64 (-1), .int .i64 (-1), .int .i64 (-1), .int .i64 (-1), .int .i64 1] go1 hgo1 rfl _ rfl (fun w_ => by (try simp only [List.map_toArray, List.map_cons, List.map_nil]); kernel_rfl) ?_; intro w2 hb_ hB_ hs_; have GEo1 : Hid (w.heap.size ≤ go1) := hid (by have := HL.out.size; omega); replace HL := hid (HL.out.trans (hb_.mono GEo1.out)); have BKo1 := hid hB_; clear hb_ hB_ hs_ hgo1; obtain ⟨uo1, hu_⟩ : ∃ u_, u_ = (Value.slice (some ⟨go1, 0, none⟩) 4 4) := ⟨_, rfl⟩; have SWo1 : Hid (OwnN w2 w.heap.size 87 2 (uo1) [(1, 1), (1, (-1)), ((-1), (-1)), ((-1), 1)].length ([(1, 1), (1, (-1)), ((-1), (-1)), ((-1), 1)].flatMap en87)) := hid (by rw [hu_]; exact OwnN.lit [(1, 1), (1, (-1)), ((-1), (-1)), ((-1), 1)] en87_len GEo1.out BKo1.out rfl (by simp [maxLen])); rw [← hu_]; clear hu_ BKo1))
 (try simp only [Act.put, sI, sZ, sS])
 go_ret
 exact ⟨_, rfl, (by exact SWo1.out), HL.out⟩
/-! i_rays_jumps: function 90 -/
def i_rays_jumps.f  : Option ((List (Int × Int))) := some [(1, 2), (2, 1), (2, (-1)), (1, (-2)), ((-1), (-2)), ((-2), (-1)), ((-2), 1), ((-1), 2)]
def i_rays_jumps.post (r1 : List (Int × Int)) (w : World) (e : Ending) (w' : World) : Prop := ∃ (u_r1 : Value), e = .returned (u_r1) ∧ OwnN w' w.heap.size 87 2 (u_r1) r1.length (r1.flatMap en87) ∧ Below w.heap.size w w'
set_option maxHeartbeats 40000000 in
set_option maxRecDepth 100000 in
theorem i_rays_jumps.calls (r1 : List (Int × Int)) (w : World) (h : i_rays_jumps.f = some r1) :
    Calls Try.prog 90 #[] w (i_rays_jumps.post r1 w) := by
 have HL := hid (Below.refl w.heap.size w)
 have H : (some [(1, 2), (2, 1), (2, (-1)), (1, (-2)), ((-1), (-2)), ((-2), (-1)), ((-2), 1), ((-1), 2)]) = some r1 := h
 clear h
 obtain rfl := Option.some.inj H
 clear H
 go_enter Try.func90, Try.ntmps90
 go_wp2_with (first
  | ((with_reducible refine gate_d (N := 1) rfl ?_); refine ag_build (.agg #[.int .i64 1, .int .i64 2]) _ rfl rfl ?_ ?_; (intro ww_; simp only [List.map_toArray, List.map_cons, List.map_nil]; kernel_rfl))
  | ((with_reducible refine gate_d (N := 2) rfl ?_); refine ag_build (.agg #[.int .i64 2, .int .i64 1]) _ rfl rfl ?_ ?_; (intro ww_; simp only [List.map_toArray, List.map_cons, List.map_nil]; kernel_rfl))
  | ((with_reducible refine gate_d (N := 3) rfl ?_); refine ag_build (.agg #[.int .i64 2, .int .i64 (-1)]) _ rfl rfl ?_ ?_; (intro ww_; simp only [List.map_toArray, List.map_cons, List.map_nil]; kernel_rfl))
  | ((with_reducible refine gate_d (N := 4) rfl ?_); refine ag_build (.agg #[.int .i64 1, .int .i64 (-2)]) _ rfl rfl ?_ ?_; (intro ww_; simp only [List.map_toArray, List.map_cons, List.map_nil]; kernel_rfl))
  | ((with_reducible refine gate_d (N := 5) rfl ?_); refine ag_build (.agg #[.int .i64 (-1), .int .i64 (-2)]) _ rfl rfl ?_ ?_; (intro ww_; simp only [List.map_toArray, List.map_cons, List.map_nil]; kernel_rfl))
  | ((with_reducible refine gate_d (N := 6) rfl ?_); refine ag_build (.agg #[.int .i64 (-2), .int .i64 (-1)]) _ rfl rfl ?_ ?_; (intro ww_; simp only [List.map_toArray, List.map_cons, List.map_nil]; kernel_rfl))
  | ((with_reducible refine gate_d (N := 7) rfl ?_); refine ag_build (.agg #[.int .i64 (-2), .int .i64 1]) _ rfl rfl ?_ ?_; (intro ww_; simp only [List.map_toArray, List.map_cons, List.map_nil]; kernel_rfl))
  | ((with_reducible refine gate_d (N := 8) rfl ?_); refine ag_build (.agg #[.int .i64 (-1), .int .i64 2]) _ rfl rfl ?_ ?_; (intro ww_; simp only [List.map_toArray, List.map_cons, List.map_nil]; kernel_rfl))
  | ((with_reducible refine gate_d (N := 9) rfl ?_); obtain ⟨go1, hgo1⟩ : ∃ g_, w.heap.size = g_ := ⟨_, rfl⟩; refine ag_litn (e := 87) 8 #[.int .i64 1, .int .i64 2, .int .i64 2, .int .i64 1, .int .i64 2, .int .i64 (-1), .int .i64 1, .int .i64 (-2), .int .i64 (-1), .int .i64 (-2), .int .i64 (-2), .int .i64 (-1), .int .i64 (-2), .int .i64 1, .int .i64 (-1), .int .i64 2] go1 hgo1 rfl _ rfl (fun w_ => by (try simp only [List.map_toArray, List.map_cons, List.map_nil]); kernel_rfl) ?_; intro w2 hb_ hB_ hs_; have GEo1 : Hid (w.heap.size ≤ go1) := hid (by have := HL.out.size; omega); replace HL := hid (HL.out.trans (hb_.mono GEo1.out)); have BKo1 := hid hB_; clear hb_ hB_ hs_ hgo1; obtain ⟨uo1, hu_⟩ : ∃ u_, u_ = (Value.slice (some ⟨go1, 0, none⟩) 8 8) := ⟨_, rfl⟩; have SWo1 : Hid (OwnN w2 w.heap.size 87 2 (uo1) [(1, 2), (2, 1), (2, (-1)), (1, (-2)), ((-1), (-2)), ((-2), (-1)), ((-2), 1), ((-1), 2)].length ([(1, 2), (2, 1), (2, (-1)), (1, (-2)), ((-1), (-2)), ((-2), (-1)), ((-2), 1), ((-1), 2)].flatMap en87)) := hid (by rw [hu_]; exact OwnN.lit [(1, 2), (2, 1), (2, (-1)), (1, (-2)), ((-1), (-2)), ((-2), (-1)), ((-2), 1), ((-1), 2)] en87_len GEo1.out BKo1.out rfl (by simp [maxLen])); rw [← hu_]; clear hu_ BKo1))
 (try simp only [Act.put, sI, sZ, sS])
 go_ret
 exact ⟨_, rfl, (by exact SWo1.out), HL.out⟩
/-! i_rays_steps: function 49 -/
def i_rays_steps.f (a0 : Int) : Option ((List (Int × Int)) × Int) := (i_men_Kind.f a0).bind fun t1 => (if t1 = 1 then ((i_men_Side.f a0).bind fun t2 => (if t2 = 1 then (some ([(1, (-1)), ((-1), (-1))], 1)) else (some ([(1, 1), ((-1), 1)], 1)))) else (if t1 = 2 then ((i_rays_jumps.f).bind fun t5 => (some (t5, 1))) else (if t1 = 3 then ((i_rays_slant.f).bind fun t6 => (some (t6, 64))) else (if t1 = 4 then ((i_rays_straight.f).bind fun t7 => (some (t7, 64))) else ((i_rays_straight.f).bind fun t8 => ((i_rays_slant.f).bind fun t9 => (if 0 < t9.length then (if t8.length + t9.length < 8796093022208 then ((i_men_Kind.f a0).bind fun t11 => (if t11 = 6 then (some (t8 ++ t9, 1)) else (some (t8 ++ t9, 64)))) else (none)) else (none))))))))
def i_rays_steps.post (r1 : List (Int × Int)) (r2 : Int) (w : World) (e : Ending) (w' : World) : Prop := ∃ (u_r1 : Value), e = .returned (.tuple #[u_r1, .int .i64 r2]) ∧ OwnN w' w.heap.size 87 2 (u_r1) r1.length (r1.flatMap en87) ∧ Below w.heap.size w w'
set_option maxHeartbeats 40000000 in
set_option maxRecDepth 100000 in
theorem i_rays_steps.calls (a0 : Int) (r1 : List (Int × Int)) (r2 : Int) (w : World) (h : i_rays_steps.f a0 = some (r1, r2)) :
    Calls Try.prog 49 #[.int .i64 a0] w (i_rays_steps.post r1 r2 w) := by
 have HL := hid (Below.refl w.heap.size w)
 have H : ((i_men_Kind.f a0).bind fun t1 => (if t1 = 1 then ((i_men_Side.f a0).bind fun t2 => (if t2 = 1 then (some ([(1, (-1)), ((-1), (-1))], 1)) else (some ([(1, 1), ((-1), 1)], 1)))) else (if t1 = 2 then ((i_rays_jumps.f).bind fun t5 => (some (t5, 1))) else (if t1 = 3 then ((i_rays_slant.f).bind fun t6 => (some (t6, 64))) else (if t1 = 4 then ((i_rays_straight.f).bind fun t7 => (some (t7, 64))) else ((i_rays_straight.f).bind fun t8 => ((i_rays_slant.f).bind fun t9 => (if 0 < t9.length then (if t8.length + t9.length < 8796093022208 then ((i_men_Kind.f a0).bind fun t11 => (if t11 = 6 then (some (t8 ++ t9, 1)) else (some (t8 ++ t9, 64)))) else (none)) else (none))))))))) = some (r1, r2) := h
 clear h
 replace H := Option.bind_eq_some_iff.mp H
 obtain ⟨t1, A12_, H⟩ := H
 have A12 := hid A12_
 clear A12_
 by_cases c13 : t1 = 1
 ·
  rw [if_pos c13] at H
  have c13b0 : (t1 == 1) = true := beq_iff_eq.mpr c13
  have c13b1 : (t1 != 1) = false := bne_eq_false_iff_eq.mpr c13
  have hc13 := hid c13
  clear c13
  have H' := hid H
  clear H
  go_enter Try.func49, Try.ntmps49
  have k15 := True.intro
  go_wp2_with (first
   | (go_at_call 88; clear k15; refine (i_men_Kind.calls a0 t1 _ A12.out).mono ?_; rintro e_ w' ⟨rfl, rfl⟩))
  (try simp only [Act.put, sI, sZ, sS])
  have H := H'.out
  clear H'
  replace H := Option.bind_eq_some_iff.mp H
  obtain ⟨t2, A14_, H⟩ := H
  have A14 := hid A14_
  clear A14_
  by_cases c16 : t2 = 1
  ·
   rw [if_pos c16] at H
   have c16b0 : (t2 == 1) = true := beq_iff_eq.mpr c16
   have c16b1 : (t2 != 1) = false := bne_eq_false_iff_eq.mpr c16
   have hc16 := hid c16
   clear c16
   simp only [Option.some.injEq, Prod.mk.injEq] at H
   obtain ⟨rfl, rfl⟩ := H
   have k17 := True.intro
   go_wp2_with (first
    | (go_at_call 89; clear k17; refine (i_men_Side.calls a0 t2 _ A14.out).mono ?_; rintro e_ w' ⟨rfl, rfl⟩)
    | ((with_reducible refine gate_d (N := 14) rfl ?_); refine ag_build (.agg #[.int .i64 1, .int .i64 (-1)]) _ rfl rfl ?_ ?_; (intro ww_; simp only [List.map_toArray, List.map_cons, List.map_nil]; kernel_rfl))
    | ((with_reducible refine gate_d (N := 16) rfl ?_); refine ag_build (.agg #[.int .i64 (-1), .int .i64 (-1)]) _ rfl rfl ?_ ?_; (intro ww_; simp only [List.map_toArray, List.map_cons, List.map_nil]; kernel_rfl))
    | ((with_reducible refine gate_d (N := 17) rfl ?_); obtain ⟨go3, hgo3⟩ : ∃ g_, w.heap.size = g_ := ⟨_, rfl⟩; refine ag_litn (e := 87) 2 #[.int .i64 1, .int .i64 (-1), .int .i64 (-1), .int .i64 (-1)] go3 hgo3 rfl _ rfl (fun w_ => by (try simp only [List.map_toArray, List.map_cons, List.map_nil]); kernel_rfl) ?_; intro w18 hb_ hB_ hs_; have GEo3 : Hid (w.heap.size ≤ go3) := hid (by have := HL.out.size; omega); replace HL := hid (HL.out.trans (hb_.mono GEo3.out)); have BKo3 := hid hB_; clear hb_ hB_ hs_ hgo3; obtain ⟨uo3, hu_⟩ : ∃ u_, u_ = (Value.slice (some ⟨go3, 0, none⟩) 2 2) := ⟨_, rfl⟩; have SWo3 : Hid (OwnN w18 w.heap.size 87 2 (uo3) [(1, (-1)), ((-1), (-1))].length ([(1, (-1)), ((-1), (-1))].flatMap en87)) := hid (by rw [hu_]; exact OwnN.lit [(1, (-1)), ((-1), (-1))] en87_len GEo3.out BKo3.out rfl (by simp [maxLen])); rw [← hu_]; clear hu_ BKo3))
   (try simp only [Act.put, sI, sZ, sS])
   go_ret2
   exact ⟨_, rfl, (by exact SWo3.out), HL.out⟩
  ·
   rw [if_neg c16] at H
   have c16b0 : (t2 == 1) = false := beq_eq_false_iff_ne.mpr c16
   have c16b1 : (t2 != 1) = true := bne_iff_ne.mpr c16
   have hc16 := hid c16
   clear c16
   simp only [Option.some.injEq, Prod.mk.injEq] at H
   obtain ⟨rfl, rfl⟩ := H
   have k19 := True.intro
   go_wp2_with (first
    | (go_at_call 89; clear k19; refine (i_men_Side.calls a0 t2 _ A14.out).mono ?_; rintro e_ w' ⟨rfl, rfl⟩)
    | ((with_reducible refine gate_d (N := 14) rfl ?_); refine ag_build (.agg #[.int .i64 1, .int .i64 1]) _ rfl rfl ?_ ?_; (intro ww_; simp only [List.map_toArray, List.map_cons, List.map_nil]; kernel_rfl))
    | ((with_reducible refine gate_d (N := 16) rfl ?_); refine ag_build (.agg #[.int .i64 (-1), .int .i64 1]) _ rfl rfl ?_ ?_; (intro ww_; simp only [List.map_toArray, List.map_cons, List.map_nil]; kernel_rfl))
    | ((with_reducible refine gate_d (N := 17) rfl ?_); obtain ⟨go4, hgo4⟩ : ∃ g_, w.heap.size = g_ := ⟨_, rfl⟩; refine ag_litn (e := 87) 2 #[.int .i64 1, .int .i64 1, .int .i64 (-1), .int .i64 1] go4 hgo4 rfl _ rfl (fun w_ => by (try simp only [List.map_toArray, List.map_cons, List.map_nil]); kernel_rfl) ?_; intro w20 hb_ hB_ hs_; have GEo4 : Hid (w.heap.size ≤ go4) := hid (by have := HL.out.size; omega); replace HL := hid (HL.out.trans (hb_.mono GEo4.out)); have BKo4 := hid hB_; clear hb_ hB_ hs_ hgo4; obtain ⟨uo4, hu_⟩ : ∃ u_, u_ = (Value.slice (some ⟨go4, 0, none⟩) 2 2) := ⟨_, rfl⟩; have SWo4 : Hid (OwnN w20 w.heap.size 87 2 (uo4) [(1, 1), ((-1), 1)].length ([(1, 1), ((-1), 1)].flatMap en87)) := hid (by rw [hu_]; exact OwnN.lit [(1, 1), ((-1), 1)] en87_len GEo4.out BKo4.out rfl (by simp [maxLen])); rw [← hu_]; clear hu_ BKo4))
   (try simp only [Act.put, sI, sZ, sS])
   go_ret2
   exact ⟨_, rfl, (by exact SWo4.out), HL.out⟩
 ·
  rw [if_neg c13] at H
  have c13b0 : (t1 == 1) = false := beq_eq_false_iff_ne.mpr c13
  have c13b1 : (t1 != 1) = true := bne_iff_ne.mpr c13
  have hc13 := hid c13
  clear c13
  by_cases c21 : t1 = 2
  ·
   rw [if_pos c21] at H
   have c21b0 : (t1 == 2) = true := beq_iff_eq.mpr c21
   have c21b1 : (t1 != 2) = false := bne_eq_false_iff_eq.mpr c21
   have hc21 := hid c21
   clear c21
   replace H := Option.bind_eq_some_iff.mp H
   obtain ⟨t5, A22_, H⟩ := H
   have A22 := hid A22_
   clear A22_
   simp only [Option.some.injEq, Prod.mk.injEq] at H
   obtain ⟨rfl, rfl⟩ := H
   go_enter Try.func49, Try.ntmps49
   have k23 := True.intro
   have k24 := True.intro
   go_wp2_with (first
    | (go_at_call 88; clear k23; refine (i_men_Kind.calls a0 t1 _ A12.out).mono ?_; rintro e_ w' ⟨rfl, rfl⟩)
    | (go_at_call 90; clear k24; refine (i_rays_jumps.calls t5 _ A22.out).mono ?_; rintro e_ w25 ⟨ut5, rfl, so_t5, hb_⟩; replace so_t5 := so_t5.mono HL.out.size; have SWn_t5 := hid so_t5; clear so_t5; replace HL := hid (HL.out.trans (hb_.mono HL.out.size)); clear hb_; have SWt5 := SWn_t5; clear SWn_t5))
   (try simp only [Act.put, sI, sZ, sS])
   go_ret2
   exact ⟨_, rfl, (by exact SWt5.out), HL.out⟩
  ·
   rw [if_neg c21] at H
   have c21b0 : (t1 == 2) = false := beq_eq_false_iff_ne.mpr c21
   have c21b1 : (t1 != 2) = true := bne_iff_ne.mpr c21
   have hc21 := hid c21
   clear c21
   by_cases c26 : t1 = 3
   ·
    rw [if_pos c26] at H
    have c26b0 : (t1 == 3) = true := beq_iff_eq.mpr c26
    have c26b1 : (t1 != 3) = false := bne_eq_false_iff_eq.mpr c26
    have hc26 := hid c26
    clear c26
    replace H := Option.bind_eq_some_iff.mp H
    obtain ⟨t6, A27_, H⟩ := H
    have A27 := hid A27_
    clear A27_
    simp only [Option.some.injEq, Prod.mk.injEq] at H
    obtain ⟨rfl, rfl⟩ := H
    go_enter Try.func49, Try.ntmps49
    have k28 := True.intro
    have k29 := True.intro
    go_wp2_with (first
     | (go_at_call 88; clear k28; refine (i_men_Kind.calls a0 t1 _ A12.out).mono ?_; rintro e_ w' ⟨rfl, rfl⟩)
     | (go_at_call 91; clear k29; refine (i_rays_slant.calls t6 _ A27.out).mono ?_; rintro e_ w30 ⟨ut6, rfl, so_t6, hb_⟩; replace so_t6 := so_t6.mono HL.out.size; have SWn_t6 := hid so_t6; clear so_t6; replace HL := hid (HL.out.trans (hb_.mono HL.out.size)); clear hb_; have SWt6 := SWn_t6; clear SWn_t6))
    (try simp only [Act.put, sI, sZ, sS])
    go_ret2
    exact ⟨_, rfl, (by exact SWt6.out), HL.out⟩
   ·
    rw [if_neg c26] at H
    have c26b0 : (t1 == 3) = false := beq_eq_false_iff_ne.mpr c26
    have c26b1 : (t1 != 3) = true := bne_iff_ne.mpr c26
    have hc26 := hid c26
    clear c26
    by_cases c31 : t1 = 4
    ·
     rw [if_pos c31] at H
     have c31b0 : (t1 == 4) = true := beq_iff_eq.mpr c31
     have c31b1 : (t1 != 4) = false := bne_eq_false_iff_eq.mpr c31
     have hc31 := hid c31
     clear c31
     replace H := Option.bind_eq_some_iff.mp H
     obtain ⟨t7, A32_, H⟩ := H
     have A32 := hid A32_
     clear A32_
     simp only [Option.some.injEq, Prod.mk.injEq] at H
     obtain ⟨rfl, rfl⟩ := H
     go_enter Try.func49, Try.ntmps49
     have k33 := True.intro
     have k34 := True.intro
     go_wp2_with (first
      | (go_at_call 88; clear k33; refine (i_men_Kind.calls a0 t1 _ A12.out).mono ?_; rintro e_ w' ⟨rfl, rfl⟩)
      | (go_at_call 92; clear k34; refine (i_rays_straight.calls t7 _ A32.out).mono ?_; rintro e_ w35 ⟨ut7, rfl, so_t7, hb_⟩; replace so_t7 := so_t7.mono HL.out.size; have SWn_t7 := hid so_t7; clear so_t7; replace HL := hid (HL.out.trans (hb_.mono HL.out.size)); clear hb_; have SWt7 := SWn_t7; clear SWn_t7))
     (try simp only [Act.put, sI, sZ, sS])
     go_ret2
     exact ⟨_, rfl, (by exact SWt7.out), HL.out⟩
    ·
     rw [if_neg c31] at H
     have c31b0 : (t1 == 4) = false := beq_eq_false_iff_ne.mpr c31
     have c31b1 : (t1 != 4) = true := bne_iff_ne.mpr c31
     have hc31 := hid c31
     clear c31
     have H' := hid H
     clear H
     go_enter Try.func49, Try.ntmps49
     have k37 := True.intro
     go_wp2_with (first
      | (go_at_call 88; clear k37; refine (i_men_Kind.calls a0 t1 _ A12.out).mono ?_; rintro e_ w' ⟨rfl, rfl⟩))
     (try simp only [Act.put, sI, sZ, sS])
     have H := H'.out
     clear H'
     replace H := Option.bind_eq_some_iff.mp H
     obtain ⟨t8, A36_, H⟩ := H
     have A36 := hid A36_
     clear A36_
     have H' := hid H
     clear H
     have k39 := True.intro
     go_wp2_with (first
      | (go_at_call 92; clear k39; refine (i_rays_straight.calls t8 _ A36.out).mono ?_; rintro e_ w40 ⟨ut8, rfl, so_t8, hb_⟩; replace so_t8 := so_t8.mono HL.out.size; have SWn_t8 := hid so_t8; clear so_t8; replace HL := hid (HL.out.trans (hb_.mono HL.out.size)); clear hb_; have SWt8 := SWn_t8; clear SWn_t8))
     (try simp only [Act.put, sI, sZ, sS])
     have H := H'.out
     clear H'
     replace H := Option.bind_eq_some_iff.mp H
     obtain ⟨t9, A38_, H⟩ := H
     have A38 := hid A38_
     clear A38_
     by_cases c41 : 0 < t9.length
     ·
      rw [if_pos c41] at H
      have c41b0 : decide (0 < t9.length) = true := decide_eq_true c41
      have hc41 := hid c41
      clear c41
      by_cases c42 : t8.length + t9.length < 8796093022208
      ·
       rw [if_pos c42] at H
       have c42b0 : decide (t8.length + t9.length < 8796093022208) = true := decide_eq_true c42
       have hc42 := hid c42
       clear c42
       have H' := hid H
       clear H
       have k44 := True.intro
       have k47 := True.intro
       go_wp2_with (first
        | (go_at_call 91; clear k44; refine (i_rays_slant.calls t9 _ A38.out).mono ?_; rintro e_ w45 ⟨ut9, rfl, so_t9, hb_⟩; replace so_t9 := so_t9.mono HL.out.size; have SWn_t9 := hid so_t9; clear so_t9; replace SWt8 := hid (SWt8.out.below hb_); replace HL := hid (HL.out.trans (hb_.mono HL.out.size)); clear hb_; have SWt9 := SWn_t9; clear SWn_t9)
        | (at_builtin; clear k47; refine app_srcN (len := t8.length) (m := t9.length) eN83 w.heap.size (ut8) (ut9) (t8.flatMap en87) (t9.flatMap en87) SWt8.out SWt9.out.sl (flat_len en87_len _) (by have h1_ := hc41.out; have h2_ := hc42.out; omega) (by intro u_ hu_; rw [List.mem_flatMap] at hu_; obtain ⟨x_, _, hx_⟩ := hu_; simp [en87] at hx_; rcases hx_ with rfl | rfl <;> rfl) (by have h1_ := hc41.out; have h2_ := hc42.out; omega) (by have h1_ := hc41.out; have h2_ := hc42.out; unfold maxLen; omega) HL.out.size rfl _ _ rfl rfl rfl ?_; intro uo10 w46 ho_ hb_ hk_ hi_; clear SWt8; have SWo10 : Hid (OwnN w46 w.heap.size 87 2 (uo10) (t8 ++ t9).length ((t8 ++ t9).flatMap en87)) := hid (OwnN.joined ho_); clear SWt9; replace HL := hid (HL.out.trans hb_); clear ho_ hb_ hk_ hi_))
       (try simp only [Act.put, sI, sZ, sS])
       have H := H'.out
       clear H'
       replace H := Option.bind_eq_some_iff.mp H
       obtain ⟨t11, A43_, H⟩ := H
       have A43 := hid A43_
       clear A43_
       by_cases c48 : t11 = 6
       ·
        rw [if_pos c48] at H
        have c48b0 : (t11 == 6) = true := beq_iff_eq.mpr c48
        have c48b1 : (t11 != 6) = false := bne_eq_false_iff_eq.mpr c48
        have hc48 := hid c48
        clear c48
        simp only [Option.some.injEq, Prod.mk.injEq] at H
        obtain ⟨rfl, rfl⟩ := H
        have k49 := True.intro
        go_wp2_with (first
         | (go_at_call 88; clear k49; refine (i_men_Kind.calls a0 t11 _ A43.out).mono ?_; rintro e_ w' ⟨rfl, rfl⟩))
        (try simp only [Act.put, sI, sZ, sS])
        go_ret2
        exact ⟨_, rfl, (by exact SWo10.out), HL.out⟩
       ·
        rw [if_neg c48] at H
        have c48b0 : (t11 == 6) = false := beq_eq_false_iff_ne.mpr c48
        have c48b1 : (t11 != 6) = true := bne_iff_ne.mpr c48
        have hc48 := hid c48
        clear c48
        simp only [Option.some.injEq, Prod.mk.injEq] at H
        obtain ⟨rfl, rfl⟩ := H
        have k50 := True.intro
        go_wp2_with (first
         | (go_at_call 88; clear k50; refine (i_men_Kind.calls a0 t11 _ A43.out).mono ?_; rintro e_ w' ⟨rfl, rfl⟩))
        (try simp only [Act.put, sI, sZ, sS])
        go_ret2
        exact ⟨_, rfl, (by exact SWo10.out), HL.out⟩
      ·
       rw [if_neg c42] at H
       exact absurd H (by simp)
     ·
      rw [if_neg c41] at H
      exact absurd H (by simp)
/-! i_square_on: function 118 -/
def i_square_on.f (a0 : Int) : Option (Bool) := if a0 ≥ 0 then (some (decide (a0 < 8))) else (some false)
set_option maxHeartbeats 40000000 in
set_option maxRecDepth 100000 in
theorem i_square_on.calls (a0 : Int) (r1 : Bool) (w : World) (h : i_square_on.f a0 = some r1) :
    Calls Try.prog 118 #[.int .i64 a0] w fun e w' => e = .returned (.bool r1) ∧ w = w' := by
 have H : (if a0 ≥ 0 then (some (decide (a0 < 8))) else (some false)) = some r1 := h
 clear h
 by_cases c1 : a0 ≥ 0
 ·
  rw [if_pos c1] at H
  have c1b0 : decide (0 ≤ a0) = true := decide_eq_true c1
  have hc1 := hid c1
  clear c1
  obtain rfl := Option.some.inj H
  clear H
  go_enter Try.func118, Try.ntmps118
  go_wp2_with fail
  (try simp only [Act.put, sI, sZ, sS])
  go_ret
  exact ⟨by first | rfl | (simp; done) | (simp [*]; done), rfl⟩
 ·
  rw [if_neg c1] at H
  have c1b0 : decide (0 ≤ a0) = false := decide_eq_false c1
  have hc1 := hid c1
  clear c1
  obtain rfl := Option.some.inj H
  clear H
  go_enter Try.func118, Try.ntmps118
  go_wp2_with fail
  (try simp only [Act.put, sI, sZ, sS])
  go_ret
  exact ⟨by first | rfl | (simp; done) | (simp [*]; done), rfl⟩
/-! i_square_At: function 112 -/
def i_square_At.f (a0 : Int) (a1 : Int) : Option (Int × Bool) := (i_square_on.f a0).bind fun t1 => (if t1 = true then ((i_square_on.f a1).bind fun t2 => (if t2 = true then (some (wrap64 ((wrap64 (8 * a1)) + a0), true)) else (some (0, false)))) else (some (0, false)))
set_option maxHeartbeats 40000000 in
set_option maxRecDepth 100000 in
theorem i_square_At.calls (a0 : Int) (a1 : Int) (r1 : Int) (r2 : Bool) (w : World) (h : i_square_At.f a0 a1 = some (r1, r2)) :
    Calls Try.prog 112 #[.int .i64 a0, .int .i64 a1] w fun e w' => e = .returned (.tuple #[.int .i64 r1, .bool r2]) ∧ w = w' := by
 have H : ((i_square_on.f a0).bind fun t1 => (if t1 = true then ((i_square_on.f a1).bind fun t2 => (if t2 = true then (some (wrap64 ((wrap64 (8 * a1)) + a0), true)) else (some (0, false)))) else (some (0, false)))) = some (r1, r2) := h
 clear h
 replace H := Option.bind_eq_some_iff.mp H
 obtain ⟨t1, A3_, H⟩ := H
 have A3 := hid A3_
 clear A3_
 cases t1 with
 | true =>
  rw [if_pos rfl] at H
  have H' := hid H
  clear H
  go_enter Try.func112, Try.ntmps112
  have k6 := True.intro
  go_wp2_with (first
   | (go_at_call 118; clear k6; refine (i_square_on.calls a0 true _ A3.out).mono ?_; rintro e_ w' ⟨rfl, rfl⟩))
  (try simp only [Act.put, sI, sZ, sS])
  have H := H'.out
  clear H'
  replace H := Option.bind_eq_some_iff.mp H
  obtain ⟨t2, A5_, H⟩ := H
  have A5 := hid A5_
  clear A5_
  cases t2 with
  | true =>
   rw [if_pos rfl] at H
   simp only [Option.some.injEq, Prod.mk.injEq] at H
   obtain ⟨rfl, rfl⟩ := H
   have k8 := True.intro
   go_wp2_with (first
    | (go_at_call 118; clear k8; refine (i_square_on.calls a1 true _ A5.out).mono ?_; rintro e_ w' ⟨rfl, rfl⟩))
   (try simp only [Act.put, sI, sZ, sS])
   go_ret2
   exact ⟨by first | rfl | (simp; done) | (simp [*]; done), rfl⟩
  | false =>
   rw [if_neg (show ¬ (false = true) by decide)] at H
   simp only [Option.some.injEq, Prod.mk.injEq] at H
   obtain ⟨rfl, rfl⟩ := H
   have k9 := True.intro
   go_wp2_with (first
    | (go_at_call 118; clear k9; refine (i_square_on.calls a1 false _ A5.out).mono ?_; rintro e_ w' ⟨rfl, rfl⟩))
   (try simp only [Act.put, sI, sZ, sS])
   go_ret2
   exact ⟨by first | rfl | (simp; done) | (simp [*]; done), rfl⟩
 | false =>
  rw [if_neg (show ¬ (false = true) by decide)] at H
  simp only [Option.some.injEq, Prod.mk.injEq] at H
  obtain ⟨rfl, rfl⟩ := H
  go_enter Try.func112, Try.ntmps112
  have k10 := True.intro
  go_wp2_with (first
   | (go_at_call 118; clear k10; refine (i_square_on.calls a0 false _ A3.out).mono ?_; rintro e_ w' ⟨rfl, rfl⟩))
  (try simp only [Act.put, sI, sZ, sS])
  go_ret2
  exact ⟨by first | rfl | (simp; done) | (simp [*]; done), rfl⟩
/-! i_square_Step: function 93 -/
def i_square_Step.f (a0 : Int) (a1 : Int) (a2 : Int) : Option (Int × Bool) := (i_square_Right.f a0).bind fun t1 => (if t1 = true then (if a1 ≤ (-8) then (some (0, false)) else (if a1 ≥ 8 then (some (0, false)) else (if a2 ≤ (-8) then (some (0, false)) else (if a2 ≥ 8 then (some (0, false)) else ((i_square_At.f (wrap64 ((Int.tmod a0 8) + a1)) (wrap64 ((wrap64 (Int.tdiv a0 8)) + a2))).bind fun bt2 => (some (bt2.1, bt2.2))))))) else (some (0, false)))
set_option maxHeartbeats 40000000 in
set_option maxRecDepth 100000 in
theorem i_square_Step.calls (a0 : Int) (a1 : Int) (a2 : Int) (r1 : Int) (r2 : Bool) (w : World) (h : i_square_Step.f a0 a1 a2 = some (r1, r2)) :
    Calls Try.prog 93 #[.int .i64 a0, .int .i64 a1, .int .i64 a2] w fun e w' => e = .returned (.tuple #[.int .i64 r1, .bool r2]) ∧ w = w' := by
 have H : ((i_square_Right.f a0).bind fun t1 => (if t1 = true then (if a1 ≤ (-8) then (some (0, false)) else (if a1 ≥ 8 then (some (0, false)) else (if a2 ≤ (-8) then (some (0, false)) else (if a2 ≥ 8 then (some (0, false)) else ((i_square_At.f (wrap64 ((Int.tmod a0 8) + a1)) (wrap64 ((wrap64 (Int.tdiv a0 8)) + a2))).bind fun bt2 => (some (bt2.1, bt2.2))))))) else (some (0, false)))) = some (r1, r2) := h
 clear h
 replace H := Option.bind_eq_some_iff.mp H
 obtain ⟨t1, A4_, H⟩ := H
 have A4 := hid A4_
 clear A4_
 cases t1 with
 | true =>
  rw [if_pos rfl] at H
  by_cases c6 : a1 ≤ (-8)
  ·
   rw [if_pos c6] at H
   have c6b0 : decide (a1 ≤ (-8)) = true := decide_eq_true c6
   have hc6 := hid c6
   clear c6
   simp only [Option.some.injEq, Prod.mk.injEq] at H
   obtain ⟨rfl, rfl⟩ := H
   go_enter Try.func93, Try.ntmps93
   have k7 := True.intro
   go_wp2_with (first
    | (go_at_call 53; clear k7; refine (i_square_Right.calls a0 true _ A4.out).mono ?_; rintro e_ w' ⟨rfl, rfl⟩))
   (try simp only [Act.put, sI, sZ, sS])
   go_ret2
   exact ⟨by first | rfl | (simp; done) | (simp [*]; done), rfl⟩
  ·
   rw [if_neg c6] at H
   have c6b0 : decide (a1 ≤ (-8)) = false := decide_eq_false c6
   have hc6 := hid c6
   clear c6
   by_cases c8 : a1 ≥ 8
   ·
    rw [if_pos c8] at H
    have c8b0 : decide (8 ≤ a1) = true := decide_eq_true c8
    have hc8 := hid c8
    clear c8
    simp only [Option.some.injEq, Prod.mk.injEq] at H
    obtain ⟨rfl, rfl⟩ := H
    go_enter Try.func93, Try.ntmps93
    have k9 := True.intro
    go_wp2_with (first
     | (go_at_call 53; clear k9; refine (i_square_Right.calls a0 true _ A4.out).mono ?_; rintro e_ w' ⟨rfl, rfl⟩))
    (try simp only [Act.put, sI, sZ, sS])
    go_ret2
    exact ⟨by first | rfl | (simp; done) | (simp [*]; done), rfl⟩
   ·
    rw [if_neg c8] at H
    have c8b0 : decide (8 ≤ a1) = false := decide_eq_false c8
    have hc8 := hid c8
    clear c8
    by_cases c10 : a2 ≤ (-8)
    ·
     rw [if_pos c10] at H
     have c10b0 : decide (a2 ≤ (-8)) = true := decide_eq_true c10
     have hc10 := hid c10
     clear c10
     simp only [Option.some.injEq, Prod.mk.injEq] at H
     obtain ⟨rfl, rfl⟩ := H
     go_enter Try.func93, Try.ntmps93
     have k11 := True.intro
     go_wp2_with (first
      | (go_at_call 53; clear k11; refine (i_square_Right.calls a0 true _ A4.out).mono ?_; rintro e_ w' ⟨rfl, rfl⟩))
     (try simp only [Act.put, sI, sZ, sS])
     go_ret2
     exact ⟨by first | rfl | (simp; done) | (simp [*]; done), rfl⟩
    ·
     rw [if_neg c10] at H
     have c10b0 : decide (a2 ≤ (-8)) = false := decide_eq_false c10
     have hc10 := hid c10
     clear c10
     by_cases c12 : a2 ≥ 8
     ·
      rw [if_pos c12] at H
      have c12b0 : decide (8 ≤ a2) = true := decide_eq_true c12
      have hc12 := hid c12
      clear c12
      simp only [Option.some.injEq, Prod.mk.injEq] at H
      obtain ⟨rfl, rfl⟩ := H
      go_enter Try.func93, Try.ntmps93
      have k13 := True.intro
      go_wp2_with (first
       | (go_at_call 53; clear k13; refine (i_square_Right.calls a0 true _ A4.out).mono ?_; rintro e_ w' ⟨rfl, rfl⟩))
      (try simp only [Act.put, sI, sZ, sS])
      go_ret2
      exact ⟨by first | rfl | (simp; done) | (simp [*]; done), rfl⟩
     ·
      rw [if_neg c12] at H
      have c12b0 : decide (8 ≤ a2) = false := decide_eq_false c12
      have hc12 := hid c12
      clear c12
      replace H := Option.bind_eq_some_iff.mp H
      obtain ⟨⟨t2, t3⟩, A14_, H⟩ := H
      dsimp only at H
      have A14 := hid A14_
      clear A14_
      simp only [Option.some.injEq, Prod.mk.injEq] at H
      obtain ⟨rfl, rfl⟩ := H
      go_enter Try.func93, Try.ntmps93
      have k15 := True.intro
      have k16 := True.intro
      go_wp2_with (first
       | (go_at_call 53; clear k15; refine (i_square_Right.calls a0 true _ A4.out).mono ?_; rintro e_ w' ⟨rfl, rfl⟩)
       | (go_at_call 112; clear k16; refine (i_square_At.calls (wrap64 ((Int.tmod a0 8) + a1)) (wrap64 ((wrap64 (Int.tdiv a0 8)) + a2)) t2 t3 _ A14.out).mono ?_; rintro e_ w' ⟨rfl, rfl⟩))
      (try simp only [Act.put, sI, sZ, sS])
      go_ret2
      exact ⟨by first | rfl | (simp; done) | (simp [*]; done), rfl⟩
 | false =>
  rw [if_neg (show ¬ (false = true) by decide)] at H
  simp only [Option.some.injEq, Prod.mk.injEq] at H
  obtain ⟨rfl, rfl⟩ := H
  go_enter Try.func93, Try.ntmps93
  have k17 := True.intro
  go_wp2_with (first
   | (go_at_call 53; clear k17; refine (i_square_Right.calls a0 false _ A4.out).mono ?_; rintro e_ w' ⟨rfl, rfl⟩))
  (try simp only [Act.put, sI, sZ, sS])
  go_ret2
  exact ⟨by first | rfl | (simp; done) | (simp [*]; done), rfl⟩
/-! i_rays_walk: function 50 -/
def i_rays_walk.l0 : Nat → Int → Int → Int → Int → List Int → Option ((List Int))
  | 0, _, _, _, _, _ => none
  | k + 1, a1_0, a1_1, a2, x0_0, x7_0 => if (x7_0.length : Int) < a2 then ((i_square_Step.f x0_0 a1_0 a1_1).bind fun bt6 => (if bt6.2 = true then (if ((a1_0 == 0) && ((a1_1 == 0))) = true then (some x7_0) else (if x7_0.length < 17592186044416 then (i_rays_walk.l0 k a1_0 a1_1 a2 bt6.1 (x7_0 ++ [bt6.1])) else (none))) else (some x7_0))) else (some x7_0)
def i_rays_walk.f (k : Nat) (a0 : Int) (a1_0 : Int) (a1_1 : Int) (a2 : Int) : Option ((List Int)) := i_rays_walk.l0 k a1_0 a1_1 a2 a0 ([] : List Int)
def i_rays_walk.post (r1 : List Int) (w : World) (e : Ending) (w' : World) : Prop := ∃ (u_r1 : Value), e = .returned (u_r1) ∧ Own w' w.heap.size 3 (u_r1) (r1.map (Value.int .i64)) ∧ Below w.heap.size w w'
set_option maxHeartbeats 40000000 in
set_option maxRecDepth 100000 in
theorem i_rays_walk.calls (k : Nat) (a0 : Int) (a1_0 : Int) (a1_1 : Int) (a2 : Int) (r1 : List Int) (w : World) (h : i_rays_walk.f k a0 a1_0 a1_1 a2 = some r1) :
    Calls Try.prog 50 #[.int .i64 a0, .agg #[.int .i64 a1_0, .int .i64 a1_1], .int .i64 a2] w (i_rays_walk.post r1 w) := by
 have HL := hid (Below.refl w.heap.size w)
 have H : (i_rays_walk.l0 k a1_0 a1_1 a2 a0 ([] : List Int)) = some r1 := h
 clear h
 have H' := hid H
 clear H
 go_enter Try.func50, Try.ntmps50
 go_wp2_with (first
  | ((with_reducible refine gate_d (N := 4) rfl ?_); obtain ⟨gb1, hgb1⟩ : ∃ g_, w.heap.size = g_ := ⟨_, rfl⟩; refine ag_box #[.int .i64 a1_0, .int .i64 a1_1] gb1 hgb1 rfl _ rfl rfl ?_; intro w10 hb_ hB_ hs_; have GEb1 : Hid (w.heap.size ≤ gb1) := hid (by have := HL.out.size; omega); replace HL := hid (HL.out.trans (hb_.mono GEb1.out)); have BKb1 := hid hB_; clear hb_ hB_ hs_ hgb1))
 (try simp only [Act.put, sI, sZ, sS])
 go_loopg [0, 7] k (fun kq v0 v7 w' => ∃ (x0_0 : Int) (x7_0 : List Int) (ux7_0 : Value), v0 = .int .i64 x0_0 ∧ ux7_0 = v7 ∧ Hid (i_rays_walk.l0 kq a1_0 a1_1 a2 x0_0 x7_0 = some r1) ∧ Hid (kq ≤ k) ∧ Hid (Blk w' gb1 87 #[.int .i64 a1_0, .int .i64 a1_1]) ∧ Hid (Own w' w.heap.size 3 (ux7_0) (x7_0.map (Value.int .i64))) ∧ Hid (Below w.heap.size w w'))
 case atStart => exact ⟨a0, ([] : List Int), (.slice none 0 0), (by first | rfl | (simp; done) | (simp [*]; done)), (by first | rfl | (simp; done) | (simp [*]; done)), H', (hid (by first | omega | (omega))), (hid (by exact BKb1.out)), (hid (Own.nil _ _ _)), HL⟩
 case round =>
  clear H'
  clear HL BKb1
  obtain ⟨x0_0, x7_0, ux7_0, rfl, rfl, HA, HK11, BKb1, SWx7_0, HL⟩ := hrel
  cases gk with
  | zero => exact absurd HA.out (by simp [i_rays_walk.l0])
  | succ k12 =>
   have H := HA.out
   clear HA
   simp only [i_rays_walk.l0] at H
   by_cases c13 : (x7_0.length : Int) < a2
   ·
    rw [if_pos c13] at H
    have c13b0 : decide ((x7_0.length : Int) < a2) = true := decide_eq_true c13
    have hc13 := hid c13
    clear c13
    replace H := Option.bind_eq_some_iff.mp H
    obtain ⟨⟨t6, t7⟩, A14_, H⟩ := H
    dsimp only at H
    have A14 := hid A14_
    clear A14_
    cases t7 with
    | true =>
     rw [if_pos rfl] at H
     by_cases c16 : ((a1_0 == 0) && ((a1_1 == 0))) = true
     ·
      rw [if_pos c16] at H
      have c16b0 : ((a1_0 == 0) && ((a1_1 == 0))) = true := c16
      have hc16 := hid c16
      clear c16
      obtain rfl := Option.some.inj H
      clear H
      have k20 := True.intro
      go_wp2_with (first
       | ((with_reducible refine gate_d (N := 11) rfl ?_); obtain ⟨A17, c18, hv19⟩ := SWx7_0.out.sl.shape; rw [List.length_map] at hv19; refine ag_fix (.int .i64 (x7_0.length : Int)) (ex_len us27 _ _ _ _ hv19 _ rfl rfl) rfl ?_; clear hv19)
       | ((with_reducible refine gate_d (N := 16) rfl ?_); refine ag_fix (.pointer (some ⟨gb1, 0, none⟩)) (ex_field 87 0 (.pointer (some ⟨gb1, 0, none⟩)) (.pointer (some ⟨gb1, 0, none⟩)) (fa87_0_0 gb1) _ rfl rfl) rfl ?_)
       | ((with_reducible refine gate_d (N := 17) rfl ?_); refine ag_fix (.int .i64 a1_0) (ex_get sT3 gb1 (0) (.int .i64 a1_0) (#[.int .i64 a1_0, .int .i64 a1_1]) BKb1.out rfl _ rfl rfl) rfl ?_)
       | ((with_reducible refine gate_d (N := 18) rfl ?_); refine ag_fix (.pointer (some ⟨gb1, 1, none⟩)) (ex_field 87 1 (.pointer (some ⟨gb1, 0, none⟩)) (.pointer (some ⟨gb1, 1, none⟩)) (fa87_1_0 gb1) _ rfl rfl) rfl ?_)
       | ((with_reducible refine gate_d (N := 19) rfl ?_); refine ag_fix (.int .i64 a1_1) (ex_get sT3 gb1 (1) (.int .i64 a1_1) (#[.int .i64 a1_0, .int .i64 a1_1]) BKb1.out rfl _ rfl rfl) rfl ?_)
       | (go_at_call 93; clear k20; refine (i_square_Step.calls x0_0 a1_0 a1_1 t6 true _ A14.out).mono ?_; rintro e_ w' ⟨rfl, rfl⟩)
       | ((with_reducible refine gate_d (N := 26) rfl ?_); refine ag_fix (.agg #[.int .i64 a1_0, .int .i64 a1_1]) (ex_load aT87 gb1 0 #[.int .i64 a1_0, .int .i64 a1_1] #[.int .i64 a1_0, .int .i64 a1_1] BKb1.out (by simp) rfl _ rfl rfl) rfl ?_)
       | ((with_reducible refine gate_d (N := 27) rfl ?_); refine ag_build (.agg #[.int .i64 0, .int .i64 0]) _ rfl rfl ?_ ?_; (intro ww_; simp only [List.map_toArray, List.map_cons, List.map_nil]; kernel_rfl))
       | ((with_reducible refine gate_d (N := 28) rfl ?_); refine ag_fix (.bool true) (ex_eq .eql 87 (.agg #[.int .i64 a1_0, .int .i64 a1_1]) (.agg #[.int .i64 0, .int .i64 0]) (.bool true) (fun x_ y_ w_ => guard_any (by kernel_rfl) _ x_ y_ w_) (fun w_ => (eq_bin (fun d_ w2_ => eqS87 d_ w2_ a1_0 0 a1_1 0 ) (by decide) w_).trans (by rw [show ((a1_0 == 0) && ((a1_1 == 0))) = true from hc16.out])) _ _ _ rfl rfl rfl) rfl ?_))
      (try simp only [Act.put, sI, sZ, sS])
      go_ret
      exact ⟨_, rfl, (by exact SWx7_0.out), HL.out⟩
     ·
      rw [if_neg c16] at H
      have c16b0 : ((a1_0 == 0) && ((a1_1 == 0))) = false := by simpa using c16
      have hc16 := hid c16
      clear c16
      by_cases c21 : x7_0.length < 17592186044416
      ·
       rw [if_pos c21] at H
       have c21b0 : decide (x7_0.length < 17592186044416) = true := decide_eq_true c21
       have hc21 := hid c21
       clear c21
       have H' := hid H
       clear H
       have k25 := True.intro
       have k28 := True.intro
       go_wp2_with (first
        | ((with_reducible refine gate_d (N := 11) rfl ?_); obtain ⟨A22, c23, hv24⟩ := SWx7_0.out.sl.shape; rw [List.length_map] at hv24; refine ag_fix (.int .i64 (x7_0.length : Int)) (ex_len us27 _ _ _ _ hv24 _ rfl rfl) rfl ?_; clear hv24)
        | ((with_reducible refine gate_d (N := 16) rfl ?_); refine ag_fix (.pointer (some ⟨gb1, 0, none⟩)) (ex_field 87 0 (.pointer (some ⟨gb1, 0, none⟩)) (.pointer (some ⟨gb1, 0, none⟩)) (fa87_0_0 gb1) _ rfl rfl) rfl ?_)
        | ((with_reducible refine gate_d (N := 17) rfl ?_); refine ag_fix (.int .i64 a1_0) (ex_get sT3 gb1 (0) (.int .i64 a1_0) (#[.int .i64 a1_0, .int .i64 a1_1]) BKb1.out rfl _ rfl rfl) rfl ?_)
        | ((with_reducible refine gate_d (N := 18) rfl ?_); refine ag_fix (.pointer (some ⟨gb1, 1, none⟩)) (ex_field 87 1 (.pointer (some ⟨gb1, 0, none⟩)) (.pointer (some ⟨gb1, 1, none⟩)) (fa87_1_0 gb1) _ rfl rfl) rfl ?_)
        | ((with_reducible refine gate_d (N := 19) rfl ?_); refine ag_fix (.int .i64 a1_1) (ex_get sT3 gb1 (1) (.int .i64 a1_1) (#[.int .i64 a1_0, .int .i64 a1_1]) BKb1.out rfl _ rfl rfl) rfl ?_)
        | (go_at_call 93; clear k25; refine (i_square_Step.calls x0_0 a1_0 a1_1 t6 true _ A14.out).mono ?_; rintro e_ w' ⟨rfl, rfl⟩)
        | ((with_reducible refine gate_d (N := 26) rfl ?_); refine ag_fix (.agg #[.int .i64 a1_0, .int .i64 a1_1]) (ex_load aT87 gb1 0 #[.int .i64 a1_0, .int .i64 a1_1] #[.int .i64 a1_0, .int .i64 a1_1] BKb1.out (by simp) rfl _ rfl rfl) rfl ?_)
        | ((with_reducible refine gate_d (N := 27) rfl ?_); refine ag_build (.agg #[.int .i64 0, .int .i64 0]) _ rfl rfl ?_ ?_; (intro ww_; simp only [List.map_toArray, List.map_cons, List.map_nil]; kernel_rfl))
        | ((with_reducible refine gate_d (N := 28) rfl ?_); refine ag_fix (.bool false) (ex_eq .eql 87 (.agg #[.int .i64 a1_0, .int .i64 a1_1]) (.agg #[.int .i64 0, .int .i64 0]) (.bool false) (fun x_ y_ w_ => guard_any (by kernel_rfl) _ x_ y_ w_) (fun w_ => (eq_bin (fun d_ w2_ => eqS87 d_ w2_ a1_0 0 a1_1 0 ) (by decide) w_).trans (by rw [show ((a1_0 == 0) && ((a1_1 == 0))) = false from Bool.eq_false_iff.mpr hc16.out])) _ _ _ rfl rfl rfl) rfl ?_)
        | ((with_reducible refine gate_d (N := 32) rfl ?_); obtain ⟨gb8, hgb8⟩ : ∃ g_, wr.heap.size = g_ := ⟨_, rfl⟩; refine ag_lit sT3 (.int .i64 t6) gb8 hgb8 rfl _ rfl rfl (fun w_ => by kernel_rfl) ?_; intro w26 hb_ hB_ hs_; have GEb8 : Hid (w.heap.size ≤ gb8) := hid (by have := HL.out.size; omega); have NBb1_b8 : Hid (gb1 ≠ gb8) := hid (by have := BKb1.out.lt; omega); have NBb8_b1 : Hid (gb8 ≠ gb1) := hid (by have := NBb1_b8.out; omega); replace BKb1 := hid (BKb1.out.below hb_ (by rw [← hgb8]; exact BKb1.out.lt)); replace SWx7_0 := hid (SWx7_0.out.below (by rw [hgb8]; exact hb_)); replace HL := hid (HL.out.trans (hb_.mono GEb8.out)); have BKb8 := hid hB_; clear hb_ hB_ hs_ hgb8)
        | (at_builtin; clear k28; refine app_one eT27 w.heap.size (ux7_0) (x7_0.map (Value.int .i64)) (.int .i64 t6) gb8 1 SWx7_0.out BKb8.out rfl (by have h_ := hc21.out; rw [List.length_map]; omega) (by have h_ := hc21.out; rw [List.length_map]; unfold maxLen; omega) HL.out.size rfl _ _ rfl rfl rfl ?_; intro uo9 w27 ho_ hb_ hk_ hi_; clear SWx7_0; have SWo9 : Hid (Own w27 w.heap.size 3 (uo9) ((x7_0 ++ [t6]).map (Value.int .i64))) := hid (by rw [List.map_append]; exact ho_); replace BKb1 := hid (hk_ _ _ _ (by decide) BKb1.out); replace HL := hid (HL.out.trans hb_); clear ho_ hb_ hk_ hi_ BKb8))
       (try simp only [Act.put, sI, sZ, sS])
       go_roundg k12
       case measure => have := HK11.out; omega
       case rel => exact ⟨t6, x7_0 ++ [t6], (uo9), (by first | rfl | (simp; done) | (simp [*]; done)), (by first | rfl | (simp; done) | (simp [*]; done)), H', (hid (by first | omega | (have := HK11.out; omega))), (hid (by exact BKb1.out)), SWo9, HL⟩
      ·
       rw [if_neg c21] at H
       exact absurd H (by simp)
    | false =>
     rw [if_neg (show ¬ (false = true) by decide)] at H
     obtain rfl := Option.some.inj H
     clear H
     have k32 := True.intro
     go_wp2_with (first
      | ((with_reducible refine gate_d (N := 11) rfl ?_); obtain ⟨A29, c30, hv31⟩ := SWx7_0.out.sl.shape; rw [List.length_map] at hv31; refine ag_fix (.int .i64 (x7_0.length : Int)) (ex_len us27 _ _ _ _ hv31 _ rfl rfl) rfl ?_; clear hv31)
      | ((with_reducible refine gate_d (N := 16) rfl ?_); refine ag_fix (.pointer (some ⟨gb1, 0, none⟩)) (ex_field 87 0 (.pointer (some ⟨gb1, 0, none⟩)) (.pointer (some ⟨gb1, 0, none⟩)) (fa87_0_0 gb1) _ rfl rfl) rfl ?_)
      | ((with_reducible refine gate_d (N := 17) rfl ?_); refine ag_fix (.int .i64 a1_0) (ex_get sT3 gb1 (0) (.int .i64 a1_0) (#[.int .i64 a1_0, .int .i64 a1_1]) BKb1.out rfl _ rfl rfl) rfl ?_)
      | ((with_reducible refine gate_d (N := 18) rfl ?_); refine ag_fix (.pointer (some ⟨gb1, 1, none⟩)) (ex_field 87 1 (.pointer (some ⟨gb1, 0, none⟩)) (.pointer (some ⟨gb1, 1, none⟩)) (fa87_1_0 gb1) _ rfl rfl) rfl ?_)
      | ((with_reducible refine gate_d (N := 19) rfl ?_); refine ag_fix (.int .i64 a1_1) (ex_get sT3 gb1 (1) (.int .i64 a1_1) (#[.int .i64 a1_0, .int .i64 a1_1]) BKb1.out rfl _ rfl rfl) rfl ?_)
      | (go_at_call 93; clear k32; refine (i_square_Step.calls x0_0 a1_0 a1_1 t6 false _ A14.out).mono ?_; rintro e_ w' ⟨rfl, rfl⟩))
     (try simp only [Act.put, sI, sZ, sS])
     go_ret
     exact ⟨_, rfl, (by exact SWx7_0.out), HL.out⟩
   ·
    rw [if_neg c13] at H
    have c13b0 : decide ((x7_0.length : Int) < a2) = false := decide_eq_false c13
    have hc13 := hid c13
    clear c13
    obtain rfl := Option.some.inj H
    clear H
    go_wp2_with (first
     | ((with_reducible refine gate_d (N := 11) rfl ?_); obtain ⟨A33, c34, hv35⟩ := SWx7_0.out.sl.shape; rw [List.length_map] at hv35; refine ag_fix (.int .i64 (x7_0.length : Int)) (ex_len us27 _ _ _ _ hv35 _ rfl rfl) rfl ?_; clear hv35))
    (try simp only [Act.put, sI, sZ, sS])
    go_ret
    exact ⟨_, rfl, (by exact SWx7_0.out), HL.out⟩
/-! i_rays_Ray: function 19 -/
def i_rays_Ray.f (k : Nat) (a0 : Int) (a1 : Int) (a2 : Int) : Option ((List Int)) := (i_rays_walk.f k a0 a1 a2 64).bind fun t1 => (some t1)
def i_rays_Ray.post (r1 : List Int) (w : World) (e : Ending) (w' : World) : Prop := ∃ (u_r1 : Value), e = .returned (u_r1) ∧ Own w' w.heap.size 3 (u_r1) (r1.map (Value.int .i64)) ∧ Below w.heap.size w w'
set_option maxHeartbeats 40000000 in
set_option maxRecDepth 100000 in
theorem i_rays_Ray.calls (k : Nat) (a0 : Int) (a1 : Int) (a2 : Int) (r1 : List Int) (w : World) (h : i_rays_Ray.f k a0 a1 a2 = some r1) :
    Calls Try.prog 19 #[.int .i64 a0, .int .i64 a1, .int .i64 a2] w (i_rays_Ray.post r1 w) := by
 have HL := hid (Below.refl w.heap.size w)
 have H : ((i_rays_walk.f k a0 a1 a2 64).bind fun t1 => (some t1)) = some r1 := h
 clear h
 replace H := Option.bind_eq_some_iff.mp H
 obtain ⟨t1, A2_, H⟩ := H
 have A2 := hid A2_
 clear A2_
 obtain rfl := Option.some.inj H
 clear H
 go_enter Try.func19, Try.ntmps19
 have k3 := True.intro
 go_wp2_with (first
  | ((with_reducible refine gate_d (N := 10) rfl ?_); refine ag_build (.agg #[.int .i64 a1, .int .i64 a2]) _ rfl rfl ?_ ?_; (intro ww_; simp only [List.map_toArray, List.map_cons, List.map_nil]; kernel_rfl))
  | (go_at_call 50; clear k3; refine (i_rays_walk.calls k a0 a1 a2 64 t1 _ A2.out).mono ?_; rintro e_ w4 ⟨ut1, rfl, so_t1, hb_⟩; replace so_t1 := so_t1.mono HL.out.size; have SWn_t1 := hid so_t1; clear so_t1; replace HL := hid (HL.out.trans (hb_.mono HL.out.size)); clear hb_; have SWt1 := SWn_t1; clear SWn_t1))
 (try simp only [Act.put, sI, sZ, sS])
 go_ret
 exact ⟨_, rfl, (by exact SWt1.out), HL.out⟩
end Go.Proofs.Ytpjocgebnodnoaa
