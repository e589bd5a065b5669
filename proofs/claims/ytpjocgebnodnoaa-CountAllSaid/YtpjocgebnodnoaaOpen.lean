/- Arguments that are boards and positions, opened. -/
import Derived.Test.YtpjocgebnodnoaaArr
import Derived.ProofKit
import Derived.OpenShut
namespace Go.Proofs.Ytpjocgebnodnoaa
open Go.ChangeShapes Go.WideShapes Go.ChangeAt Go.RowKit
set_option maxRecDepth 100000
def unI8 : Value → Int | .int .i8 n => n | _ => 0
theorem wf_i8 {n : Int} (h : (Lit.int .i8 n).wf = true) : -128 ≤ n ∧ n ≤ 127 := by simpa [Lit.wf, IntKind.min, IntKind.max, IntKind.signed, IntKind.bits] using h
theorem wf_i64 {n : Int} (h : (Lit.int .i64 n).wf = true) : -9223372036854775808 ≤ n ∧ n ≤ 9223372036854775807 := by simpa [Lit.wf, IntKind.min, IntKind.max, IntKind.signed, IntKind.bits] using h
theorem und_i8 : Try.prog.underlying 42 = some (.int .i8) := by kernel_rfl
theorem und_int : Try.prog.underlying 3 = some (.int .i64) := by kernel_rfl
theorem cells_i8 : Try.prog.cellsOf 42 = 1 := by kernel_rfl
theorem cells_int : Try.prog.cellsOf 3 = 1 := by kernel_rfl
theorem cells_board : Try.prog.cellsOf 44 = 64 := by kernel_rfl
theorem cells_pos : Try.prog.cellsOf 46 = 67 := by kernel_rfl
section
variable {H : Type} {enc : TypeId × Value → H} {W : World} {b : Nat} {sp : Nat → Bool} {hd : Bool}
theorem board_cells {fuel : Nat} {cs : List Value} {x : DataW H × List MemPlace} (h : DataW.trod enc Try.prog W b sp hd fuel 44 cs = some x) :
    ∃ l, cs = l.map (Value.int .i8) ∧ B8 l := by
  obtain ⟨xs, m, _, _, hlen, hxl, hi⟩ := DataW.trod_array und_board h
  rw [cells_board] at hlen
  have cell : ∀ i, i < 64 → ∃ n, cs[i]? = some (.int .i8 n) ∧ -128 ≤ n ∧ n ≤ 127 := fun i hlt => by
    have h1 := hi i hlt
    rw [cells_i8, Nat.mul_one, List.getElem?_eq_getElem (by omega)] at h1
    obtain ⟨n, hn, _, hw⟩ := DataW.trod_int und_i8 h1
    rw [List.drop_eq_getElem_cons (by omega)] at hn
    simp only [List.take_succ_cons, List.take_zero, List.cons.injEq, and_true] at hn
    exact ⟨n, by rw [List.getElem?_eq_getElem (by omega), hn], wf_i8 hw⟩
  refine ⟨cs.map unI8, ?_, by rw [List.length_map, hlen], fun i => ?_⟩
  · apply List.ext_getElem?
    intro i
    rcases Nat.lt_or_ge i 64 with hlt | hge
    · obtain ⟨n, hn, _⟩ := cell i hlt
      simp [hn, unI8]
    · simp [List.getElem?_eq_none (show cs.length ≤ i by omega)]
  · rcases Nat.lt_or_ge i 64 with hlt | hge
    · obtain ⟨n, hn, h2⟩ := cell i hlt
      rw [List.getD_eq_getElem?_getD, List.getElem?_map, hn]
      exact h2
    · rw [List.getD_eq_getElem?_getD, List.getElem?_eq_none (by rw [List.length_map]; omega)]
      decide
theorem open_board {base : Nat} {v : Value} {d : DataW H} {ps : List MemPlace} (hv : Value.okWide Try.prog W .any base 44 v) (h : DataW.Trod enc Try.prog W b sp hd 44 v d ps) :
    ∃ l, v = .agg (bv l) ∧ B8 l := by
  unfold Value.okWide at hv
  rw [und_board] at hv
  obtain ⟨cs, rfl, _, _⟩ := hv
  obtain ⟨fuel, hf⟩ := h
  obtain ⟨l, hl, h8⟩ := board_cells hf
  refine ⟨l, ?_, h8⟩
  unfold bv
  rw [← hl]
  simp [Value.cells]
theorem und_pos : ∃ f0 f1 f2 f3 : Field, Try.prog.underlying 46 = some (.struct #[f0, f1, f2, f3]) ∧ f0.type = 44 ∧ f0.offset = 0 ∧ f1.type = 3 ∧ f1.offset = 64 ∧ f2.type = 3 ∧ f2.offset = 65 ∧ f3.type = 3 ∧ f3.offset = 66 := by
  refine ⟨_, _, _, _, Try.underlying46, rfl, rfl, rfl, rfl, rfl, rfl, rfl, rfl⟩
theorem open_pos {base : Nat} {v : Value} {d : DataW H} {ps : List MemPlace} (hv : Value.okWide Try.prog W .any base 46 v) (h : DataW.Trod enc Try.prog W b sp hd 46 v d ps) :
    ∃ l t c e, v = .agg (pv l t c e) ∧ B8 l ∧ (-9223372036854775808 ≤ t ∧ t ≤ 9223372036854775807) ∧ (-9223372036854775808 ≤ c ∧ c ≤ 9223372036854775807) ∧ -9223372036854775808 ≤ e ∧ e ≤ 9223372036854775807 := by
  obtain ⟨f0, f1, f2, f3, hu, t0, o0, t1, o1, t2, o2, t3, o3⟩ := und_pos
  unfold Value.okWide at hv
  rw [hu] at hv
  obtain ⟨cs, rfl, _, _⟩ := hv
  obtain ⟨fuel, hf⟩ := h
  obtain ⟨xs, m, _, _, hlen, hxl, hi⟩ := DataW.trod_struct hu hf
  rw [cells_pos] at hlen
  simp only [Value.cells] at hlen hi
  have h0 := hi 0 f0 rfl
  have h1 := hi 1 f1 rfl
  have h2 := hi 2 f2 rfl
  have h3 := hi 3 f3 rfl
  rw [t0, o0, cells_board, List.drop_zero, List.getElem?_eq_getElem (by rw [hxl]; simp)] at h0
  rw [t1, o1, cells_int, List.getElem?_eq_getElem (by rw [hxl]; simp)] at h1
  rw [t2, o2, cells_int, List.getElem?_eq_getElem (by rw [hxl]; simp)] at h2
  rw [t3, o3, cells_int, List.getElem?_eq_getElem (by rw [hxl]; simp)] at h3
  obtain ⟨l, hl, h8⟩ := board_cells h0
  obtain ⟨t, ht, _, wt⟩ := DataW.trod_int und_int h1
  obtain ⟨c, hc, _, wc⟩ := DataW.trod_int und_int h2
  obtain ⟨e, he, _, we⟩ := DataW.trod_int und_int h3
  refine ⟨l, t, c, e, ?_, h8, wf_i64 wt, wf_i64 wc, wf_i64 we⟩
  have hx : cs.toList = l.map (Value.int .i8) ++ [Value.int .i64 t, Value.int .i64 c, Value.int .i64 e] := by
    rw [← List.take_append_drop 64 cs.toList, hl]
    congr 1
    rw [← List.take_append_drop 1 (cs.toList.drop 64), ht, List.drop_drop, ← List.take_append_drop 1 (cs.toList.drop (64 + 1)), hc, List.drop_drop, ← List.take_append_drop 1 (cs.toList.drop (64 + 1 + 1)), he, List.drop_drop, List.drop_eq_nil_of_le (by omega)]
    rfl
  unfold pv
  rw [← hx, Array.toArray_toList]
end
end Go.Proofs.Ytpjocgebnodnoaa
