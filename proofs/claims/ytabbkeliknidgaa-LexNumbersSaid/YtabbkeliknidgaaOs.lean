/- Arguments that are slices of texts, arrays of two numbers, opened. -/
import Derived.Test.YtabbkeliknidgaaGw
import Derived.ProofKit
import Derived.OpenShut
import Derived.SliceStrings
namespace Go.Proofs.Ytabbkeliknidgaa
open Go.ChangeShapes Go.WideShapes Go.ChangeAt Go.RowKit
section
variable {H : Type} {P : Program} {enc : TypeId × Value → H} {W : World} {b base : Nat} {sp : Nat → Bool} {hd : Bool} {t e : TypeId} {v : Value} {d : DataW H} {ps : List MemPlace}
theorem open_strs (ht : P.underlying t = some (.slice e)) (he : P.underlying e = some .string) (hc : P.cellsOf e = 1) (hv : Value.okWide P W .any base t v) (h : DataW.Trod enc P W b sp hd t v d ps) :
    ∃ ss : List ByteArray, Sl W v (ss.map Value.string) := by
  obtain ⟨a0, len, cap, rfl⟩ := okWide_slice ht hv
  obtain ⟨fuel, hf⟩ := h
  rcases open_strings ht he hc hf with ⟨hcs, _⟩ | ⟨a, len', cap', ss, hcs, _, hl, hm, hz, _, hcell, _⟩
  · simp only [Value.cells, List.cons.injEq, Value.slice.injEq, and_true] at hcs
    obtain ⟨rfl, rfl, rfl⟩ := hcs
    exact ⟨[], Sl.nil W⟩
  · simp only [Value.cells, List.cons.injEq, Value.slice.injEq, and_true] at hcs
    obtain ⟨rfl, rfl, rfl⟩ := hcs
    have hle : len ≤ ss.length := by rw [hz]; split <;> omega
    refine ⟨ss.take len, .inr ⟨a, cap, ?_, ?_, hm, fun i hi => ?_⟩⟩
    · simp [Nat.min_eq_left hle]
    · simp [Nat.min_eq_left hle]; exact hl
    · simp [Nat.min_eq_left hle] at hi
      rw [hcell i (by omega)]
      simp [List.getElem?_take, hi, List.getElem?_eq_getElem (show i < ss.length by omega)]
theorem wf_i64' {n : Int} (h : (Lit.int .i64 n).wf = true) : -9223372036854775808 ≤ n ∧ n ≤ 9223372036854775807 := by simpa [Lit.wf, IntKind.min, IntKind.max, IntKind.signed, IntKind.bits] using h
def unI64 : Value → Int | .int .i64 n => n | _ => 0
theorem open_ints {n : Nat} (ht : P.underlying t = some (.array n e)) (he : P.underlying e = some (.int .i64)) (hc : P.cellsOf e = 1) (hct : P.cellsOf t = n) (hv : Value.okWide P W .any base t v) (h : DataW.Trod enc P W b sp hd t v d ps) :
    ∃ l : List Int, v = .agg (av (Value.int .i64) l) ∧ l.length = n := by
  unfold Value.okWide at hv
  rw [ht] at hv
  obtain ⟨cs, rfl, _, _⟩ := hv
  obtain ⟨fuel, hf⟩ := h
  obtain ⟨xs, m, _, _, hlen, hxl, hi⟩ := DataW.trod_array ht hf
  rw [hct] at hlen
  simp only [Value.cells] at hlen hi
  have cell : ∀ i, i < n → ∃ k, cs.toList[i]? = some (.int .i64 k) := fun i hlt => by
    have h1 := hi i hlt
    rw [hc, Nat.mul_one, List.getElem?_eq_getElem (by omega)] at h1
    obtain ⟨k, hn, _, hw⟩ := DataW.trod_int he h1
    rw [List.drop_eq_getElem_cons (by omega)] at hn
    simp only [List.take_succ_cons, List.take_zero, List.cons.injEq, and_true] at hn
    exact ⟨k, by rw [List.getElem?_eq_getElem (by omega), hn]⟩
  refine ⟨cs.toList.map unI64, ?_, by rw [List.length_map, hlen]⟩
  have e2 : cs.toList = (cs.toList.map unI64).map (Value.int .i64) := by
    apply List.ext_getElem?
    intro i
    rcases Nat.lt_or_ge i n with hlt | hge
    · obtain ⟨k, hk⟩ := cell i hlt
      simp only [List.getElem?_map, hk, Option.map_some, unI64]
    · simp [List.getElem?_eq_none (show cs.toList.length ≤ i by omega)]
  unfold av
  rw [← e2, Array.toArray_toList]
end
end Go.Proofs.Ytabbkeliknidgaa
