/- Rows of acts among the arguments, opened, with what they may be. -/
import Derived.Test.YtpjocgebnodnoaaOa
namespace Go.Proofs.Ytpjocgebnodnoaa
open Go.ChangeShapes Go.WideShapes Go.ChangeAt Go.RowKit
set_option linter.unusedVariables false
set_option linter.unusedSimpArgs false
set_option maxRecDepth 100000
def wfA (x : ActT) : Prop := (Lit.int .i64 x.2.2.1).wf = true ∧ (Lit.int .i64 x.2.2.2).wf = true
section
variable {H : Type} {enc : TypeId × Value → H} {W : World} {b base : Nat} {sp : Nat → Bool} {hd : Bool} {v : Value} {d : DataW H} {ps : List MemPlace}
theorem open_acts2 (hv : Value.okWide Try.prog W .any base 36 v) (h : DataW.Trod enc Try.prog W b sp hd 36 v d ps) : ∃ l : List ActT, SlN W 4 v l.length (l.flatMap en40) ∧ ∀ x ∈ l, wfA x := by
  obtain ⟨a0, len, cap, rfl⟩ := okWide_slice t_us36 hv
  obtain ⟨fuel, hf⟩ := h
  rcases Go.Deep.open_slice t_us36 hf with ⟨hcs, _⟩ | ⟨a, len', cap', m, n, D, Pl, hcs, _, hl, hm, hmm, _, hx⟩
  · simp only [Value.cells, List.cons.injEq, Value.slice.injEq, and_true] at hcs
    obtain ⟨rfl, rfl, rfl⟩ := hcs
    exact ⟨[], .inl ⟨rfl, rfl⟩, fun x hx => by simp at hx⟩
  · simp only [Value.cells, List.cons.injEq, Value.slice.injEq, and_true] at hcs
    obtain ⟨rfl, rfl, rfl⟩ := hcs
    have hle : len ≤ m := by rw [hmm]; split <;> omega
    obtain ⟨f0, f1, f2, f3, hu, ⟨t0, o0⟩, ⟨t1, o1⟩, ⟨t2, o2⟩, t3, o3⟩ := u40
    have each : ∀ i, i < len → ∀ j, j < 4 → ∃ k, W.cell? (a.add (i * 4 + j)) = some (.int .i64 k) ∧ (Lit.int .i64 k).wf = true := by
      intro i hi j hj
      obtain ⟨cs', h1, h2⟩ := hx i (by omega)
      rw [c40] at h1
      obtain ⟨_, hlen, hcell⟩ := World.cells?_some h1
      obtain ⟨xs, k, _, _, _, hxl, hff⟩ := DataW.trod_struct hu h2
      have key : ∀ (f : Field) (r : Nat), (#[f0, f1, f2, f3] : Array Field)[r]? = some f → f.type = 3 → f.offset = r → r < 4 → ∃ k, W.cell? (a.add (i * 4 + r)) = some (.int .i64 k) ∧ (Lit.int .i64 k).wf = true := fun f r hr ht ho hr4 => by
        have hg := hff r f (by first | exact hr | simpa using hr)
        rw [ht, ho, c3, List.getElem?_eq_getElem (by rw [hxl]; simpa using hr4)] at hg
        obtain ⟨q, hq, _, hw⟩ := DataW.trod_int u3 hg
        rw [List.drop_eq_getElem_cons (by omega)] at hq
        simp only [List.take_succ_cons, List.take_zero, List.cons.injEq, and_true] at hq
        have hc := hcell r (by omega)
        rw [add_add, List.getElem?_eq_getElem (by omega), hq] at hc
        exact ⟨q, hc, hw⟩
      match j, hj with
      | 0, _ => exact key f0 0 rfl t0 o0 (by omega)
      | 1, _ => exact key f1 1 rfl t1 o1 (by omega)
      | 2, _ => exact key f2 2 rfl t2 o2 (by omega)
      | 3, _ => exact key f3 3 rfl t3 o3 (by omega)
    refine ⟨(List.range len).map fun i => (cellI W (a.add (i * 4 + 0)), cellI W (a.add (i * 4 + 1)), cellI W (a.add (i * 4 + 2)), cellI W (a.add (i * 4 + 3))), ?_, fun x hx => ?_⟩
    · have ll : ((List.range len).map fun i => ((cellI W (a.add (i * 4 + 0)), cellI W (a.add (i * 4 + 1)), cellI W (a.add (i * 4 + 2)), cellI W (a.add (i * 4 + 3))) : ActT)).length = len := by simp
      rw [ll]
      refine .inr ⟨a, cap, rfl, hl, hm, fun i hi => ?_⟩
      rw [flat_len en40_len, ll] at hi
      have hq : i / 4 < len := by omega
      have F := flat_at en40_len z40 ((List.range len).map fun i => ((cellI W (a.add (i * 4 + 0)), cellI W (a.add (i * 4 + 1)), cellI W (a.add (i * 4 + 2)), cellI W (a.add (i * 4 + 3))) : ActT)) (i / 4) (by rw [ll]; exact hq)
      have e1 : (((List.range len).map fun i => ((cellI W (a.add (i * 4 + 0)), cellI W (a.add (i * 4 + 1)), cellI W (a.add (i * 4 + 2)), cellI W (a.add (i * 4 + 3))) : ActT)).flatMap en40)[i]? = (en40 (cellI W (a.add (i / 4 * 4 + 0)), cellI W (a.add (i / 4 * 4 + 1)), cellI W (a.add (i / 4 * 4 + 2)), cellI W (a.add (i / 4 * 4 + 3))))[i % 4]? := by
        have e2 : nt ((List.range len).map fun i => ((cellI W (a.add (i * 4 + 0)), cellI W (a.add (i * 4 + 1)), cellI W (a.add (i * 4 + 2)), cellI W (a.add (i * 4 + 3))) : ActT)) (i / 4) z40 = (cellI W (a.add (i / 4 * 4 + 0)), cellI W (a.add (i / 4 * 4 + 1)), cellI W (a.add (i / 4 * 4 + 2)), cellI W (a.add (i / 4 * 4 + 3))) := by
          unfold nt; simp [List.getD, hq]
        rw [e2] at F
        rw [← F, List.getElem?_take, if_pos (by omega), List.getElem?_drop, show i / 4 * 4 + i % 4 = i by omega]
      rw [e1]
      have hcases : i % 4 = 0 ∨ i % 4 = 1 ∨ i % 4 = 2 ∨ i % 4 = 3 := by omega
      have him : i = i / 4 * 4 + i % 4 := by omega
      rcases hcases with h4 | h4 | h4 | h4
      · rw [h4] at him ⊢; conv => lhs; rw [him]
        obtain ⟨k, hk, _⟩ := each (i / 4) hq 0 (by omega); exact cellI_is hk
      · rw [h4] at him ⊢; conv => lhs; rw [him]
        obtain ⟨k, hk, _⟩ := each (i / 4) hq 1 (by omega); exact cellI_is hk
      · rw [h4] at him ⊢; conv => lhs; rw [him]
        obtain ⟨k, hk, _⟩ := each (i / 4) hq 2 (by omega); exact cellI_is hk
      · rw [h4] at him ⊢; conv => lhs; rw [him]
        obtain ⟨k, hk, _⟩ := each (i / 4) hq 3 (by omega); exact cellI_is hk
    · obtain ⟨i, hi, rfl⟩ := List.mem_map.1 hx
      have hi' := List.mem_range.1 hi
      have w1 : ∀ j, j < 4 → (Lit.int .i64 (cellI W (a.add (i * 4 + j)))).wf = true := fun j hj => by
        obtain ⟨k, hk, hw⟩ := each i hi' j hj
        unfold cellI; rw [hk]; exact hw
      exact ⟨w1 2 (by omega), w1 3 (by omega)⟩
end
end Go.Proofs.Ytpjocgebnodnoaa
