/- A text from a row of bytes of one's own. -/
import Derived.Test.YtpgdcpkggmkooaaGw
import Derived.Laws.BytesArg
namespace Go.Proofs.Ytpgdcpkggmkooaa
open Go.RowKit
set_option linter.unusedVariables false
section
variable {P : Program} {w : World} {o : Oper} {ev : Operand → Value}
theorem ex_bstr {B e' : Nat} {v : Value} {l : List Int} (h : Own w B e' v (l.map (Value.int .u8))) (hne : l ≠ []) (src dst e : TypeId) (hs : P.underlying src = some (.slice e)) (he : P.underlying e = some (.int .u8)) (hd : P.underlying dst = some .string)
    (x : Operand) (ho : o.op = .convert src dst x) (hx : ev x = v) : (execOp ev o).run P w = .ok (.value (.string (strOfNums l))) w := by
  rcases h.form with ⟨rfl, h0⟩ | ⟨g, cap, cur, rfl, hb, hh, hn, hm, hz, ht⟩
  · exact absurd (by simpa using h0) hne
  · have hc : ∀ i, i < l.length → w.cell? ⟨g, 0 + i, none⟩ = some (.int .u8 (l.getD i 0)) := fun i hi => by
      obtain ⟨g', cap', he', _, _, _, hc'⟩ := h.cell i (by rw [List.length_map]; exact hi)
      simp only [Value.slice.injEq, Option.some.injEq, Addr.mk.injEq] at he'
      obtain ⟨⟨rfl, _⟩, _⟩ := he'
      rw [Nat.zero_add, hc', List.getElem_map, List.getD_eq_getElem?_getD, List.getElem?_eq_getElem hi]
      rfl
    have := run_convert_bytes_arg (P := P) w src e hs he g 0 l.length cap l rfl hc dst hd
    unfold execOp
    simp only [ho, hx, Sem.run_bind, List.length_map, this, Result.andThen_ok, Sem.run_pure]
end
end Go.Proofs.Ytpgdcpkggmkooaa
