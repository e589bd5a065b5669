/- strings.Join on a row of one's own, in the manner of the printed walks. -/
import Derived.Test.YtpgdcpkggmkooaaGw
import Derived.Test.YtpgdcpkggmkooaaShelf
namespace Go.Proofs.Ytpgdcpkggmkooaa
open Go.RowKit
set_option linter.unusedVariables false
def i_strings_Join.f (xs : List ByteArray) (sep : ByteArray) : Option ByteArray :=
  if xs.length ≤ 140737488355328 ∧ (Lib.join (xs.map (·.data.toList)) sep.data.toList).length ≤ 140737488355328 then some ⟨(Lib.join (xs.map (·.data.toList)) sep.data.toList).toArray⟩ else none
theorem i_strings_Join.calls (v : Value) (xs : List ByteArray) (sep : ByteArray) (r1 : ByteArray) (w : World) {B e : Nat} (hs : Own w B e v (xs.map Value.string)) (h : i_strings_Join.f xs sep = some r1) :
    Calls Try.prog 64 #[v, .string sep] w fun e w' => e = .returned (.string r1) ∧ Below w.heap.size w w' := by
  unfold i_strings_Join.f at h
  split at h
  · rename_i hc
    obtain rfl := Option.some.inj h
    rcases hs.form with ⟨rfl, he⟩ | ⟨g, cap, cur, rfl, hb, hh, hn, hm, hz, ht⟩
    · have e0 : xs = [] := by simpa using he
      subst e0
      refine (Try.strings_Join_none none 0 sep w).mono ?_
      rintro e_ w_ ⟨rfl, rfl⟩
      exact ⟨rfl, Below.refl _ _⟩
    · have hcell := hs.sl
      rw [List.length_map] at hn
      have := Try.strings_Join g 0 cap xs sep w (fun j x hx => by
        have hj : j < xs.length := by rcases Nat.lt_or_ge j xs.length with h | h; exact h; rw [List.getElem?_eq_none h] at hx; cases hx
        obtain ⟨g', cap', he, _, _, _, hc'⟩ := hs.cell j (by rw [List.length_map]; exact hj)
        simp only [Value.slice.injEq, Option.some.injEq, Addr.mk.injEq] at he
        obtain ⟨⟨rfl, _⟩, _⟩ := he
        rw [Nat.zero_add, hc', List.getElem_map]
        rw [List.getElem?_eq_getElem hj] at hx
        rw [Option.some.inj hx]) hh.lt hc.1 hn hc.2
      rw [List.length_map]
      exact this
  · cases h
end Go.Proofs.Ytpgdcpkggmkooaa
