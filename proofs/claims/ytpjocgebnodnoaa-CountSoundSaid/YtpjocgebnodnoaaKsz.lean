import Derived.Test.YtpjocgebnodnoaaKaz
import Derived.Test.YtpjocgebnodnoaaSnz
namespace Go.Proofs.Ytpjocgebnodnoaa
open Go.RowKit
set_option linter.unusedVariables false
set_option linter.unusedSimpArgs false
theorem k_part {b : List Int} {t c e : Int} (h : b.length = 64) (w : World) : (part 44 (pv b t c e) 0).run Try.prog w = .ok (.agg (bv b)) w := by
  have e : (pv b t c e).extract 0 (0 + 64) = bv b := xv_exa h
  unfold part
  simp only [Sem.run_bind, boardT.agg, boardT.size, Result.andThen_ok, Sem.run_pure, if_true]
  rw [e]
theorem k_field {b : List Int} {t c e : Int} (h : b.length = 64) (w : World) : (Instr.field 46 (.agg (pv b t c e)) 0).run Try.prog w = .ok (.agg (bv b)) w := by
  have hp := k_part (t := t) (c := c) (e := e) h w
  unfold Instr.field
  simp [Sem.run_bind, run_underlying Try.underlying46, asAgg, hp]
def RowK (w : World) (B n : Nat) (v : Value) (len : Nat) (xs : List Value) : Prop :=
  (v = .slice none 0 0 ∧ len = 0) ∨ ∃ g cap, v = .slice (some ⟨g, 0, none⟩) len cap ∧ g < B ∧ len ≤ cap ∧ cap ≤ maxLen ∧ ∀ i, i < xs.length → w.cell? ⟨g, 0 + i, none⟩ = xs[i]?
section
variable {w w' : World} {B B' n len : Nat} {e : TypeId} {v : Value} {xs : List Value}
theorem OwnN.rowK (h : OwnN w B e n v len xs) : RowK w w.heap.size n v len xs := by
  obtain ⟨h1, h2⟩ := h
  rcases h2 with ⟨rfl, h0⟩ | ⟨g, cap, cur, rfl, hb, hh, hn, hm, hs, ht⟩
  · exact .inl ⟨rfl, h0⟩
  · refine .inr ⟨g, cap, rfl, lt_of_heap hh, hn, hm, fun i hi => ?_⟩
    rw [show w.cell? ⟨g, 0 + i, none⟩ = cur[0 + i]? from Blk.cell hh _, Nat.zero_add]
    have : (cur.toList.take (len * n))[i]? = xs[i]? := by rw [ht]
    rw [List.getElem?_take, if_pos (by omega), Array.getElem?_toList] at this
    exact this
theorem RowK.below (h : RowK w B n v len xs) (hb : Below B w w') : RowK w' B n v len xs := by
  rcases h with h | ⟨g, cap, rfl, hg, h1, h2, h4⟩
  · exact .inl h
  · refine .inr ⟨g, cap, rfl, hg, h1, h2, fun i hi => ?_⟩
    have h5 := h4 i hi
    rw [← h5]
    unfold World.cell?
    rw [hb.block g hg]
theorem RowK.go (h : RowK w B n v len xs) (hb : Below w.heap.size w w') (hs : B ≤ w.heap.size) : RowK w' B n v len xs := h.below (hb.mono hs)
theorem RowK.sl (h : RowK w B n v len xs) : SlN w n v len xs := by
  rcases h with h | ⟨g, cap, rfl, hg, h1, h2, h4⟩
  · exact .inl h
  · exact .inr ⟨⟨g, 0, none⟩, cap, rfl, h1, h2, fun i hi => by rw [add_off]; exact h4 i hi⟩
end
end Go.Proofs.Ytpjocgebnodnoaa
