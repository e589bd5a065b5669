/- Boards and positions by value: their types' facts. -/
import Derived.Test.YtabbkeliknidgaaDoorProg
import Derived.Test.YtabbkeliknidgaaDoorAg
namespace Go.Proofs.YtabbkeliknidgaaDoor
open Go.RowKit

/-- a board's cells; a position's. -/
def bv (l : List Int) : Array Value := (l.map (Value.int .i8)).toArray
def pv (l : List Int) (t c e : Int) : Array Value := (l.map (Value.int .i8) ++ [Value.int .i64 t, Value.int .i64 c, Value.int .i64 e]).toArray
theorem bv_size (l : List Int) : (bv l).size = l.length := by unfold bv; simp
theorem pv_size (l : List Int) (t c e : Int) : (pv l t c e).size = l.length + 3 := by unfold pv; simp
theorem bv_get (l : List Int) (i : Nat) (h : i < l.length) : (bv l)[i]? = some (.int .i8 (l.getD i 0)) := by
  unfold bv; simp [List.getElem?_eq_getElem h]
theorem bv_set (l : List Int) (i : Nat) (x : Int) : (bv l).setIfInBounds i (.int .i8 x) = bv (l.set i x) := by
  unfold bv; simp [List.map_set]
theorem bv_one (l : List Int) : ∀ v ∈ (bv l).toList, v.oneCell' = true := by
  unfold bv; intro v hv; simp at hv; obtain ⟨x, _, rfl⟩ := hv; rfl
theorem pv_one (l : List Int) (t c e : Int) : ∀ v ∈ (pv l t c e).toList, v.oneCell' = true := by
  unfold pv; intro v hv; simp at hv; rcases hv with ⟨x, _, rfl⟩ | rfl | rfl | rfl <;> rfl
theorem pv_board (l : List Int) (t c e : Int) (hl : l.length = 64) : (pv l t c e).extract 0 (0 + 64) = bv l := by
  apply Array.ext'
  unfold pv bv
  simp [hl]
theorem pv_cell (l : List Int) (t c e : Int) (hl : l.length = 64) : (pv l t c e)[64]? = some (.int .i64 t) ∧ (pv l t c e)[65]? = some (.int .i64 c) ∧ (pv l t c e)[66]? = some (.int .i64 e) := by
  unfold pv; simp [hl]
theorem pv_put (l l' : List Int) (t c e : Int) (hl : l.length = 64) (hl' : l'.length = 64) : putAt (bv l').toList 0 (pv l t c e) = pv l' t c e := by
  apply Array.ext'
  rw [putAt_list _ _ _ (by unfold bv pv; simp; omega)]
  unfold bv pv
  simp [hl, hl']
theorem bv_put (l l' : List Int) (hl : l.length = 64) (hl' : l'.length = 64) : putAt (bv l').toList 0 (bv l) = bv l' := by
  apply Array.ext'
  rw [putAt_list _ _ _ (by unfold bv; simp; omega)]
  unfold bv
  simp [hl, hl']
theorem ppv_put (l l' : List Int) (t c e t' c' e' : Int) (hl : l.length = 64) (hl' : l'.length = 64) : putAt (pv l' t' c' e').toList 0 (pv l t c e) = pv l' t' c' e' := by
  apply Array.ext'
  rw [putAt_list _ _ _ (by unfold pv; simp; omega)]
  unfold pv
  simp [hl, hl']
def zL : List Int := List.replicate 64 0
theorem zL_len : zL.length = 64 := rfl
theorem bw_le {l : List Int} (hl : l.length = 64) : 0 + 64 ≤ (bv l).size := by rw [bv_size, hl]; omega
theorem bw_ex {l : List Int} (hl : l.length = 64) : (bv l).extract 0 (0 + 64) = bv l := by rw [show 0 + 64 = (bv l).size by rw [bv_size, hl], Array.extract_size]
theorem pw_le {l : List Int} (hl : l.length = 64) (t c e : Int) : 0 + 67 ≤ (pv l t c e).size := by rw [pv_size, hl]; omega
theorem pw_ex {l : List Int} (hl : l.length = 64) (t c e : Int) : (pv l t c e).extract 0 (0 + 67) = pv l t c e := by rw [show 0 + 67 = (pv l t c e).size by rw [pv_size, hl], Array.extract_size]
theorem pv_get (l : List Int) (t c e : Int) (i : Nat) (h : i < l.length) : (pv l t c e)[i]? = some (.int .i8 (l.getD i 0)) := by
  unfold pv; simp [List.getElem?_append, h]
/-- a board's numbers: sixty-four, each of eight bits. -/
def B8 (l : List Int) : Prop := l.length = 64 ∧ ∀ i, -128 ≤ l.getD i 0 ∧ l.getD i 0 ≤ 127
end Go.Proofs.YtabbkeliknidgaaDoor
