/- Boards and positions by value: their types' facts. -/
import Derived.Test.YtpjocgebnodnoaaProg
import Derived.Test.YtpjocgebnodnoaaAg
namespace Go.Proofs.Ytpjocgebnodnoaa
open Go.RowKit

/-- a board's cells; a position's. -/
def bv (l : List Int) : Array Value := (l.map (Value.int .i8)).toArray
def pv (l : List Int) (t c e : Int) : Array Value := (l.map (Value.int .i8) ++ [Value.int .i64 t, Value.int .i64 c, Value.int .i64 e]).toArray
theorem bv_size (l : List Int) : (bv l).size = l.length := by unfold bv; simp
theorem pv_size (l : List Int) (t c e : Int) : (pv l t c e).size = l.length + 3 := by unfold pv; simp
theorem bv_get (l : List Int) (i : Nat) (h : i < l.length) : (bv l)[i]? = some (.int .i8 (l.getD i 0)) := by
  unfold bv; simp [List.getElem?_eq_getElem h]
theorem bv_set (l : List Int) (i : Nat) (x : Int) : (bv l).setIfInBounds i (.int .i8 x) = bv (l.set i x) := by
  unfold bv; simp [List.map_set]
theorem bv_one (l : List Int) : ∀ v ∈ (bv l).toList, v.oneCell' = true := by
  unfold bv; intro v hv; simp at hv; obtain ⟨x, _, rfl⟩ := hv; rfl
theorem pv_one (l : List Int) (t c e : Int) : ∀ v ∈ (pv l t c e).toList, v.oneCell' = true := by
  unfold pv; intro v hv; simp at hv; rcases hv with ⟨x, _, rfl⟩ | rfl | rfl | rfl <;> rfl
theorem pv_board (l : List Int) (t c e : Int) (hl : l.length = 64) : (pv l t c e).extract 0 (0 + 64) = bv l := by
  apply Array.ext'
  unfold pv bv
  simp [hl]
theorem pv_cell (l : List Int) (t c e : Int) (hl : l.length = 64) : (pv l t c e)[64]? = some (.int .i64 t) ∧ (pv l t c e)[65]? = some (.int .i64 c) ∧ (pv l t c e)[66]? = some (.int .i64 e) := by
  unfold pv; simp [hl]
theorem pv_put (l l' : List Int) (t c e : Int) (hl : l.length = 64) (hl' : l'.length = 64) : putAt (bv l').toList 0 (pv l t c e) = pv l' t c e := by
  apply Array.ext'
  rw [putAt_list _ _ _ (by unfold bv pv; simp; omega)]
  unfold bv pv
  simp [hl, hl']
theorem bv_put (l l' : List Int) (hl : l.length = 64) (hl' : l'.length = 64) : putAt (bv l').toList 0 (bv l) = bv l' := by
  apply Array.ext'
  rw [putAt_list _ _ _ (by unfold bv; simp; omega)]
  unfold bv
  simp [hl, hl']
theorem ppv_put (l l' : List Int) (t c e t' c' e' : Int) (hl : l.length = 64) (hl' : l'.length = 64) : putAt (pv l' t' c' e').toList 0 (pv l t c e) = pv l' t' c' e' := by
  apply Array.ext'
  rw [putAt_list _ _ _ (by unfold pv; simp; omega)]
  unfold pv
  simp [hl, hl']
def zL : List Int := List.replicate 64 0
theorem zL_len : zL.length = 64 := rfl
theorem boardT_agg (w : World) : (isAgg 44).run Try.prog w = .ok true w := by kernel_rfl
theorem boardT_size (w : World) : (sizeOf 44).run Try.prog w = .ok 64 w := by kernel_rfl
theorem boardT_zero (w : World) : (zeroValue 44).run Try.prog w = .ok (.agg (bv zL)) w := by kernel_rfl
theorem boardT : AggT Try.prog 44 64 (bv zL) := ⟨boardT_agg, boardT_size, boardT_zero, rfl⟩
theorem posT_agg (w : World) : (isAgg 46).run Try.prog w = .ok true w := by kernel_rfl
theorem posT_size (w : World) : (sizeOf 46).run Try.prog w = .ok 67 w := by kernel_rfl
theorem posT_zero (w : World) : (zeroValue 46).run Try.prog w = .ok (.agg (pv zL 0 0 0)) w := by kernel_rfl
theorem posT : AggT Try.prog 46 67 (pv zL 0 0 0) := ⟨posT_agg, posT_size, posT_zero, rfl⟩
theorem bd_empty (w : World) : (Instr.build 44 #[]).run Try.prog w = .ok (.agg (bv zL)) w := by kernel_rfl
theorem i8_agg (w : World) : (isAgg 42).run Try.prog w = .ok false w := by kernel_rfl
theorem i8_size (w : World) : (sizeOf 42).run Try.prog w = .ok 1 w := by kernel_rfl
theorem und_board : Try.prog.underlying 44 = some (.array 64 42) := by kernel_rfl
/-- a board's man, by value. -/
theorem ix_board (l : List Int) (hl : l.length = 64) (k : Int) (h0 : 0 ≤ k) (h1 : k < 64) (w : World) :
    (Instr.index 44 (.agg (bv l)) (.int .i64 k)).run Try.prog w = .ok (.int .i8 (l.getD k.toNat 0)) w := by
  have hb := bv_get l k.toNat (by omega)
  simp [Instr.index, asIntOf, run_underlying und_board, h0, h1, part, hb]
/-- the place of a board's man. -/
theorem at_board (g off : Nat) (k : Int) (h0 : 0 ≤ k) (h1 : k < 64) (w : World) :
    (Instr.indexAt 44 (.pointer (some ⟨g, off, none⟩)) (.int .i64 k)).run Try.prog w = .ok (.pointer (some ⟨g, off + k.toNat, none⟩)) w := by
  simp [Instr.indexAt, asIntOf, run_underlying und_board, h0, h1, Instr.sureAddr, add_off]
theorem und_eight : Try.prog.underlying 129 = some (.array 8 42) := by kernel_rfl
theorem ix_eight (l : List Int) (hl : l.length = 8) (k : Int) (h0 : 0 ≤ k) (h1 : k < 8) (w : World) :
    (Instr.index 129 (.agg (bv l)) (.int .i64 k)).run Try.prog w = .ok (.int .i8 (l.getD k.toNat 0)) w := by
  have hb := bv_get l k.toNat (by omega)
  simp [Instr.index, asIntOf, run_underlying und_eight, h0, h1, part, hb]
theorem bd_none (w : World) : (Instr.build 46 #[(3, Value.int .i64 (-1))]).run Try.prog w = .ok (.agg (pv zL 0 0 (-1))) w := by kernel_rfl
/-- a position's fields' places. -/
theorem fld_pos1 (g : Nat) (w : World) : (Instr.fieldAt 46 (.pointer (some ⟨g, 0, none⟩)) 1).run Try.prog w = .ok (.pointer (some ⟨g, 64, none⟩)) w := by kernel_rfl
theorem fld_pos2 (g : Nat) (w : World) : (Instr.fieldAt 46 (.pointer (some ⟨g, 0, none⟩)) 2).run Try.prog w = .ok (.pointer (some ⟨g, 65, none⟩)) w := by kernel_rfl
theorem fld_pos3 (g : Nat) (w : World) : (Instr.fieldAt 46 (.pointer (some ⟨g, 0, none⟩)) 3).run Try.prog w = .ok (.pointer (some ⟨g, 66, none⟩)) w := by kernel_rfl
theorem bw_le {l : List Int} (hl : l.length = 64) : 0 + 64 ≤ (bv l).size := by rw [bv_size, hl]; omega
theorem bw_ex {l : List Int} (hl : l.length = 64) : (bv l).extract 0 (0 + 64) = bv l := by rw [show 0 + 64 = (bv l).size by rw [bv_size, hl], Array.extract_size]
theorem pw_le {l : List Int} (hl : l.length = 64) (t c e : Int) : 0 + 67 ≤ (pv l t c e).size := by rw [pv_size, hl]; omega
theorem pw_ex {l : List Int} (hl : l.length = 64) (t c e : Int) : (pv l t c e).extract 0 (0 + 67) = pv l t c e := by rw [show 0 + 67 = (pv l t c e).size by rw [pv_size, hl], Array.extract_size]
theorem pv_get (l : List Int) (t c e : Int) (i : Nat) (h : i < l.length) : (pv l t c e)[i]? = some (.int .i8 (l.getD i 0)) := by
  unfold pv; simp [List.getElem?_append, h]
/-- a board's numbers: sixty-four, each of eight bits. -/
def B8 (l : List Int) : Prop := l.length = 64 ∧ ∀ i, -128 ≤ l.getD i 0 ∧ l.getD i 0 ≤ 127
end Go.Proofs.Ytpjocgebnodnoaa
