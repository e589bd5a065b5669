import Derived.Test.YtpjocgebnodnoaaProg
import Derived.Test.YtpjocgebnodnoaaAgz
namespace Go.Proofs.Ytpjocgebnodnoaa
open Go.RowKit
def bv (l : List Int) : Array Value := (l.map (Value.int .i8)).toArray
def pv (l : List Int) (t c e : Int) : Array Value := (l.map (Value.int .i8) ++ [Value.int .i64 t, Value.int .i64 c, Value.int .i64 e]).toArray
theorem bv_get (l : List Int) (i : Nat) (h : i < l.length) : (bv l)[i]? = some (.int .i8 (l.getD i 0)) := by
  unfold bv; simp [List.getElem?_eq_getElem h]
def zL : List Int := List.replicate 64 0
theorem zL_len : zL.length = 64 := rfl
theorem boardT_agg (w : World) : (isAgg 44).run Try.prog w = .ok true w := by kernel_rfl
theorem boardT_size (w : World) : (sizeOf 44).run Try.prog w = .ok 64 w := by kernel_rfl
theorem boardT_zero (w : World) : (zeroValue 44).run Try.prog w = .ok (.agg (bv zL)) w := by kernel_rfl
theorem boardT : AggT Try.prog 44 64 (bv zL) := ⟨boardT_agg, boardT_size, boardT_zero, rfl⟩
theorem posT_agg (w : World) : (isAgg 46).run Try.prog w = .ok true w := by kernel_rfl
theorem posT_size (w : World) : (sizeOf 46).run Try.prog w = .ok 67 w := by kernel_rfl
theorem posT_zero (w : World) : (zeroValue 46).run Try.prog w = .ok (.agg (pv zL 0 0 0)) w := by kernel_rfl
theorem posT : AggT Try.prog 46 67 (pv zL 0 0 0) := ⟨posT_agg, posT_size, posT_zero, rfl⟩
theorem i8_agg (w : World) : (isAgg 42).run Try.prog w = .ok false w := by kernel_rfl
theorem i8_size (w : World) : (sizeOf 42).run Try.prog w = .ok 1 w := by kernel_rfl
theorem und_board : Try.prog.underlying 44 = some (.array 64 42) := by kernel_rfl
def B8 (l : List Int) : Prop := l.length = 64 ∧ ∀ i, -128 ≤ l.getD i 0 ∧ l.getD i 0 ≤ 127
end Go.Proofs.Ytpjocgebnodnoaa
