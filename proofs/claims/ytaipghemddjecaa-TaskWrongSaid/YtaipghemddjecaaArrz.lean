import Derived.Test.YtaipghemddjecaaProg
import Derived.Test.YtaipghemddjecaaAgz
namespace Go.Proofs.Ytaipghemddjecaa
open Go.RowKit
def bv (l : List Int) : Array Value := (l.map (Value.int .i8)).toArray
def pv (l : List Int) (t c e : Int) : Array Value := (l.map (Value.int .i8) ++ [Value.int .i64 t, Value.int .i64 c, Value.int .i64 e]).toArray
def zL : List Int := List.replicate 64 0
theorem zL_len : zL.length = 64 := rfl
theorem boardT_agg (w : World) : (isAgg 25).run Try.prog w = .ok true w := by kernel_rfl
theorem boardT_size (w : World) : (sizeOf 25).run Try.prog w = .ok 64 w := by kernel_rfl
theorem boardT_zero (w : World) : (zeroValue 25).run Try.prog w = .ok (.agg (bv zL)) w := by kernel_rfl
theorem boardT : AggT Try.prog 25 64 (bv zL) := ⟨boardT_agg, boardT_size, boardT_zero, rfl⟩
end Go.Proofs.Ytaipghemddjecaa
