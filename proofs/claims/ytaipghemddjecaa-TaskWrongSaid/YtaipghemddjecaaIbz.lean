import Derived.Test.YtaipghemddjecaaGwz
import Derived.Lib.Bytealg
import Derived.Laws.Externs
namespace Go.Proofs.Ytaipghemddjecaa
open Go.RowKit
set_option linter.unusedVariables false
def ixB (s : ByteArray) (c : Int) : Int := Lib.indexByte s.data.toList c.toNat.toUInt8
set_option maxHeartbeats 1000000 in
set_option maxRecDepth 100000 in
theorem slByte (s : ByteArray) (c : Int) (w : World) : Calls Try.prog 57 #[.string s, .int .u8 c] w fun e w' => e = .returned (.int .i64 (ixB s c)) ∧ w = w' := by
  go_enter Try.func57, Try.ntmps57
  go_wp2
  rw [run_callFunc_extern Try.func72 (by kernel_rfl) (by kernel_rfl) (by kernel_rfl) (e := Extern.BytealgIndexByte.indexByte) (by kernel_rfl), Lib.run_indexByteString]
  simp only [Result.andThen]
  rw [Oper.upon_value]
  go_wp2
  go_ret
  exact ⟨rfl, rfl⟩
set_option maxHeartbeats 1000000 in
set_option maxRecDepth 100000 in
theorem stByte (s : ByteArray) (c : Int) (w : World) : Calls Try.prog 46 #[.string s, .int .u8 c] w fun e w' => e = .returned (.int .i64 (ixB s c)) ∧ w = w' := by
  go_enter Try.func46, Try.ntmps46
  have k1 := True.intro
  go_wp2_with (go_at_call 57; clear k1; refine (slByte s c _).mono ?_; rintro e_ w_ ⟨rfl, rfl⟩)
  go_ret
  exact ⟨rfl, rfl⟩
end Go.Proofs.Ytaipghemddjecaa
