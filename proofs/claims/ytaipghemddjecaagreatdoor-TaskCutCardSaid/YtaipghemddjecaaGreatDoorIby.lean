import Derived.Test.YtaipghemddjecaaGreatDoorGwy
import Derived.Lib.Bytealg
import Derived.Laws.Externs
namespace Go.Proofs.YtaipghemddjecaaGreatDoor
set_option maxHeartbeats 40000000
set_option maxRecDepth 100000
open Go.RowKit
set_option linter.unusedVariables false
def ixB(s:ByteArray)(c:Int):Int:=Lib.indexByte s.data.toList c.toNat.toUInt8
theorem QfE(s:ByteArray)(c:Int)(w:World):Calls Tryz.prog 104 #[.string s,.int .u8 c] w fun e w'=>e=.returned (.int .i64 (ixB s c))∧w=w':=by
  go_enter Tryz.func104,Tryz.ntmps104
  go_wp2
  rw [run_callFunc_extern Tryz.func120 (by kernel_rfl) (by kernel_rfl) (by kernel_rfl) (e:=Extern.BytealgIndexByte.indexByte) (by kernel_rfl),Lib.run_indexByteString]
  simp only [Result.andThen]
  rw [Oper.upon_value]
  go_wp2
  go_ret
  exact ⟨rfl,rfl⟩
theorem QbL(s:ByteArray)(c:Int)(w:World):Calls Tryz.prog 87 #[.string s,.int .u8 c] w fun e w'=>e=.returned (.int .i64 (ixB s c))∧w=w':=by
  go_enter Tryz.func87,Tryz.ntmps87
  have k1:=True.intro
  go_wp2_with (go_at_call 104;clear k1;refine (QfE s c _).mono ?_;rintro e_ w_ ⟨rfl,rfl⟩)
  go_ret
  exact ⟨rfl,rfl⟩
end Go.Proofs.YtaipghemddjecaaGreatDoor
