import Derived.WalkKit
import Derived.Laws.Cover4
namespace Go.Proofs.Ytaipghemddjecaa
open Go.RowKit
theorem hid {p : Prop} (h : p) : Hid p := h
theorem rv_int {k : IntKind} {a b : Int} (h : a = b) : Ending.returned (.int k a) = .returned (.int k b) := by rw [h]
theorem rv_ib {k : IntKind} {a b : Int} {c d : Bool} (h : a = b) (h2 : c = d) : Ending.returned (.tuple #[.int k a, .bool c]) = .returned (.tuple #[.int k b, .bool d]) := by rw [h, h2]
theorem beq_t {a b : Int} (h : a = b) : (a == b) = true := by simp [h]
theorem beq_f {a b : Int} (h : a ≠ b) : (a == b) = false := by simp [h]
def bt (t : ByteArray) (i : Nat) : Int := ((t.data.toList.getD i 0).toNat : Int)
theorem bt_get (t : ByteArray) (i : Nat) (h : i < t.size) : ((t[i]'h).toNat : Int) = bt t i := by
  unfold bt
  have h' : i < t.data.toList.length := by simpa using h
  rw [List.getD_eq_getElem?_getD, List.getElem?_eq_getElem h']
  rfl
theorem bt_lo (t : ByteArray) (i : Nat) : 0 ≤ bt t i := by unfold bt; omega
theorem bt_hi (t : ByteArray) (i : Nat) : bt t i < 256 := by unfold bt; have := (t.data.toList.getD i 0).toNat_lt; omega
end Go.Proofs.Ytaipghemddjecaa
