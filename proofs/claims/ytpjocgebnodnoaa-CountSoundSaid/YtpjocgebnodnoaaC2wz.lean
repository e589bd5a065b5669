import Derived.Test.YtpjocgebnodnoaaProg
import Derived.Test.YtpjocgebnodnoaaC1wz
namespace Go.Proofs.Ytpjocgebnodnoaa
open Go.RowKit
set_option linter.unusedVariables false
set_option linter.unusedSimpArgs false
set_option maxRecDepth 100000
theorem aT114_agg (w : World) : (isAgg 114).run Try.prog w = .ok true w := by kernel_rfl
theorem aT114_size (w : World) : (sizeOf 114).run Try.prog w = .ok 256 w := by kernel_rfl
theorem aT114_zero (w : World) : (zeroValue 114).run Try.prog w = .ok (.agg (av (Value.int .i64) (List.replicate 256 (0 : Int)))) w := by kernel_rfl
theorem aT114 : AggT Try.prog 114 256 (av (Value.int .i64) (List.replicate 256 (0 : Int))) := ⟨aT114_agg, aT114_size, aT114_zero, by first | rfl | decide⟩
theorem uT114 : Try.prog.underlying 114 = some (.array 256 3) := by kernel_rfl
theorem aT53_agg (w : World) : (isAgg 53).run Try.prog w = .ok true w := by kernel_rfl
theorem aT53_size (w : World) : (sizeOf 53).run Try.prog w = .ok 2 w := by kernel_rfl
theorem aT53_zero (w : World) : (zeroValue 53).run Try.prog w = .ok (.agg (av (Value.int .i64) (List.replicate 2 (0 : Int)))) w := by kernel_rfl
theorem aT53 : AggT Try.prog 53 2 (av (Value.int .i64) (List.replicate 2 (0 : Int))) := ⟨aT53_agg, aT53_size, aT53_zero, by first | rfl | decide⟩
theorem uT53 : Try.prog.underlying 53 = some (.array 2 3) := by kernel_rfl
def i_bits_OnesCount64.f (a0 : Int) : Option (Int) := some (Go.bits .and .i64 (wrap64 (IntKind.u64.wrap ((IntKind.u64.wrap ((IntKind.u64.wrap ((Go.bits .and .u64 (IntKind.u64.wrap (((IntKind.u64.wrap ((Go.bits .and .u64 ((IntKind.u64.wrap ((Go.bits .and .u64 (a0 / 2) 6148914691236517205) + (Go.bits .and .u64 a0 6148914691236517205))) / 4) 3689348814741910323) + (Go.bits .and .u64 (IntKind.u64.wrap ((Go.bits .and .u64 (a0 / 2) 6148914691236517205) + (Go.bits .and .u64 a0 6148914691236517205))) 3689348814741910323))) / 16) + (IntKind.u64.wrap ((Go.bits .and .u64 ((IntKind.u64.wrap ((Go.bits .and .u64 (a0 / 2) 6148914691236517205) + (Go.bits .and .u64 a0 6148914691236517205))) / 4) 3689348814741910323) + (Go.bits .and .u64 (IntKind.u64.wrap ((Go.bits .and .u64 (a0 / 2) 6148914691236517205) + (Go.bits .and .u64 a0 6148914691236517205))) 3689348814741910323))))) 1085102592571150095) + ((Go.bits .and .u64 (IntKind.u64.wrap (((IntKind.u64.wrap ((Go.bits .and .u64 ((IntKind.u64.wrap ((Go.bits .and .u64 (a0 / 2) 6148914691236517205) + (Go.bits .and .u64 a0 6148914691236517205))) / 4) 3689348814741910323) + (Go.bits .and .u64 (IntKind.u64.wrap ((Go.bits .and .u64 (a0 / 2) 6148914691236517205) + (Go.bits .and .u64 a0 6148914691236517205))) 3689348814741910323))) / 16) + (IntKind.u64.wrap ((Go.bits .and .u64 ((IntKind.u64.wrap ((Go.bits .and .u64 (a0 / 2) 6148914691236517205) + (Go.bits .and .u64 a0 6148914691236517205))) / 4) 3689348814741910323) + (Go.bits .and .u64 (IntKind.u64.wrap ((Go.bits .and .u64 (a0 / 2) 6148914691236517205) + (Go.bits .and .u64 a0 6148914691236517205))) 3689348814741910323))))) 1085102592571150095) / 256))) + ((IntKind.u64.wrap ((Go.bits .and .u64 (IntKind.u64.wrap (((IntKind.u64.wrap ((Go.bits .and .u64 ((IntKind.u64.wrap ((Go.bits .and .u64 (a0 / 2) 6148914691236517205) + (Go.bits .and .u64 a0 6148914691236517205))) / 4) 3689348814741910323) + (Go.bits .and .u64 (IntKind.u64.wrap ((Go.bits .and .u64 (a0 / 2) 6148914691236517205) + (Go.bits .and .u64 a0 6148914691236517205))) 3689348814741910323))) / 16) + (IntKind.u64.wrap ((Go.bits .and .u64 ((IntKind.u64.wrap ((Go.bits .and .u64 (a0 / 2) 6148914691236517205) + (Go.bits .and .u64 a0 6148914691236517205))) / 4) 3689348814741910323) + (Go.bits .and .u64 (IntKind.u64.wrap ((Go.bits .and .u64 (a0 / 2) 6148914691236517205) + (Go.bits .and .u64 a0 6148914691236517205))) 3689348814741910323))))) 1085102592571150095) + ((Go.bits .and .u64 (IntKind.u64.wrap (((IntKind.u64.wrap ((Go.bits .and .u64 ((IntKind.u64.wrap ((Go.bits .and .u64 (a0 / 2) 6148914691236517205) + (Go.bits .and .u64 a0 6148914691236517205))) / 4) 3689348814741910323) + (Go.bits .and .u64 (IntKind.u64.wrap ((Go.bits .and .u64 (a0 / 2) 6148914691236517205) + (Go.bits .and .u64 a0 6148914691236517205))) 3689348814741910323))) / 16) + (IntKind.u64.wrap ((Go.bits .and .u64 ((IntKind.u64.wrap ((Go.bits .and .u64 (a0 / 2) 6148914691236517205) + (Go.bits .and .u64 a0 6148914691236517205))) / 4) 3689348814741910323) + (Go.bits .and .u64 (IntKind.u64.wrap ((Go.bits .and .u64 (a0 / 2) 6148914691236517205) + (Go.bits .and .u64 a0 6148914691236517205))) 3689348814741910323))))) 1085102592571150095) / 256))) / 65536))) + ((IntKind.u64.wrap ((IntKind.u64.wrap ((Go.bits .and .u64 (IntKind.u64.wrap (((IntKind.u64.wrap ((Go.bits .and .u64 ((IntKind.u64.wrap ((Go.bits .and .u64 (a0 / 2) 6148914691236517205) + (Go.bits .and .u64 a0 6148914691236517205))) / 4) 3689348814741910323) + (Go.bits .and .u64 (IntKind.u64.wrap ((Go.bits .and .u64 (a0 / 2) 6148914691236517205) + (Go.bits .and .u64 a0 6148914691236517205))) 3689348814741910323))) / 16) + (IntKind.u64.wrap ((Go.bits .and .u64 ((IntKind.u64.wrap ((Go.bits .and .u64 (a0 / 2) 6148914691236517205) + (Go.bits .and .u64 a0 6148914691236517205))) / 4) 3689348814741910323) + (Go.bits .and .u64 (IntKind.u64.wrap ((Go.bits .and .u64 (a0 / 2) 6148914691236517205) + (Go.bits .and .u64 a0 6148914691236517205))) 3689348814741910323))))) 1085102592571150095) + ((Go.bits .and .u64 (IntKind.u64.wrap (((IntKind.u64.wrap ((Go.bits .and .u64 ((IntKind.u64.wrap ((Go.bits .and .u64 (a0 / 2) 6148914691236517205) + (Go.bits .and .u64 a0 6148914691236517205))) / 4) 3689348814741910323) + (Go.bits .and .u64 (IntKind.u64.wrap ((Go.bits .and .u64 (a0 / 2) 6148914691236517205) + (Go.bits .and .u64 a0 6148914691236517205))) 3689348814741910323))) / 16) + (IntKind.u64.wrap ((Go.bits .and .u64 ((IntKind.u64.wrap ((Go.bits .and .u64 (a0 / 2) 6148914691236517205) + (Go.bits .and .u64 a0 6148914691236517205))) / 4) 3689348814741910323) + (Go.bits .and .u64 (IntKind.u64.wrap ((Go.bits .and .u64 (a0 / 2) 6148914691236517205) + (Go.bits .and .u64 a0 6148914691236517205))) 3689348814741910323))))) 1085102592571150095) / 256))) + ((IntKind.u64.wrap ((Go.bits .and .u64 (IntKind.u64.wrap (((IntKind.u64.wrap ((Go.bits .and .u64 ((IntKind.u64.wrap ((Go.bits .and .u64 (a0 / 2) 6148914691236517205) + (Go.bits .and .u64 a0 6148914691236517205))) / 4) 3689348814741910323) + (Go.bits .and .u64 (IntKind.u64.wrap ((Go.bits .and .u64 (a0 / 2) 6148914691236517205) + (Go.bits .and .u64 a0 6148914691236517205))) 3689348814741910323))) / 16) + (IntKind.u64.wrap ((Go.bits .and .u64 ((IntKind.u64.wrap ((Go.bits .and .u64 (a0 / 2) 6148914691236517205) + (Go.bits .and .u64 a0 6148914691236517205))) / 4) 3689348814741910323) + (Go.bits .and .u64 (IntKind.u64.wrap ((Go.bits .and .u64 (a0 / 2) 6148914691236517205) + (Go.bits .and .u64 a0 6148914691236517205))) 3689348814741910323))))) 1085102592571150095) + ((Go.bits .and .u64 (IntKind.u64.wrap (((IntKind.u64.wrap ((Go.bits .and .u64 ((IntKind.u64.wrap ((Go.bits .and .u64 (a0 / 2) 6148914691236517205) + (Go.bits .and .u64 a0 6148914691236517205))) / 4) 3689348814741910323) + (Go.bits .and .u64 (IntKind.u64.wrap ((Go.bits .and .u64 (a0 / 2) 6148914691236517205) + (Go.bits .and .u64 a0 6148914691236517205))) 3689348814741910323))) / 16) + (IntKind.u64.wrap ((Go.bits .and .u64 ((IntKind.u64.wrap ((Go.bits .and .u64 (a0 / 2) 6148914691236517205) + (Go.bits .and .u64 a0 6148914691236517205))) / 4) 3689348814741910323) + (Go.bits .and .u64 (IntKind.u64.wrap ((Go.bits .and .u64 (a0 / 2) 6148914691236517205) + (Go.bits .and .u64 a0 6148914691236517205))) 3689348814741910323))))) 1085102592571150095) / 256))) / 65536))) / 4294967296)))) 127)
set_option maxHeartbeats 40000000 in
set_option maxRecDepth 100000 in
theorem i_bits_OnesCount64.calls (a0 : Int) (r1 : Int) (w : World) (h : i_bits_OnesCount64.f a0 = some r1) :
    Calls Try.prog 102 #[.int .u64 a0] w fun e w' => e = .returned (.int .i64 r1) ∧ w = w' := by
 have H : (some (Go.bits .and .i64 (wrap64 (IntKind.u64.wrap ((IntKind.u64.wrap ((IntKind.u64.wrap ((Go.bits .and .u64 (IntKind.u64.wrap (((IntKind.u64.wrap ((Go.bits .and .u64 ((IntKind.u64.wrap ((Go.bits .and .u64 (a0 / 2) 6148914691236517205) + (Go.bits .and .u64 a0 6148914691236517205))) / 4) 3689348814741910323) + (Go.bits .and .u64 (IntKind.u64.wrap ((Go.bits .and .u64 (a0 / 2) 6148914691236517205) + (Go.bits .and .u64 a0 6148914691236517205))) 3689348814741910323))) / 16) + (IntKind.u64.wrap ((Go.bits .and .u64 ((IntKind.u64.wrap ((Go.bits .and .u64 (a0 / 2) 6148914691236517205) + (Go.bits .and .u64 a0 6148914691236517205))) / 4) 3689348814741910323) + (Go.bits .and .u64 (IntKind.u64.wrap ((Go.bits .and .u64 (a0 / 2) 6148914691236517205) + (Go.bits .and .u64 a0 6148914691236517205))) 3689348814741910323))))) 1085102592571150095) + ((Go.bits .and .u64 (IntKind.u64.wrap (((IntKind.u64.wrap ((Go.bits .and .u64 ((IntKind.u64.wrap ((Go.bits .and .u64 (a0 / 2) 6148914691236517205) + (Go.bits .and .u64 a0 6148914691236517205))) / 4) 3689348814741910323) + (Go.bits .and .u64 (IntKind.u64.wrap ((Go.bits .and .u64 (a0 / 2) 6148914691236517205) + (Go.bits .and .u64 a0 6148914691236517205))) 3689348814741910323))) / 16) + (IntKind.u64.wrap ((Go.bits .and .u64 ((IntKind.u64.wrap ((Go.bits .and .u64 (a0 / 2) 6148914691236517205) + (Go.bits .and .u64 a0 6148914691236517205))) / 4) 3689348814741910323) + (Go.bits .and .u64 (IntKind.u64.wrap ((Go.bits .and .u64 (a0 / 2) 6148914691236517205) + (Go.bits .and .u64 a0 6148914691236517205))) 3689348814741910323))))) 1085102592571150095) / 256))) + ((IntKind.u64.wrap ((Go.bits .and .u64 (IntKind.u64.wrap (((IntKind.u64.wrap ((Go.bits .and .u64 ((IntKind.u64.wrap ((Go.bits .and .u64 (a0 / 2) 6148914691236517205) + (Go.bits .and .u64 a0 6148914691236517205))) / 4) 3689348814741910323) + (Go.bits .and .u64 (IntKind.u64.wrap ((Go.bits .and .u64 (a0 / 2) 6148914691236517205) + (Go.bits .and .u64 a0 6148914691236517205))) 3689348814741910323))) / 16) + (IntKind.u64.wrap ((Go.bits .and .u64 ((IntKind.u64.wrap ((Go.bits .and .u64 (a0 / 2) 6148914691236517205) + (Go.bits .and .u64 a0 6148914691236517205))) / 4) 3689348814741910323) + (Go.bits .and .u64 (IntKind.u64.wrap ((Go.bits .and .u64 (a0 / 2) 6148914691236517205) + (Go.bits .and .u64 a0 6148914691236517205))) 3689348814741910323))))) 1085102592571150095) + ((Go.bits .and .u64 (IntKind.u64.wrap (((IntKind.u64.wrap ((Go.bits .and .u64 ((IntKind.u64.wrap ((Go.bits .and .u64 (a0 / 2) 6148914691236517205) + (Go.bits .and .u64 a0 6148914691236517205))) / 4) 3689348814741910323) + (Go.bits .and .u64 (IntKind.u64.wrap ((Go.bits .and .u64 (a0 / 2) 6148914691236517205) + (Go.bits .and .u64 a0 6148914691236517205))) 3689348814741910323))) / 16) + (IntKind.u64.wrap ((Go.bits .and .u64 ((IntKind.u64.wrap ((Go.bits .and .u64 (a0 / 2) 6148914691236517205) + (Go.bits .and .u64 a0 6148914691236517205))) / 4) 3689348814741910323) + (Go.bits .and .u64 (IntKind.u64.wrap ((Go.bits .and .u64 (a0 / 2) 6148914691236517205) + (Go.bits .and .u64 a0 6148914691236517205))) 3689348814741910323))))) 1085102592571150095) / 256))) / 65536))) + ((IntKind.u64.wrap ((IntKind.u64.wrap ((Go.bits .and .u64 (IntKind.u64.wrap (((IntKind.u64.wrap ((Go.bits .and .u64 ((IntKind.u64.wrap ((Go.bits .and .u64 (a0 / 2) 6148914691236517205) + (Go.bits .and .u64 a0 6148914691236517205))) / 4) 3689348814741910323) + (Go.bits .and .u64 (IntKind.u64.wrap ((Go.bits .and .u64 (a0 / 2) 6148914691236517205) + (Go.bits .and .u64 a0 6148914691236517205))) 3689348814741910323))) / 16) + (IntKind.u64.wrap ((Go.bits .and .u64 ((IntKind.u64.wrap ((Go.bits .and .u64 (a0 / 2) 6148914691236517205) + (Go.bits .and .u64 a0 6148914691236517205))) / 4) 3689348814741910323) + (Go.bits .and .u64 (IntKind.u64.wrap ((Go.bits .and .u64 (a0 / 2) 6148914691236517205) + (Go.bits .and .u64 a0 6148914691236517205))) 3689348814741910323))))) 1085102592571150095) + ((Go.bits .and .u64 (IntKind.u64.wrap (((IntKind.u64.wrap ((Go.bits .and .u64 ((IntKind.u64.wrap ((Go.bits .and .u64 (a0 / 2) 6148914691236517205) + (Go.bits .and .u64 a0 6148914691236517205))) / 4) 3689348814741910323) + (Go.bits .and .u64 (IntKind.u64.wrap ((Go.bits .and .u64 (a0 / 2) 6148914691236517205) + (Go.bits .and .u64 a0 6148914691236517205))) 3689348814741910323))) / 16) + (IntKind.u64.wrap ((Go.bits .and .u64 ((IntKind.u64.wrap ((Go.bits .and .u64 (a0 / 2) 6148914691236517205) + (Go.bits .and .u64 a0 6148914691236517205))) / 4) 3689348814741910323) + (Go.bits .and .u64 (IntKind.u64.wrap ((Go.bits .and .u64 (a0 / 2) 6148914691236517205) + (Go.bits .and .u64 a0 6148914691236517205))) 3689348814741910323))))) 1085102592571150095) / 256))) + ((IntKind.u64.wrap ((Go.bits .and .u64 (IntKind.u64.wrap (((IntKind.u64.wrap ((Go.bits .and .u64 ((IntKind.u64.wrap ((Go.bits .and .u64 (a0 / 2) 6148914691236517205) + (Go.bits .and .u64 a0 6148914691236517205))) / 4) 3689348814741910323) + (Go.bits .and .u64 (IntKind.u64.wrap ((Go.bits .and .u64 (a0 / 2) 6148914691236517205) + (Go.bits .and .u64 a0 6148914691236517205))) 3689348814741910323))) / 16) + (IntKind.u64.wrap ((Go.bits .and .u64 ((IntKind.u64.wrap ((Go.bits .and .u64 (a0 / 2) 6148914691236517205) + (Go.bits .and .u64 a0 6148914691236517205))) / 4) 3689348814741910323) + (Go.bits .and .u64 (IntKind.u64.wrap ((Go.bits .and .u64 (a0 / 2) 6148914691236517205) + (Go.bits .and .u64 a0 6148914691236517205))) 3689348814741910323))))) 1085102592571150095) + ((Go.bits .and .u64 (IntKind.u64.wrap (((IntKind.u64.wrap ((Go.bits .and .u64 ((IntKind.u64.wrap ((Go.bits .and .u64 (a0 / 2) 6148914691236517205) + (Go.bits .and .u64 a0 6148914691236517205))) / 4) 3689348814741910323) + (Go.bits .and .u64 (IntKind.u64.wrap ((Go.bits .and .u64 (a0 / 2) 6148914691236517205) + (Go.bits .and .u64 a0 6148914691236517205))) 3689348814741910323))) / 16) + (IntKind.u64.wrap ((Go.bits .and .u64 ((IntKind.u64.wrap ((Go.bits .and .u64 (a0 / 2) 6148914691236517205) + (Go.bits .and .u64 a0 6148914691236517205))) / 4) 3689348814741910323) + (Go.bits .and .u64 (IntKind.u64.wrap ((Go.bits .and .u64 (a0 / 2) 6148914691236517205) + (Go.bits .and .u64 a0 6148914691236517205))) 3689348814741910323))))) 1085102592571150095) / 256))) / 65536))) / 4294967296)))) 127)) = some r1 := h
 clear h
 obtain rfl := Option.some.inj H
 clear H
 go_enter Try.func102, Try.ntmps102
 go_wp2_with fail
 (try simp only [Act.put, sI, sZ, sS])
 go_ret
 exact ⟨by first | rfl | (simp; done) | (simp [*]; done), rfl⟩
def i_bits_OnesCount.f (a0 : Int) : Option (Int) := (i_bits_OnesCount64.f a0).bind fun t1 => (some t1)
set_option maxHeartbeats 40000000 in
set_option maxRecDepth 100000 in
theorem i_bits_OnesCount.calls (a0 : Int) (r1 : Int) (w : World) (h : i_bits_OnesCount.f a0 = some r1) :
    Calls Try.prog 69 #[.int .u64 a0] w fun e w' => e = .returned (.int .i64 r1) ∧ w = w' := by
 have H : ((i_bits_OnesCount64.f a0).bind fun t1 => (some t1)) = some r1 := h
 clear h
 replace H := Option.bind_eq_some_iff.mp H
 obtain ⟨t1, A2_, H⟩ := H
 have A2 := hid A2_
 clear A2_
 obtain rfl := Option.some.inj H
 clear H
 go_enter Try.func69, Try.ntmps69
 have k3 := True.intro
 go_wp2_with (first
  | (go_at_call 102; clear k3; refine (i_bits_OnesCount64.calls a0 t1 _ A2.out).mono ?_; rintro e_ w' ⟨rfl, rfl⟩))
 (try simp only [Act.put, sI, sZ, sS])
 go_ret
 exact ⟨by first | rfl | (simp; done) | (simp [*]; done), rfl⟩
mutual
def i_count_Least.l0 : Nat → Int → List Int → Int → List Int → Option (Int × Bool)
  | 0, _, _, _, _ => none
  | k + 1, a1, t4, x25_0, yb5_0_0 => if x25_0 < 256 then (if 0 ≤ x25_0 then (i_count_Least.l0 k a1 t4 (wrap64 (x25_0 + 1)) (yb5_0_0.set x25_0.toNat 1048576)) else (none)) else (i_count_Least.l1 k a1 t4 1 (yb5_0_0.set 0 0))
def i_count_Least.l1 : Nat → Int → List Int → Int → List Int → Option (Int × Bool)
  | 0, _, _, _, _ => none
  | k + 1, a1, t4, x9_1, yb5_0_1 => if x9_1 < 256 then ((i_bits_OnesCount.f (IntKind.u64.wrap (x9_1))).bind fun t51 => (if t51 > (t4.length : Int) then (i_count_Least.l1 k a1 t4 (wrap64 (x9_1 + 1)) yb5_0_1) else (if 0 ≤ (wrap64 (t51 - 1)) then (if (wrap64 (t51 - 1)) < (t4.length : Int) then ((i_count_gone.f (nt t4 ((wrap64 (t51 - 1)).toNat) 0) a1).bind fun t53 => (if t53 < 0 then (i_count_Least.l1 k a1 t4 (wrap64 (x9_1 + 1)) yb5_0_1) else ((i_count_gone.f (nt t4 ((wrap64 (t51 - 1)).toNat) 0) a1).bind fun t55 => (if t55 > 5 then (i_count_Least.l1 k a1 t4 (wrap64 (x9_1 + 1)) yb5_0_1) else (i_count_Least.l2 k a1 x9_1 t4 t51 0 yb5_0_1))))) else (none)) else (none)))) else (i_count_Least.l3 k yb5_0_1 t4 1048576 0)
def i_count_Least.l2 : Nat → Int → Int → List Int → Int → Int → List Int → Option (Int × Bool)
  | 0, _, _, _, _, _, _ => none
  | k + 1, a1, x9_1, t4, t51, x63_2, yb5_0_2 => if x63_2 < 8 then (if 0 ≤ x63_2 then (if x63_2 ≤ 64 then ((some (x9_1 / 2 ^ x63_2.toNat)).bind fun s60 => (if (Go.bits .and .i64 s60 1) = 0 then (i_count_Least.l2 k a1 x9_1 t4 t51 (wrap64 (x63_2 + 1)) yb5_0_2) else (if 0 ≤ x9_1 then (if x9_1 < 256 then ((some (wrap64 (1 * 2 ^ x63_2.toNat))).bind fun s61 => (if 0 ≤ (Go.bits .andNot .i64 x9_1 s61) then (if (Go.bits .andNot .i64 x9_1 s61) < 256 then (if 0 ≤ (wrap64 (t51 - 1)) then (if (wrap64 (t51 - 1)) < (t4.length : Int) then ((i_count_away.f (nt t4 ((wrap64 (t51 - 1)).toNat) 0) a1 x63_2).bind fun t63 => (if (wrap64 ((nt yb5_0_2 ((Go.bits .andNot .i64 x9_1 s61).toNat) 0) + t63)) < (nt yb5_0_2 x9_1.toNat 0) then (i_count_Least.l2 k a1 x9_1 t4 t51 (wrap64 (x63_2 + 1)) (yb5_0_2.set x9_1.toNat (wrap64 ((nt yb5_0_2 ((Go.bits .andNot .i64 x9_1 s61).toNat) 0) + t63)))) else (i_count_Least.l2 k a1 x9_1 t4 t51 (wrap64 (x63_2 + 1)) (yb5_0_2.set x9_1.toNat (nt yb5_0_2 x9_1.toNat 0))))) else (none)) else (none)) else (none)) else (none))) else (none)) else (none)))) else (none)) else (none)) else (i_count_Least.l1 k a1 t4 (wrap64 (x9_1 + 1)) yb5_0_2)
def i_count_Least.l3 : Nat → List Int → List Int → Int → Int → Option (Int × Bool)
  | 0, _, _, _, _ => none
  | k + 1, yb5_0_1, t4, x12_3, x93_3 => if x93_3 < 256 then ((i_bits_OnesCount.f (IntKind.u64.wrap (x93_3))).bind fun t65 => (if t65 = (t4.length : Int) then (if 0 ≤ x93_3 then (if (nt yb5_0_1 x93_3.toNat 0) < x12_3 then (i_count_Least.l3 k yb5_0_1 t4 (nt yb5_0_1 x93_3.toNat 0) (wrap64 (x93_3 + 1))) else (i_count_Least.l3 k yb5_0_1 t4 x12_3 (wrap64 (x93_3 + 1)))) else (none)) else (i_count_Least.l3 k yb5_0_1 t4 x12_3 (wrap64 (x93_3 + 1))))) else (if x12_3 ≥ 1048576 then (some (0, false)) else (some (x12_3, true)))
end
def i_count_Least.f (k : Nat) (a0 : List Int) (a1 : Int) : Option (Int × Bool) := (i_count_known.f k a0 a1).bind fun t2 => (if t2 = true then ((i_men_Make.f 1 a1).bind fun t3 => ((i_board_Where.f k a0 t3).bind fun t4 => (if (t4.length : Int) > 8 then (some (0, false)) else (i_count_Least.l0 k a1 t4 0 (List.replicate 256 (0 : Int)))))) else (some (0, false)))
set_option maxHeartbeats 40000000 in
set_option maxRecDepth 100000 in
theorem i_count_Least.calls (k : Nat) (a0 : List Int) (a1 : Int) (hla0 : a0.length = 64) (r1 : Int) (r2 : Bool) (w : World) (h : i_count_Least.f k a0 a1 = some (r1, r2)) :
    Calls Try.prog 40 #[.agg (bv a0), .int .i64 a1] w fun e w' => e = .returned (.tuple #[.int .i64 r1, .bool r2]) ∧ Below w.heap.size w w' := by
 have LN_a0 := hid hla0
 clear hla0
 have HL := hid (Below.refl w.heap.size w)
 have H : ((i_count_known.f k a0 a1).bind fun t2 => (if t2 = true then ((i_men_Make.f 1 a1).bind fun t3 => ((i_board_Where.f k a0 t3).bind fun t4 => (if (t4.length : Int) > 8 then (some (0, false)) else (i_count_Least.l0 k a1 t4 0 (List.replicate 256 (0 : Int)))))) else (some (0, false)))) = some (r1, r2) := h
 clear h
 replace H := Option.bind_eq_some_iff.mp H
 obtain ⟨t2, A66_, H⟩ := H
 have A66 := hid A66_
 clear A66_
 cases t2 with
 | true =>
  rw [if_pos rfl] at H
  replace H := Option.bind_eq_some_iff.mp H
  obtain ⟨t3, A68_, H⟩ := H
  have A68 := hid A68_
  clear A68_
  replace H := Option.bind_eq_some_iff.mp H
  obtain ⟨t4, A69_, H⟩ := H
  have A69 := hid A69_
  clear A69_
  by_cases c70 : (t4.length : Int) > 8
  ·
   rw [if_pos c70] at H
   have c70b0 : decide (8 < (t4.length : Int)) = true := decide_eq_true c70
   have c70b1 : decide (8 < t4.length) = true := decide_eq_true (by omega)
   have hc70 := hid c70
   clear c70
   simp only [Option.some.injEq, Prod.mk.injEq] at H
   obtain ⟨rfl, rfl⟩ := H
   go_enter Try.func40, Try.ntmps40
   have k72 := True.intro
   go_wp2_with (first
    | ((with_reducible refine gate_d (N := 2) rfl ?_); obtain ⟨gb1, hgb1⟩ : ∃ g_, w.heap.size = g_ := ⟨_, rfl⟩; refine ag_box (bv a0) gb1 hgb1 rfl _ rfl rfl ?_; intro w71 hb_ hB_ hs_; have GEb1 : Hid (w.heap.size ≤ gb1) := hid (by have := HL.out.size; omega); replace HL := hid (HL.out.trans (hb_.mono GEb1.out)); have BKb1 := hid hB_; clear hb_ hB_ hs_ hgb1)
    | ((with_reducible refine gate_d (N := 14) rfl ?_); refine ag_fix (.agg (bv a0)) (ex_load boardT gb1 0 (bv a0) (bv a0) BKb1.out (av_le LN_a0.out) (av_ex LN_a0.out) _ rfl rfl) rfl ?_)
    | (go_at_call 66; clear k72; refine (i_count_known.calls k a0 a1 LN_a0.out true _ A66.out).mono ?_; rintro e_ w73 ⟨rfl, hb_⟩; replace BKb1 := hid (BKb1.out.below hb_ BKb1.out.lt); replace HL := hid (HL.out.trans (hb_.mono HL.out.size)); clear hb_))
   (try simp only [Act.put, sI, sZ, sS])
   have WR64 := i64_w
   have WR32 := i32_w
   have WR8 := u8_w
   have WRU := u32_w
   refine sq_region (fun w'_ => Below w.heap.size w w'_ ∧ Blk w'_ gb1 44 (bv a0) ∧ True) [3] [(0, 1), (1, 2), (2, 0), (3, 0), (4, 2)] (by kernel_rfl) (by kernel_rfl) (by kernel_rfl) rfl ?_
   intro w74 hb_
   replace BKb1 := hid (BKb1.out.below hb_ BKb1.out.lt)
   replace HL := hid (HL.out.trans (hb_.mono HL.out.size))
   clear hb_
   refine sq_take (.agg (bv a0)) ⟨HL.out, BKb1.out, trivial⟩ rfl (fun w'_ hS_ => ex_load boardT gb1 0 (bv a0) (bv a0) hS_.2.1 (av_le LN_a0.out) (av_ex LN_a0.out) _ rfl rfl) rfl rfl ?_
   intro ts_ ht_; simp only [sI, sZ, sS] at ht_; subst ht_
   refine sq_pure (.int .i64 a1) rfl (fun w'_ => ex_mv (.tmp 1) (.inl rfl) _ rfl) rfl rfl ?_
   intro ts_ ht_; simp only [sI, sZ, sS] at ht_; subst ht_
   refine sq_act rfl (fun Q'_ hQ_ => ?_)
   refine wl_call 68 #[.int .i64 1, .int .i64 a1] (by go_simp) rfl ((i_men_Make.calls 1 a1 t3 _ A68.out).mono ?_)
   rintro e_ w' ⟨rfl, rfl⟩
   refine ⟨_, rfl, ?_⟩
   refine hQ_ _ _ (fun _ => ⟨HL.out, BKb1.out, trivial⟩) ?_
   clear hQ_ Q'_
   simp only [Act.put, sI, sZ, sS]
   refine sq_act rfl (fun Q'_ hQ_ => ?_)
   refine wl_call 67 #[.agg (bv a0), .int .i64 t3] (by go_simp) rfl ((i_board_Where.calls k a0 t3 LN_a0.out t4 _ A69.out).mono ?_)
   rintro e_ w77 ⟨ut4, rfl, so_t4, hb_⟩
   replace so_t4 := so_t4.mono HL.out.size
   have SWn_t4 := hid so_t4
   clear so_t4
   replace BKb1 := hid (BKb1.out.below hb_ BKb1.out.lt)
   replace HL := hid (HL.out.trans (hb_.mono HL.out.size))
   clear hb_
   have SWt4 := SWn_t4
   clear SWn_t4
   refine ⟨_, rfl, ?_⟩
   refine hQ_ _ _ (fun h_ => absurd h_ (by decide)) ?_
   clear hQ_ Q'_
   simp only [Act.put, sI, sZ, sS]
   refine sq_pure (ut4) rfl (fun w'_ => ex_mv (.tmp 21) (.inr rfl) _ rfl) rfl rfl ?_
   intro ts_ ht_; simp only [sI, sZ, sS] at ht_; subst ht_
   refine sq_end ?_
   clear WR64 WR32 WR8 WRU
   go_wp2_with (first
    | ((with_reducible refine gate_d (N := 23) rfl ?_); obtain ⟨A78, c79, hv80⟩ := SWt4.out.sl.shape; rw [List.length_map] at hv80; refine ag_fix (.int .i64 (t4.length : Int)) (ex_len us27 _ _ _ _ hv80 _ rfl rfl) rfl ?_; clear hv80))
   (try simp only [Act.put, sI, sZ, sS])
   go_ret2
   exact ⟨by first | rfl | (simp; done) | (simp [*]; done), HL.out⟩
  ·
   rw [if_neg c70] at H
   have c70b0 : decide (8 < (t4.length : Int)) = false := decide_eq_false c70
   have c70b1 : decide (8 < t4.length) = false := decide_eq_false (by omega)
   have hc70 := hid c70
   clear c70
   have H' := hid H
   clear H
   go_enter Try.func40, Try.ntmps40
   have k82 := True.intro
   go_wp2_with (first
    | ((with_reducible refine gate_d (N := 2) rfl ?_); obtain ⟨gb1, hgb1⟩ : ∃ g_, w.heap.size = g_ := ⟨_, rfl⟩; refine ag_box (bv a0) gb1 hgb1 rfl _ rfl rfl ?_; intro w81 hb_ hB_ hs_; have GEb1 : Hid (w.heap.size ≤ gb1) := hid (by have := HL.out.size; omega); replace HL := hid (HL.out.trans (hb_.mono GEb1.out)); have BKb1 := hid hB_; clear hb_ hB_ hs_ hgb1)
    | ((with_reducible refine gate_d (N := 14) rfl ?_); refine ag_fix (.agg (bv a0)) (ex_load boardT gb1 0 (bv a0) (bv a0) BKb1.out (av_le LN_a0.out) (av_ex LN_a0.out) _ rfl rfl) rfl ?_)
    | (go_at_call 66; clear k82; refine (i_count_known.calls k a0 a1 LN_a0.out true _ A66.out).mono ?_; rintro e_ w83 ⟨rfl, hb_⟩; replace BKb1 := hid (BKb1.out.below hb_ BKb1.out.lt); replace HL := hid (HL.out.trans (hb_.mono HL.out.size)); clear hb_))
   (try simp only [Act.put, sI, sZ, sS])
   have WR64 := i64_w
   have WR32 := i32_w
   have WR8 := u8_w
   have WRU := u32_w
   refine sq_region (fun w'_ => Below w.heap.size w w'_ ∧ Blk w'_ gb1 44 (bv a0) ∧ True) [3] [(0, 1), (1, 2), (2, 0), (3, 0), (4, 2)] (by kernel_rfl) (by kernel_rfl) (by kernel_rfl) rfl ?_
   intro w84 hb_
   replace BKb1 := hid (BKb1.out.below hb_ BKb1.out.lt)
   replace HL := hid (HL.out.trans (hb_.mono HL.out.size))
   clear hb_
   refine sq_take (.agg (bv a0)) ⟨HL.out, BKb1.out, trivial⟩ rfl (fun w'_ hS_ => ex_load boardT gb1 0 (bv a0) (bv a0) hS_.2.1 (av_le LN_a0.out) (av_ex LN_a0.out) _ rfl rfl) rfl rfl ?_
   intro ts_ ht_; simp only [sI, sZ, sS] at ht_; subst ht_
   refine sq_pure (.int .i64 a1) rfl (fun w'_ => ex_mv (.tmp 1) (.inl rfl) _ rfl) rfl rfl ?_
   intro ts_ ht_; simp only [sI, sZ, sS] at ht_; subst ht_
   refine sq_act rfl (fun Q'_ hQ_ => ?_)
   refine wl_call 68 #[.int .i64 1, .int .i64 a1] (by go_simp) rfl ((i_men_Make.calls 1 a1 t3 _ A68.out).mono ?_)
   rintro e_ w' ⟨rfl, rfl⟩
   refine ⟨_, rfl, ?_⟩
   refine hQ_ _ _ (fun _ => ⟨HL.out, BKb1.out, trivial⟩) ?_
   clear hQ_ Q'_
   simp only [Act.put, sI, sZ, sS]
   refine sq_act rfl (fun Q'_ hQ_ => ?_)
   refine wl_call 67 #[.agg (bv a0), .int .i64 t3] (by go_simp) rfl ((i_board_Where.calls k a0 t3 LN_a0.out t4 _ A69.out).mono ?_)
   rintro e_ w87 ⟨ut4, rfl, so_t4, hb_⟩
   replace so_t4 := so_t4.mono HL.out.size
   have SWn_t4 := hid so_t4
   clear so_t4
   replace BKb1 := hid (BKb1.out.below hb_ BKb1.out.lt)
   replace HL := hid (HL.out.trans (hb_.mono HL.out.size))
   clear hb_
   have SWt4 := SWn_t4
   clear SWn_t4
   refine ⟨_, rfl, ?_⟩
   refine hQ_ _ _ (fun h_ => absurd h_ (by decide)) ?_
   clear hQ_ Q'_
   simp only [Act.put, sI, sZ, sS]
   refine sq_pure (ut4) rfl (fun w'_ => ex_mv (.tmp 21) (.inr rfl) _ rfl) rfl rfl ?_
   intro ts_ ht_; simp only [sI, sZ, sS] at ht_; subst ht_
   refine sq_end ?_
   clear WR64 WR32 WR8 WRU
   go_wp2_with (first
    | ((with_reducible refine gate_d (N := 23) rfl ?_); obtain ⟨A88, c89, hv90⟩ := SWt4.out.sl.shape; rw [List.length_map] at hv90; refine ag_fix (.int .i64 (t4.length : Int)) (ex_len us27 _ _ _ _ hv90 _ rfl rfl) rfl ?_; clear hv90)
    | ((with_reducible refine gate_d (N := 7) rfl ?_); obtain ⟨gb5, hgb5⟩ : ∃ g_, w87.heap.size = g_ := ⟨_, rfl⟩; refine ag_alloc aT114 gb5 hgb5 rfl rfl ?_; intro w91 hb_ hB_ hs_; have GEb5 : Hid (w.heap.size ≤ gb5) := hid (by have := HL.out.size; omega); have NBb1_b5 : Hid (gb1 ≠ gb5) := hid (by have := BKb1.out.lt; omega); have NBb5_b1 : Hid (gb5 ≠ gb1) := hid (by have := NBb1_b5.out; omega); replace BKb1 := hid (BKb1.out.below hb_ (by rw [← hgb5]; exact BKb1.out.lt)); replace SWt4 := hid (SWt4.out.below (by rw [hgb5]; exact hb_)); replace HL := hid (HL.out.trans (hb_.mono GEb5.out)); have BKb5 := hid hB_; clear hb_ hB_ hs_ hgb5))
   (try simp only [Act.put, sI, sZ, sS])
   go_loopg [25] k (fun kq v25 w' => ∃ (x25_0 : Int) (yb5_0_0 : List Int), v25 = .int .i64 x25_0 ∧ Hid (i_count_Least.l0 kq a1 t4 x25_0 yb5_0_0 = some (r1, r2)) ∧ Hid (kq ≤ k) ∧ Hid (yb5_0_0.length = 256) ∧ Hid (Blk w' gb1 44 (bv a0)) ∧ Hid (Blk w' gb5 114 (av (Value.int .i64) yb5_0_0)) ∧ Hid (Own w' w.heap.size 3 (ut4) (t4.map (Value.int .i64))) ∧ Hid (Below w.heap.size w w'))
   case atStart => exact ⟨(0 : Int), (List.replicate 256 (0 : Int)), (by first | rfl | (simp; done) | (simp [*]; done)), H', (hid (by first | omega | (omega))), (hid (by first | rfl | (simp only [List.length_set, List.length_replicate, zL_len, List.length_cons, List.length_nil, LN_a0.out]; done) | (simp [zL_len, LN_a0.out]; done))), (hid (by exact BKb1.out)), (hid (by exact BKb5.out)), SWt4, HL⟩
   case round =>
    clear H'
    clear HL BKb1 BKb5 SWt4
    obtain ⟨x25_0, yb5_0_0, rfl, HA, HK92, LN_yb5_0_0, BKb1, BKb5, SWt4, HL⟩ := hrel
    cases gk with
    | zero => exact absurd HA.out (by simp [i_count_Least.l0])
    | succ k93 =>
     have H := HA.out
     clear HA
     simp only [i_count_Least.l0] at H
     by_cases c94 : x25_0 < 256
     ·
      rw [if_pos c94] at H
      have c94b0 : decide (x25_0 < 256) = true := decide_eq_true c94
      have hc94 := hid c94
      clear c94
      by_cases c95 : 0 ≤ x25_0
      ·
       rw [if_pos c95] at H
       have c95b0 : decide (0 ≤ x25_0) = true := decide_eq_true c95
       have hc95 := hid c95
       clear c95
       have H' := hid H
       clear H
       go_wp2_with (first
        | ((with_reducible refine gate_d (N := 29) rfl ?_); refine ag_fix (.pointer (some ⟨gb5, x25_0.toNat, none⟩)) (ex_at 114 (.pointer (some ⟨gb5, 0, none⟩)) (.int .i64 x25_0) (.pointer (some ⟨gb5, x25_0.toNat, none⟩)) (fun w_ => (run_atv 3 uT114 sT3.size gb5 0 x25_0 hc95.out hc94.out w_).trans (by simp)) _ _ rfl rfl rfl) rfl ?_)
        | ((with_reducible refine gate_s (t := 3) (p := 29) rfl ?_); refine ag_set sT3 gb5 (x25_0.toNat) (.int .i64 1048576) (av (Value.int .i64) yb5_0_0) (av (Value.int .i64) (yb5_0_0.set x25_0.toNat 1048576)) BKb5.out (by rw [show (av (Value.int .i64) yb5_0_0) = av (Value.int .i64) yb5_0_0 from rfl, av_size]; exact (by have h_ : yb5_0_0.length = 256 := LN_yb5_0_0.out; have h1_ := hc95.out; have h2_ := hc94.out; omega)) rfl rfl (av_set _ _) rfl _ _ rfl rfl rfl ?_; intro w96 ho_ hB_; replace BKb1 := hid (BKb1.out.off ho_ NBb1_b5.out); replace SWt4 := hid (SWt4.out.off ho_ BKb5.out (by decide)); replace HL := hid (ho_.below HL.out GEb5.out); replace BKb5 := hid hB_; clear ho_ hB_))
       (try simp only [Act.put, sI, sZ, sS])
       go_roundg k93
       case measure => have := HK92.out; omega
       case rel => exact ⟨wrap64 (x25_0 + 1), yb5_0_0.set x25_0.toNat 1048576, (by first | rfl | (simp; done) | (simp [*]; done)), H', (hid (by first | omega | (have := HK92.out; omega))), (hid (by first | rfl | (simp only [List.length_set, List.length_replicate, zL_len, List.length_cons, List.length_nil, LN_a0.out, LN_yb5_0_0.out]; done) | (simp [zL_len, LN_a0.out, LN_yb5_0_0.out]; done))), (hid (by exact BKb1.out)), (hid (by exact BKb5.out)), SWt4, HL⟩
      ·
       rw [if_neg c95] at H
       exact absurd H (by simp)
     ·
      rw [if_neg c94] at H
      have c94b0 : decide (x25_0 < 256) = false := decide_eq_false c94
      have hc94 := hid c94
      clear c94
      have H' := hid H
      clear H
      go_wp2_with (first
       | ((with_reducible refine gate_d (N := 31) rfl ?_); refine ag_fix (.pointer (some ⟨gb5, 0, none⟩)) (ex_at 114 (.pointer (some ⟨gb5, 0, none⟩)) (.int .i64 0) (.pointer (some ⟨gb5, 0, none⟩)) (fun w_ => (run_atv 3 uT114 sT3.size gb5 0 0 (by omega) (by omega) w_).trans rfl) _ _ rfl rfl rfl) rfl ?_)
       | ((with_reducible refine gate_s (t := 3) (p := 31) rfl ?_); refine ag_set sT3 gb5 (0) (.int .i64 0) (av (Value.int .i64) yb5_0_0) (av (Value.int .i64) (yb5_0_0.set 0 0)) BKb5.out (by rw [show (av (Value.int .i64) yb5_0_0) = av (Value.int .i64) yb5_0_0 from rfl, av_size]; exact (by have h_ : yb5_0_0.length = 256 := LN_yb5_0_0.out; omega)) rfl rfl (av_set _ _) rfl _ _ rfl rfl rfl ?_; intro w97 ho_ hB_; replace BKb1 := hid (BKb1.out.off ho_ NBb1_b5.out); replace SWt4 := hid (SWt4.out.off ho_ BKb5.out (by decide)); replace HL := hid (ho_.below HL.out GEb5.out); replace BKb5 := hid hB_; clear ho_ hB_))
      (try simp only [Act.put, sI, sZ, sS])
      go_loopg [9] k93 (fun kq v9 w' => ∃ (x9_1 : Int) (yb5_0_1 : List Int), v9 = .int .i64 x9_1 ∧ Hid (i_count_Least.l1 kq a1 t4 x9_1 yb5_0_1 = some (r1, r2)) ∧ Hid (kq ≤ k93) ∧ Hid (yb5_0_1.length = 256) ∧ Hid (Blk w' gb1 44 (bv a0)) ∧ Hid (Blk w' gb5 114 (av (Value.int .i64) yb5_0_1)) ∧ Hid (Own w' w.heap.size 3 (ut4) (t4.map (Value.int .i64))) ∧ Hid (Below w.heap.size w w'))
      case atStart => exact ⟨(1 : Int), yb5_0_0.set 0 0, (by first | rfl | (simp; done) | (simp [*]; done)), H', (hid (by first | omega | (have := HK92.out; omega))), (hid (by first | rfl | (simp only [List.length_set, List.length_replicate, zL_len, List.length_cons, List.length_nil, LN_a0.out, LN_yb5_0_0.out]; done) | (simp [zL_len, LN_a0.out, LN_yb5_0_0.out]; done))), (hid (by exact BKb1.out)), (hid (by exact BKb5.out)), SWt4, HL⟩
      case round =>
       clear H'
       clear HL BKb1 BKb5 SWt4
       obtain ⟨x9_1, yb5_0_1, rfl, HA, HK98, LN_yb5_0_1, BKb1, BKb5, SWt4, HL⟩ := hrel
       cases gk with
       | zero => exact absurd HA.out (by simp [i_count_Least.l1])
       | succ k99 =>
        have H := HA.out
        clear HA
        simp only [i_count_Least.l1] at H
        by_cases c100 : x9_1 < 256
        ·
         rw [if_pos c100] at H
         have c100b0 : decide (x9_1 < 256) = true := decide_eq_true c100
         have hc100 := hid c100
         clear c100
         replace H := Option.bind_eq_some_iff.mp H
         obtain ⟨t51, A101_, H⟩ := H
         have A101 := hid A101_
         clear A101_
         by_cases c102 : t51 > (t4.length : Int)
         ·
          rw [if_pos c102] at H
          have c102b0 : decide ((t4.length : Int) < t51) = true := decide_eq_true c102
          have hc102 := hid c102
          clear c102
          have H' := hid H
          clear H
          have k103 := True.intro
          go_wp2_with (first
           | (go_at_call 69; clear k103; refine (i_bits_OnesCount.calls (IntKind.u64.wrap (x9_1)) t51 _ A101.out).mono ?_; rintro e_ w' ⟨rfl, rfl⟩)
           | ((with_reducible refine gate_d (N := 41) rfl ?_); obtain ⟨A104, c105, hv106⟩ := SWt4.out.sl.shape; rw [List.length_map] at hv106; refine ag_fix (.int .i64 (t4.length : Int)) (ex_len us27 _ _ _ _ hv106 _ rfl rfl) rfl ?_; clear hv106))
          (try simp only [Act.put, sI, sZ, sS])
          go_roundg k99
          case measure => have := HK92.out; have := HK98.out; omega
          case rel => exact ⟨wrap64 (x9_1 + 1), yb5_0_1, (by first | rfl | (simp; done) | (simp [*]; done)), H', (hid (by first | omega | (have := HK92.out; have := HK98.out; omega))), (hid (by first | rfl | (simp only [List.length_set, List.length_replicate, zL_len, List.length_cons, List.length_nil, LN_a0.out, LN_yb5_0_0.out, LN_yb5_0_1.out]; done) | (simp [zL_len, LN_a0.out, LN_yb5_0_0.out, LN_yb5_0_1.out]; done))), (hid (by exact BKb1.out)), (hid (by exact BKb5.out)), SWt4, HL⟩
         ·
          rw [if_neg c102] at H
          have c102b0 : decide ((t4.length : Int) < t51) = false := decide_eq_false c102
          have hc102 := hid c102
          clear c102
          by_cases c107 : 0 ≤ (wrap64 (t51 - 1))
          ·
           rw [if_pos c107] at H
           have c107b0 : decide (0 ≤ (wrap64 (t51 - 1))) = true := decide_eq_true c107
           have hc107 := hid c107
           clear c107
           by_cases c108 : (wrap64 (t51 - 1)) < (t4.length : Int)
           ·
            rw [if_pos c108] at H
            have c108b0 : decide ((wrap64 (t51 - 1)) < (t4.length : Int)) = true := decide_eq_true c108
            have hc108 := hid c108
            clear c108
            have H' := hid H
            clear H
            have k110 := True.intro
            go_wp2_with (first
             | (go_at_call 69; clear k110; refine (i_bits_OnesCount.calls (IntKind.u64.wrap (x9_1)) t51 _ A101.out).mono ?_; rintro e_ w' ⟨rfl, rfl⟩)
             | ((with_reducible refine gate_d (N := 41) rfl ?_); obtain ⟨A111, c112, hv113⟩ := SWt4.out.sl.shape; rw [List.length_map] at hv113; refine ag_fix (.int .i64 (t4.length : Int)) (ex_len us27 _ _ _ _ hv113 _ rfl rfl) rfl ?_; clear hv113)
             | ((with_reducible refine gate_d (N := 47) rfl ?_); obtain ⟨ad52, c114, hv115, HCad52_⟩ := Sl.get (l := t4) (f := (Value.int .i64)) SWt4.out.sl 0 (i := (wrap64 (t51 - 1))) hc107.out hc108.out; have HCad52 := hid HCad52_; clear HCad52_; refine ag_fix (.pointer (some (ad52.add (wrap64 (t51 - 1)).toNat))) (ex_sat _ _ (wrap64 (t51 - 1)) _ _ hv115 hc107.out hc108.out us27 sT3 _ _ rfl rfl rfl) rfl ?_; have HVAad52 := hid hv115; clear hv115)
             | ((with_reducible refine gate_d (N := 48) rfl ?_); refine ag_fix (.int .i64 (nt t4 ((wrap64 (t51 - 1)).toNat) 0)) (ex_scell sT3 _ _ HCad52.out _ rfl rfl) rfl ?_))
            (try simp only [Act.put, sI, sZ, sS])
            have H := H'.out
            clear H'
            replace H := Option.bind_eq_some_iff.mp H
            obtain ⟨t53, A109_, H⟩ := H
            have A109 := hid A109_
            clear A109_
            by_cases c116 : t53 < 0
            ·
             rw [if_pos c116] at H
             have c116b0 : decide (t53 < 0) = true := decide_eq_true c116
             have hc116 := hid c116
             clear c116
             have H' := hid H
             clear H
             have k117 := True.intro
             go_wp2_with (first
              | (go_at_call 70; clear k117; refine (i_count_gone.calls (nt t4 ((wrap64 (t51 - 1)).toNat) 0) a1 t53 _ A109.out).mono ?_; rintro e_ w' ⟨rfl, rfl⟩))
             (try simp only [Act.put, sI, sZ, sS])
             go_roundg k99
             case measure => have := HK92.out; have := HK98.out; omega
             case rel => exact ⟨wrap64 (x9_1 + 1), yb5_0_1, (by first | rfl | (simp; done) | (simp [*]; done)), H', (hid (by first | omega | (have := HK92.out; have := HK98.out; omega))), (hid (by first | rfl | (simp only [List.length_set, List.length_replicate, zL_len, List.length_cons, List.length_nil, LN_a0.out, LN_yb5_0_0.out, LN_yb5_0_1.out]; done) | (simp [zL_len, LN_a0.out, LN_yb5_0_0.out, LN_yb5_0_1.out]; done))), (hid (by exact BKb1.out)), (hid (by exact BKb5.out)), SWt4, HL⟩
            ·
             rw [if_neg c116] at H
             have c116b0 : decide (t53 < 0) = false := decide_eq_false c116
             have hc116 := hid c116
             clear c116
             have H' := hid H
             clear H
             have k119 := True.intro
             go_wp2_with (first
              | (go_at_call 70; clear k119; refine (i_count_gone.calls (nt t4 ((wrap64 (t51 - 1)).toNat) 0) a1 t53 _ A109.out).mono ?_; rintro e_ w' ⟨rfl, rfl⟩)
              | ((with_reducible refine gate_d (N := 57) rfl ?_); obtain ⟨ad54, c120, hv121, HCad54_⟩ := Sl.get (l := t4) (f := (Value.int .i64)) SWt4.out.sl 0 (i := (wrap64 (t51 - 1))) hc107.out hc108.out; have HCad54 := hid HCad54_; clear HCad54_; refine ag_fix (.pointer (some (ad54.add (wrap64 (t51 - 1)).toNat))) (ex_sat _ _ (wrap64 (t51 - 1)) _ _ hv121 hc107.out hc108.out us27 sT3 _ _ rfl rfl rfl) rfl ?_; have HVAad54 := hid hv121; clear hv121)
              | ((with_reducible refine gate_d (N := 58) rfl ?_); refine ag_fix (.int .i64 (nt t4 ((wrap64 (t51 - 1)).toNat) 0)) (ex_scell sT3 _ _ HCad54.out _ rfl rfl) rfl ?_))
             (try simp only [Act.put, sI, sZ, sS])
             have H := H'.out
             clear H'
             replace H := Option.bind_eq_some_iff.mp H
             obtain ⟨t55, A118_, H⟩ := H
             have A118 := hid A118_
             clear A118_
             by_cases c122 : t55 > 5
             ·
              rw [if_pos c122] at H
              have c122b0 : decide (5 < t55) = true := decide_eq_true c122
              have hc122 := hid c122
              clear c122
              have H' := hid H
              clear H
              have k123 := True.intro
              go_wp2_with (first
               | (go_at_call 70; clear k123; refine (i_count_gone.calls (nt t4 ((wrap64 (t51 - 1)).toNat) 0) a1 t55 _ A118.out).mono ?_; rintro e_ w' ⟨rfl, rfl⟩))
              (try simp only [Act.put, sI, sZ, sS])
              go_roundg k99
              case measure => have := HK92.out; have := HK98.out; omega
              case rel => exact ⟨wrap64 (x9_1 + 1), yb5_0_1, (by first | rfl | (simp; done) | (simp [*]; done)), H', (hid (by first | omega | (have := HK92.out; have := HK98.out; omega))), (hid (by first | rfl | (simp only [List.length_set, List.length_replicate, zL_len, List.length_cons, List.length_nil, LN_a0.out, LN_yb5_0_0.out, LN_yb5_0_1.out]; done) | (simp [zL_len, LN_a0.out, LN_yb5_0_0.out, LN_yb5_0_1.out]; done))), (hid (by exact BKb1.out)), (hid (by exact BKb5.out)), SWt4, HL⟩
             ·
              rw [if_neg c122] at H
              have c122b0 : decide (5 < t55) = false := decide_eq_false c122
              have hc122 := hid c122
              clear c122
              have H' := hid H
              clear H
              have k124 := True.intro
              go_wp2_with (first
               | (go_at_call 70; clear k124; refine (i_count_gone.calls (nt t4 ((wrap64 (t51 - 1)).toNat) 0) a1 t55 _ A118.out).mono ?_; rintro e_ w' ⟨rfl, rfl⟩))
              (try simp only [Act.put, sI, sZ, sS])
              go_loopg [63] k99 (fun kq v63 w' => ∃ (x63_2 : Int) (yb5_0_2 : List Int), v63 = .int .i64 x63_2 ∧ Hid (i_count_Least.l2 kq a1 x9_1 t4 t51 x63_2 yb5_0_2 = some (r1, r2)) ∧ Hid (kq ≤ k99) ∧ Hid (yb5_0_2.length = 256) ∧ Hid (Blk w' gb1 44 (bv a0)) ∧ Hid (Blk w' gb5 114 (av (Value.int .i64) yb5_0_2)) ∧ Hid (Own w' w.heap.size 3 (ut4) (t4.map (Value.int .i64))) ∧ Hid (Below w.heap.size w w'))
              case atStart => exact ⟨(0 : Int), yb5_0_1, (by first | rfl | (simp; done) | (simp [*]; done)), H', (hid (by first | omega | (have := HK92.out; have := HK98.out; omega))), (hid (by first | rfl | (simp only [List.length_set, List.length_replicate, zL_len, List.length_cons, List.length_nil, LN_a0.out, LN_yb5_0_0.out, LN_yb5_0_1.out]; done) | (simp [zL_len, LN_a0.out, LN_yb5_0_0.out, LN_yb5_0_1.out]; done))), (hid (by exact BKb1.out)), (hid (by exact BKb5.out)), SWt4, HL⟩
              case round =>
               clear H'
               clear HL BKb1 BKb5 SWt4
               obtain ⟨x63_2, yb5_0_2, rfl, HA, HK125, LN_yb5_0_2, BKb1, BKb5, SWt4, HL⟩ := hrel
               cases gk with
               | zero => exact absurd HA.out (by simp [i_count_Least.l2])
               | succ k126 =>
                have H := HA.out
                clear HA
                simp only [i_count_Least.l2] at H
                by_cases c127 : x63_2 < 8
                ·
                 rw [if_pos c127] at H
                 have c127b0 : decide (x63_2 < 8) = true := decide_eq_true c127
                 have hc127 := hid c127
                 clear c127
                 by_cases c128 : 0 ≤ x63_2
                 ·
                  rw [if_pos c128] at H
                  have c128b0 : decide (0 ≤ x63_2) = true := decide_eq_true c128
                  have hc128 := hid c128
                  clear c128
                  by_cases c129 : x63_2 ≤ 64
                  ·
                   rw [if_pos c129] at H
                   have c129b0 : decide (x63_2 ≤ 64) = true := decide_eq_true c129
                   have hc129 := hid c129
                   clear c129
                   replace H := Option.bind_eq_some_iff.mp H
                   obtain ⟨s60, A130_, H⟩ := H
                   have A130 := hid A130_
                   clear A130_
                   by_cases c131 : (Go.bits .and .i64 s60 1) = 0
                   ·
                    rw [if_pos c131] at H
                    have c131b0 : ((Go.bits .and .i64 s60 1) == 0) = true := beq_iff_eq.mpr c131
                    have c131b1 : ((Go.bits .and .i64 s60 1) != 0) = false := bne_eq_false_iff_eq.mpr c131
                    have hc131 := hid c131
                    clear c131
                    have H' := hid H
                    clear H
                    go_wp2_with (first
                     | ((with_reducible refine gate_d (N := 68) rfl ?_); refine ag_fix (.int .i64 s60) ((ex_shr (k := .i64) (yk := .i64) x9_1 x63_2 hc128.out hc129.out _ _ _ _ rfl rfl rfl).trans (by rw [Option.some.inj A130.out])) rfl ?_))
                    (try simp only [Act.put, sI, sZ, sS])
                    go_roundg k126
                    case measure => have := HK92.out; have := HK98.out; have := HK125.out; omega
                    case rel => exact ⟨wrap64 (x63_2 + 1), yb5_0_2, (by first | rfl | (simp; done) | (simp [*]; done)), H', (hid (by first | omega | (have := HK92.out; have := HK98.out; have := HK125.out; omega))), (hid (by first | rfl | (simp only [List.length_set, List.length_replicate, zL_len, List.length_cons, List.length_nil, LN_a0.out, LN_yb5_0_0.out, LN_yb5_0_1.out, LN_yb5_0_2.out]; done) | (simp [zL_len, LN_a0.out, LN_yb5_0_0.out, LN_yb5_0_1.out, LN_yb5_0_2.out]; done))), (hid (by exact BKb1.out)), (hid (by exact BKb5.out)), SWt4, HL⟩
                   ·
                    rw [if_neg c131] at H
                    have c131b0 : ((Go.bits .and .i64 s60 1) == 0) = false := beq_eq_false_iff_ne.mpr c131
                    have c131b1 : ((Go.bits .and .i64 s60 1) != 0) = true := bne_iff_ne.mpr c131
                    have hc131 := hid c131
                    clear c131
                    by_cases c132 : 0 ≤ x9_1
                    ·
                     rw [if_pos c132] at H
                     have c132b0 : decide (0 ≤ x9_1) = true := decide_eq_true c132
                     have hc132 := hid c132
                     clear c132
                     by_cases c133 : x9_1 < 256
                     ·
                      rw [if_pos c133] at H
                      have c133b0 : decide (x9_1 < 256) = true := decide_eq_true c133
                      have hc133 := hid c133
                      clear c133
                      replace H := Option.bind_eq_some_iff.mp H
                      obtain ⟨s61, A134_, H⟩ := H
                      have A134 := hid A134_
                      clear A134_
                      by_cases c135 : 0 ≤ (Go.bits .andNot .i64 x9_1 s61)
                      ·
                       rw [if_pos c135] at H
                       have c135b0 : decide (0 ≤ (Go.bits .andNot .i64 x9_1 s61)) = true := decide_eq_true c135
                       have hc135 := hid c135
                       clear c135
                       by_cases c136 : (Go.bits .andNot .i64 x9_1 s61) < 256
                       ·
                        rw [if_pos c136] at H
                        have c136b0 : decide ((Go.bits .andNot .i64 x9_1 s61) < 256) = true := decide_eq_true c136
                        have hc136 := hid c136
                        clear c136
                        by_cases c137 : 0 ≤ (wrap64 (t51 - 1))
                        ·
                         rw [if_pos c137] at H
                         have c137b0 : decide (0 ≤ (wrap64 (t51 - 1))) = true := decide_eq_true c137
                         have hc137 := hid c137
                         clear c137
                         by_cases c138 : (wrap64 (t51 - 1)) < (t4.length : Int)
                         ·
                          rw [if_pos c138] at H
                          have c138b0 : decide ((wrap64 (t51 - 1)) < (t4.length : Int)) = true := decide_eq_true c138
                          have hc138 := hid c138
                          clear c138
                          replace H := Option.bind_eq_some_iff.mp H
                          obtain ⟨t63, A139_, H⟩ := H
                          have A139 := hid A139_
                          clear A139_
                          by_cases c140 : (wrap64 ((nt yb5_0_2 ((Go.bits .andNot .i64 x9_1 s61).toNat) 0) + t63)) < (nt yb5_0_2 x9_1.toNat 0)
                          ·
                           rw [if_pos c140] at H
                           have c140b0 : decide ((wrap64 ((nt yb5_0_2 ((Go.bits .andNot .i64 x9_1 s61).toNat) 0) + t63)) < (nt yb5_0_2 x9_1.toNat 0)) = true := decide_eq_true c140
                           have c140b1 : (if (wrap64 ((nt yb5_0_2 ((Go.bits .andNot .i64 x9_1 s61).toNat) 0) + t63)) < (nt yb5_0_2 x9_1.toNat 0) then (wrap64 ((nt yb5_0_2 ((Go.bits .andNot .i64 x9_1 s61).toNat) 0) + t63)) else (nt yb5_0_2 x9_1.toNat 0)) = (wrap64 ((nt yb5_0_2 ((Go.bits .andNot .i64 x9_1 s61).toNat) 0) + t63)) := if_pos c140
                           have c140b2 : min (nt yb5_0_2 x9_1.toNat 0) (wrap64 ((nt yb5_0_2 ((Go.bits .andNot .i64 x9_1 s61).toNat) 0) + t63)) = (wrap64 ((nt yb5_0_2 ((Go.bits .andNot .i64 x9_1 s61).toNat) 0) + t63)) := by omega
                           have hc140 := hid c140
                           clear c140
                           have H' := hid H
                           clear H
                           go_wp2_with (first
                            | ((with_reducible refine gate_d (N := 68) rfl ?_); refine ag_fix (.int .i64 s60) ((ex_shr (k := .i64) (yk := .i64) x9_1 x63_2 hc128.out hc129.out _ _ _ _ rfl rfl rfl).trans (by rw [Option.some.inj A130.out])) rfl ?_))
                           (try simp only [Act.put, sI, sZ, sS])
                           have WR64 := i64_w
                           have WR32 := i32_w
                           have WR8 := u8_w
                           have WRU := u32_w
                           refine sq_region (fun w'_ => Below w.heap.size w w'_ ∧ Blk w'_ gb1 44 (bv a0) ∧ Blk w'_ gb5 114 (av (Value.int .i64) yb5_0_2) ∧ Own w'_ w.heap.size 3 (ut4) (t4.map (Value.int .i64)) ∧ True) [21] [(0, 2), (1, 2), (2, 2), (3, 1), (4, 2), (5, 2), (6, 2), (7, 2), (8, 2), (9, 1), (10, 2), (11, 2), (12, 2), (13, 2), (14, 1), (15, 2), (16, 2), (17, 0), (18, 2), (19, 2), (20, 2), (21, 0)] (by kernel_rfl) (by kernel_rfl) (by kernel_rfl) rfl ?_
                           intro w141 hb_
                           replace BKb1 := hid (BKb1.out.below hb_ BKb1.out.lt)
                           replace BKb5 := hid (BKb5.out.below hb_ BKb5.out.lt)
                           replace SWt4 := hid (SWt4.out.below hb_)
                           replace HL := hid (HL.out.trans (hb_.mono HL.out.size))
                           clear hb_
                           refine sq_pure (.int .i64 x9_1) rfl (fun w'_ => ex_mv (.tmp 9) (.inl rfl) _ rfl) rfl rfl ?_
                           intro ts_ ht_; simp only [sI, sZ, sS] at ht_; subst ht_
                           refine sq_pure (.int .i64 x9_1) rfl (fun w'_ => ex_mv (.tmp 9) (.inl rfl) _ rfl) rfl rfl ?_
                           intro ts_ ht_; simp only [sI, sZ, sS] at ht_; subst ht_
                           refine sq_pure (.pointer (some ⟨gb5, x9_1.toNat, none⟩)) rfl (fun w'_ => ex_at 114 (.pointer (some ⟨gb5, 0, none⟩)) (.int .i64 x9_1) (.pointer (some ⟨gb5, x9_1.toNat, none⟩)) (fun w_ => (run_atv 3 uT114 sT3.size gb5 0 x9_1 hc132.out hc133.out w_).trans (by simp)) _ _ rfl rfl rfl) rfl rfl ?_
                           intro ts_ ht_; simp only [sI, sZ, sS] at ht_; subst ht_
                           refine sq_take (.int .i64 (nt yb5_0_2 x9_1.toNat 0)) ⟨HL.out, BKb1.out, BKb5.out, SWt4.out, trivial⟩ rfl (fun w'_ hS_ => ex_get sT3 gb5 (x9_1.toNat) (.int .i64 (nt yb5_0_2 x9_1.toNat 0)) ((av (Value.int .i64) yb5_0_2)) hS_.2.2.1 (av_get 0 (by have h_ : yb5_0_2.length = 256 := LN_yb5_0_2.out; have h1_ := hc132.out; have h2_ := hc133.out; omega)) _ rfl rfl) rfl rfl ?_
                           intro ts_ ht_; simp only [sI, sZ, sS] at ht_; subst ht_
                           refine sq_pure (.int .i64 x9_1) rfl (fun w'_ => ex_mv (.tmp 9) (.inl rfl) _ rfl) rfl rfl ?_
                           intro ts_ ht_; simp only [sI, sZ, sS] at ht_; subst ht_
                           refine sq_pure (.int .i64 x63_2) rfl (fun w'_ => ex_mv (.tmp 11) (.inl rfl) _ rfl) rfl rfl ?_
                           intro ts_ ht_; simp only [sI, sZ, sS] at ht_; subst ht_
                           refine sq_pure (.int .i64 s61) rfl (fun w'_ => ((ex_shl (k := .i64) (yk := .i64) 1 x63_2 hc128.out hc129.out _ _ _ _ rfl rfl rfl).trans (by rw [i64_w])).trans (by rw [Option.some.inj A134.out])) rfl rfl ?_
                           intro ts_ ht_; simp only [sI, sZ, sS] at ht_; subst ht_
                           refine sq_pure (.int .i64 (Go.bits .andNot .i64 x9_1 s61)) rfl (fun w'_ => by go_simp <;> (unfold wrap64; omega)) rfl rfl ?_
                           intro ts_ ht_; simp only [sI, sZ, sS] at ht_; subst ht_
                           refine sq_pure (.pointer (some ⟨gb5, (Go.bits .andNot .i64 x9_1 s61).toNat, none⟩)) rfl (fun w'_ => ex_at 114 (.pointer (some ⟨gb5, 0, none⟩)) (.int .i64 (Go.bits .andNot .i64 x9_1 s61)) (.pointer (some ⟨gb5, (Go.bits .andNot .i64 x9_1 s61).toNat, none⟩)) (fun w_ => (run_atv 3 uT114 sT3.size gb5 0 (Go.bits .andNot .i64 x9_1 s61) hc135.out hc136.out w_).trans (by simp)) _ _ rfl rfl rfl) rfl rfl ?_
                           intro ts_ ht_; simp only [sI, sZ, sS] at ht_; subst ht_
                           refine sq_take (.int .i64 (nt yb5_0_2 ((Go.bits .andNot .i64 x9_1 s61).toNat) 0)) ⟨HL.out, BKb1.out, BKb5.out, SWt4.out, trivial⟩ rfl (fun w'_ hS_ => ex_get sT3 gb5 ((Go.bits .andNot .i64 x9_1 s61).toNat) (.int .i64 (nt yb5_0_2 ((Go.bits .andNot .i64 x9_1 s61).toNat) 0)) ((av (Value.int .i64) yb5_0_2)) hS_.2.2.1 (av_get 0 (by have h_ : yb5_0_2.length = 256 := LN_yb5_0_2.out; have h1_ := hc135.out; have h2_ := hc136.out; omega)) _ rfl rfl) rfl rfl ?_
                           intro ts_ ht_; simp only [sI, sZ, sS] at ht_; subst ht_
                           refine sq_pure (ut4) rfl (fun w'_ => ex_mv (.tmp 6) (.inl rfl) _ rfl) rfl rfl ?_
                           intro ts_ ht_; simp only [sI, sZ, sS] at ht_; subst ht_
                           refine sq_pure (.int .i64 t51) rfl (fun w'_ => ex_mv (.tmp 10) (.inl rfl) _ rfl) rfl rfl ?_
                           intro ts_ ht_; simp only [sI, sZ, sS] at ht_; subst ht_
                           refine sq_pure (.int .i64 (wrap64 (t51 - 1))) rfl (fun w'_ => by go_simp <;> (unfold wrap64; omega)) rfl rfl ?_
                           intro ts_ ht_; simp only [sI, sZ, sS] at ht_; subst ht_
                           obtain ⟨ad62, c_84, hv_84, _⟩ := Sl.get (l := t4) (f := (Value.int .i64)) SWt4.out.sl 0 (i := (wrap64 (t51 - 1))) hc137.out hc138.out
                           have HV_84 := hid hv_84
                           clear hv_84
                           refine sq_pure (.pointer (some (ad62.add (wrap64 (t51 - 1)).toNat))) rfl (fun w'_ => ex_sat _ _ (wrap64 (t51 - 1)) _ _ HV_84.out hc137.out hc138.out us27 sT3 _ _ rfl rfl rfl) rfl rfl ?_
                           intro ts_ ht_; simp only [sI, sZ, sS] at ht_; subst ht_
                           refine sq_take (.int .i64 (nt t4 ((wrap64 (t51 - 1)).toNat) 0)) ⟨HL.out, BKb1.out, BKb5.out, SWt4.out, trivial⟩ rfl (fun w'_ hS_ => ex_scell sT3 _ _ (Sl.at_ (l := t4) (f := (Value.int .i64)) hS_.2.2.2.1.sl 0 HV_84.out (i := (wrap64 (t51 - 1))) hc137.out hc138.out) _ rfl rfl) rfl rfl ?_
                           intro ts_ ht_; simp only [sI, sZ, sS] at ht_; subst ht_
                           refine sq_pure (.int .i64 a1) rfl (fun w'_ => ex_mv (.tmp 1) (.inl rfl) _ rfl) rfl rfl ?_
                           intro ts_ ht_; simp only [sI, sZ, sS] at ht_; subst ht_
                           refine sq_pure (.int .i64 x63_2) rfl (fun w'_ => ex_mv (.tmp 11) (.inl rfl) _ rfl) rfl rfl ?_
                           intro ts_ ht_; simp only [sI, sZ, sS] at ht_; subst ht_
                           refine sq_act rfl (fun Q'_ hQ_ => ?_)
                           refine wl_call 71 #[.int .i64 (nt t4 ((wrap64 (t51 - 1)).toNat) 0), .int .i64 a1, .int .i64 x63_2] (by go_simp) rfl ((i_count_away.calls (nt t4 ((wrap64 (t51 - 1)).toNat) 0) a1 x63_2 t63 _ A139.out).mono ?_)
                           rintro e_ w' ⟨rfl, rfl⟩
                           refine ⟨_, rfl, ?_⟩
                           refine hQ_ _ _ (fun _ => ⟨HL.out, BKb1.out, BKb5.out, SWt4.out, trivial⟩) ?_
                           clear hQ_ Q'_
                           simp only [Act.put, sI, sZ, sS]
                           refine sq_pure (.int .i64 (wrap64 ((nt yb5_0_2 ((Go.bits .andNot .i64 x9_1 s61).toNat) 0) + t63))) rfl (fun w'_ => by go_simp <;> (unfold wrap64; omega)) rfl rfl ?_
                           intro ts_ ht_; simp only [sI, sZ, sS] at ht_; subst ht_
                           refine sq_pure (.int .i64 (wrap64 ((nt yb5_0_2 ((Go.bits .andNot .i64 x9_1 s61).toNat) 0) + t63))) rfl (fun w'_ => by go_simp <;> (unfold wrap64; omega)) rfl rfl ?_
                           intro ts_ ht_; simp only [sI, sZ, sS] at ht_; subst ht_
                           refine sq_pure (.pointer (some ⟨gb5, x9_1.toNat, none⟩)) rfl (fun w'_ => ex_at 114 (.pointer (some ⟨gb5, 0, none⟩)) (.int .i64 x9_1) (.pointer (some ⟨gb5, x9_1.toNat, none⟩)) (fun w_ => (run_atv 3 uT114 sT3.size gb5 0 x9_1 hc132.out hc133.out w_).trans (by simp)) _ _ rfl rfl rfl) rfl rfl ?_
                           intro ts_ ht_; simp only [sI, sZ, sS] at ht_; subst ht_
                           refine sq_act rfl (fun Q'_ hQ_ => ?_)
                           (with_reducible refine gate_s (t := 3) (p := 91) rfl ?_)
                           refine ag_set sT3 gb5 (x9_1.toNat) (.int .i64 (wrap64 ((nt yb5_0_2 ((Go.bits .andNot .i64 x9_1 s61).toNat) 0) + t63))) (av (Value.int .i64) yb5_0_2) (av (Value.int .i64) (yb5_0_2.set x9_1.toNat (wrap64 ((nt yb5_0_2 ((Go.bits .andNot .i64 x9_1 s61).toNat) 0) + t63)))) BKb5.out (by rw [show (av (Value.int .i64) yb5_0_2) = av (Value.int .i64) yb5_0_2 from rfl, av_size]; exact (by have h_ : yb5_0_2.length = 256 := LN_yb5_0_2.out; have h1_ := hc132.out; have h2_ := hc133.out; omega)) rfl rfl (av_set _ _) rfl _ _ rfl rfl rfl ?_
                           intro w143 ho_ hB_
                           replace BKb1 := hid (BKb1.out.off ho_ NBb1_b5.out)
                           replace SWt4 := hid (SWt4.out.off ho_ BKb5.out (by decide))
                           replace HL := hid (ho_.below HL.out GEb5.out)
                           replace BKb5 := hid hB_
                           clear ho_ hB_
                           refine act_end ?_
                           refine hQ_ _ _ (fun h_ => absurd h_ (by decide)) ?_
                           clear hQ_ Q'_
                           simp only [Act.put]
                           refine sq_end ?_
                           clear WR64 WR32 WR8 WRU
                           go_wp2_with fail
                           (try simp only [Act.put, sI, sZ, sS])
                           go_roundg k126
                           case measure => have := HK92.out; have := HK98.out; have := HK125.out; omega
                           case rel => exact ⟨wrap64 (x63_2 + 1), yb5_0_2.set x9_1.toNat (wrap64 ((nt yb5_0_2 ((Go.bits .andNot .i64 x9_1 s61).toNat) 0) + t63)), (by first | rfl | (simp; done) | (simp [*]; done)), H', (hid (by first | omega | (have := HK92.out; have := HK98.out; have := HK125.out; omega))), (hid (by first | rfl | (simp only [List.length_set, List.length_replicate, zL_len, List.length_cons, List.length_nil, LN_a0.out, LN_yb5_0_0.out, LN_yb5_0_1.out, LN_yb5_0_2.out]; done) | (simp [zL_len, LN_a0.out, LN_yb5_0_0.out, LN_yb5_0_1.out, LN_yb5_0_2.out]; done))), (hid (by exact BKb1.out)), (hid (by exact BKb5.out)), SWt4, HL⟩
                          ·
                           rw [if_neg c140] at H
                           have c140b0 : decide ((wrap64 ((nt yb5_0_2 ((Go.bits .andNot .i64 x9_1 s61).toNat) 0) + t63)) < (nt yb5_0_2 x9_1.toNat 0)) = false := decide_eq_false c140
                           have c140b1 : (if (wrap64 ((nt yb5_0_2 ((Go.bits .andNot .i64 x9_1 s61).toNat) 0) + t63)) < (nt yb5_0_2 x9_1.toNat 0) then (wrap64 ((nt yb5_0_2 ((Go.bits .andNot .i64 x9_1 s61).toNat) 0) + t63)) else (nt yb5_0_2 x9_1.toNat 0)) = (nt yb5_0_2 x9_1.toNat 0) := if_neg c140
                           have c140b2 : min (nt yb5_0_2 x9_1.toNat 0) (wrap64 ((nt yb5_0_2 ((Go.bits .andNot .i64 x9_1 s61).toNat) 0) + t63)) = (nt yb5_0_2 x9_1.toNat 0) := by omega
                           have hc140 := hid c140
                           clear c140
                           have H' := hid H
                           clear H
                           go_wp2_with (first
                            | ((with_reducible refine gate_d (N := 68) rfl ?_); refine ag_fix (.int .i64 s60) ((ex_shr (k := .i64) (yk := .i64) x9_1 x63_2 hc128.out hc129.out _ _ _ _ rfl rfl rfl).trans (by rw [Option.some.inj A130.out])) rfl ?_))
                           (try simp only [Act.put, sI, sZ, sS])
                           have WR64 := i64_w
                           have WR32 := i32_w
                           have WR8 := u8_w
                           have WRU := u32_w
                           refine sq_region (fun w'_ => Below w.heap.size w w'_ ∧ Blk w'_ gb1 44 (bv a0) ∧ Blk w'_ gb5 114 (av (Value.int .i64) yb5_0_2) ∧ Own w'_ w.heap.size 3 (ut4) (t4.map (Value.int .i64)) ∧ True) [21] [(0, 2), (1, 2), (2, 2), (3, 1), (4, 2), (5, 2), (6, 2), (7, 2), (8, 2), (9, 1), (10, 2), (11, 2), (12, 2), (13, 2), (14, 1), (15, 2), (16, 2), (17, 0), (18, 2), (19, 2), (20, 2), (21, 0)] (by kernel_rfl) (by kernel_rfl) (by kernel_rfl) rfl ?_
                           intro w144 hb_
                           replace BKb1 := hid (BKb1.out.below hb_ BKb1.out.lt)
                           replace BKb5 := hid (BKb5.out.below hb_ BKb5.out.lt)
                           replace SWt4 := hid (SWt4.out.below hb_)
                           replace HL := hid (HL.out.trans (hb_.mono HL.out.size))
                           clear hb_
                           refine sq_pure (.int .i64 x9_1) rfl (fun w'_ => ex_mv (.tmp 9) (.inl rfl) _ rfl) rfl rfl ?_
                           intro ts_ ht_; simp only [sI, sZ, sS] at ht_; subst ht_
                           refine sq_pure (.int .i64 x9_1) rfl (fun w'_ => ex_mv (.tmp 9) (.inl rfl) _ rfl) rfl rfl ?_
                           intro ts_ ht_; simp only [sI, sZ, sS] at ht_; subst ht_
                           refine sq_pure (.pointer (some ⟨gb5, x9_1.toNat, none⟩)) rfl (fun w'_ => ex_at 114 (.pointer (some ⟨gb5, 0, none⟩)) (.int .i64 x9_1) (.pointer (some ⟨gb5, x9_1.toNat, none⟩)) (fun w_ => (run_atv 3 uT114 sT3.size gb5 0 x9_1 hc132.out hc133.out w_).trans (by simp)) _ _ rfl rfl rfl) rfl rfl ?_
                           intro ts_ ht_; simp only [sI, sZ, sS] at ht_; subst ht_
                           refine sq_take (.int .i64 (nt yb5_0_2 x9_1.toNat 0)) ⟨HL.out, BKb1.out, BKb5.out, SWt4.out, trivial⟩ rfl (fun w'_ hS_ => ex_get sT3 gb5 (x9_1.toNat) (.int .i64 (nt yb5_0_2 x9_1.toNat 0)) ((av (Value.int .i64) yb5_0_2)) hS_.2.2.1 (av_get 0 (by have h_ : yb5_0_2.length = 256 := LN_yb5_0_2.out; have h1_ := hc132.out; have h2_ := hc133.out; omega)) _ rfl rfl) rfl rfl ?_
                           intro ts_ ht_; simp only [sI, sZ, sS] at ht_; subst ht_
                           refine sq_pure (.int .i64 x9_1) rfl (fun w'_ => ex_mv (.tmp 9) (.inl rfl) _ rfl) rfl rfl ?_
                           intro ts_ ht_; simp only [sI, sZ, sS] at ht_; subst ht_
                           refine sq_pure (.int .i64 x63_2) rfl (fun w'_ => ex_mv (.tmp 11) (.inl rfl) _ rfl) rfl rfl ?_
                           intro ts_ ht_; simp only [sI, sZ, sS] at ht_; subst ht_
                           refine sq_pure (.int .i64 s61) rfl (fun w'_ => ((ex_shl (k := .i64) (yk := .i64) 1 x63_2 hc128.out hc129.out _ _ _ _ rfl rfl rfl).trans (by rw [i64_w])).trans (by rw [Option.some.inj A134.out])) rfl rfl ?_
                           intro ts_ ht_; simp only [sI, sZ, sS] at ht_; subst ht_
                           refine sq_pure (.int .i64 (Go.bits .andNot .i64 x9_1 s61)) rfl (fun w'_ => by go_simp <;> (unfold wrap64; omega)) rfl rfl ?_
                           intro ts_ ht_; simp only [sI, sZ, sS] at ht_; subst ht_
                           refine sq_pure (.pointer (some ⟨gb5, (Go.bits .andNot .i64 x9_1 s61).toNat, none⟩)) rfl (fun w'_ => ex_at 114 (.pointer (some ⟨gb5, 0, none⟩)) (.int .i64 (Go.bits .andNot .i64 x9_1 s61)) (.pointer (some ⟨gb5, (Go.bits .andNot .i64 x9_1 s61).toNat, none⟩)) (fun w_ => (run_atv 3 uT114 sT3.size gb5 0 (Go.bits .andNot .i64 x9_1 s61) hc135.out hc136.out w_).trans (by simp)) _ _ rfl rfl rfl) rfl rfl ?_
                           intro ts_ ht_; simp only [sI, sZ, sS] at ht_; subst ht_
                           refine sq_take (.int .i64 (nt yb5_0_2 ((Go.bits .andNot .i64 x9_1 s61).toNat) 0)) ⟨HL.out, BKb1.out, BKb5.out, SWt4.out, trivial⟩ rfl (fun w'_ hS_ => ex_get sT3 gb5 ((Go.bits .andNot .i64 x9_1 s61).toNat) (.int .i64 (nt yb5_0_2 ((Go.bits .andNot .i64 x9_1 s61).toNat) 0)) ((av (Value.int .i64) yb5_0_2)) hS_.2.2.1 (av_get 0 (by have h_ : yb5_0_2.length = 256 := LN_yb5_0_2.out; have h1_ := hc135.out; have h2_ := hc136.out; omega)) _ rfl rfl) rfl rfl ?_
                           intro ts_ ht_; simp only [sI, sZ, sS] at ht_; subst ht_
                           refine sq_pure (ut4) rfl (fun w'_ => ex_mv (.tmp 6) (.inl rfl) _ rfl) rfl rfl ?_
                           intro ts_ ht_; simp only [sI, sZ, sS] at ht_; subst ht_
                           refine sq_pure (.int .i64 t51) rfl (fun w'_ => ex_mv (.tmp 10) (.inl rfl) _ rfl) rfl rfl ?_
                           intro ts_ ht_; simp only [sI, sZ, sS] at ht_; subst ht_
                           refine sq_pure (.int .i64 (wrap64 (t51 - 1))) rfl (fun w'_ => by go_simp <;> (unfold wrap64; omega)) rfl rfl ?_
                           intro ts_ ht_; simp only [sI, sZ, sS] at ht_; subst ht_
                           obtain ⟨ad62, c_84, hv_84, _⟩ := Sl.get (l := t4) (f := (Value.int .i64)) SWt4.out.sl 0 (i := (wrap64 (t51 - 1))) hc137.out hc138.out
                           have HV_84 := hid hv_84
                           clear hv_84
                           refine sq_pure (.pointer (some (ad62.add (wrap64 (t51 - 1)).toNat))) rfl (fun w'_ => ex_sat _ _ (wrap64 (t51 - 1)) _ _ HV_84.out hc137.out hc138.out us27 sT3 _ _ rfl rfl rfl) rfl rfl ?_
                           intro ts_ ht_; simp only [sI, sZ, sS] at ht_; subst ht_
                           refine sq_take (.int .i64 (nt t4 ((wrap64 (t51 - 1)).toNat) 0)) ⟨HL.out, BKb1.out, BKb5.out, SWt4.out, trivial⟩ rfl (fun w'_ hS_ => ex_scell sT3 _ _ (Sl.at_ (l := t4) (f := (Value.int .i64)) hS_.2.2.2.1.sl 0 HV_84.out (i := (wrap64 (t51 - 1))) hc137.out hc138.out) _ rfl rfl) rfl rfl ?_
                           intro ts_ ht_; simp only [sI, sZ, sS] at ht_; subst ht_
                           refine sq_pure (.int .i64 a1) rfl (fun w'_ => ex_mv (.tmp 1) (.inl rfl) _ rfl) rfl rfl ?_
                           intro ts_ ht_; simp only [sI, sZ, sS] at ht_; subst ht_
                           refine sq_pure (.int .i64 x63_2) rfl (fun w'_ => ex_mv (.tmp 11) (.inl rfl) _ rfl) rfl rfl ?_
                           intro ts_ ht_; simp only [sI, sZ, sS] at ht_; subst ht_
                           refine sq_act rfl (fun Q'_ hQ_ => ?_)
                           refine wl_call 71 #[.int .i64 (nt t4 ((wrap64 (t51 - 1)).toNat) 0), .int .i64 a1, .int .i64 x63_2] (by go_simp) rfl ((i_count_away.calls (nt t4 ((wrap64 (t51 - 1)).toNat) 0) a1 x63_2 t63 _ A139.out).mono ?_)
                           rintro e_ w' ⟨rfl, rfl⟩
                           refine ⟨_, rfl, ?_⟩
                           refine hQ_ _ _ (fun _ => ⟨HL.out, BKb1.out, BKb5.out, SWt4.out, trivial⟩) ?_
                           clear hQ_ Q'_
                           simp only [Act.put, sI, sZ, sS]
                           refine sq_pure (.int .i64 (wrap64 ((nt yb5_0_2 ((Go.bits .andNot .i64 x9_1 s61).toNat) 0) + t63))) rfl (fun w'_ => by go_simp <;> (unfold wrap64; omega)) rfl rfl ?_
                           intro ts_ ht_; simp only [sI, sZ, sS] at ht_; subst ht_
                           refine sq_pure (.int .i64 (nt yb5_0_2 x9_1.toNat 0)) rfl (fun w'_ => by go_simp <;> (unfold wrap64; omega)) rfl rfl ?_
                           intro ts_ ht_; simp only [sI, sZ, sS] at ht_; subst ht_
                           refine sq_pure (.pointer (some ⟨gb5, x9_1.toNat, none⟩)) rfl (fun w'_ => ex_at 114 (.pointer (some ⟨gb5, 0, none⟩)) (.int .i64 x9_1) (.pointer (some ⟨gb5, x9_1.toNat, none⟩)) (fun w_ => (run_atv 3 uT114 sT3.size gb5 0 x9_1 hc132.out hc133.out w_).trans (by simp)) _ _ rfl rfl rfl) rfl rfl ?_
                           intro ts_ ht_; simp only [sI, sZ, sS] at ht_; subst ht_
                           refine sq_act rfl (fun Q'_ hQ_ => ?_)
                           (with_reducible refine gate_s (t := 3) (p := 91) rfl ?_)
                           refine ag_set sT3 gb5 (x9_1.toNat) (.int .i64 (nt yb5_0_2 x9_1.toNat 0)) (av (Value.int .i64) yb5_0_2) (av (Value.int .i64) (yb5_0_2.set x9_1.toNat (nt yb5_0_2 x9_1.toNat 0))) BKb5.out (by rw [show (av (Value.int .i64) yb5_0_2) = av (Value.int .i64) yb5_0_2 from rfl, av_size]; exact (by have h_ : yb5_0_2.length = 256 := LN_yb5_0_2.out; have h1_ := hc132.out; have h2_ := hc133.out; omega)) rfl rfl (av_set _ _) rfl _ _ rfl rfl rfl ?_
                           intro w146 ho_ hB_
                           replace BKb1 := hid (BKb1.out.off ho_ NBb1_b5.out)
                           replace SWt4 := hid (SWt4.out.off ho_ BKb5.out (by decide))
                           replace HL := hid (ho_.below HL.out GEb5.out)
                           replace BKb5 := hid hB_
                           clear ho_ hB_
                           refine act_end ?_
                           refine hQ_ _ _ (fun h_ => absurd h_ (by decide)) ?_
                           clear hQ_ Q'_
                           simp only [Act.put]
                           refine sq_end ?_
                           clear WR64 WR32 WR8 WRU
                           go_wp2_with fail
                           (try simp only [Act.put, sI, sZ, sS])
                           go_roundg k126
                           case measure => have := HK92.out; have := HK98.out; have := HK125.out; omega
                           case rel => exact ⟨wrap64 (x63_2 + 1), yb5_0_2.set x9_1.toNat (nt yb5_0_2 x9_1.toNat 0), (by first | rfl | (simp; done) | (simp [*]; done)), H', (hid (by first | omega | (have := HK92.out; have := HK98.out; have := HK125.out; omega))), (hid (by first | rfl | (simp only [List.length_set, List.length_replicate, zL_len, List.length_cons, List.length_nil, LN_a0.out, LN_yb5_0_0.out, LN_yb5_0_1.out, LN_yb5_0_2.out]; done) | (simp [zL_len, LN_a0.out, LN_yb5_0_0.out, LN_yb5_0_1.out, LN_yb5_0_2.out]; done))), (hid (by exact BKb1.out)), (hid (by exact BKb5.out)), SWt4, HL⟩
                         ·
                          rw [if_neg c138] at H
                          exact absurd H (by simp)
                        ·
                         rw [if_neg c137] at H
                         exact absurd H (by simp)
                       ·
                        rw [if_neg c136] at H
                        exact absurd H (by simp)
                      ·
                       rw [if_neg c135] at H
                       exact absurd H (by simp)
                     ·
                      rw [if_neg c133] at H
                      exact absurd H (by simp)
                    ·
                     rw [if_neg c132] at H
                     exact absurd H (by simp)
                  ·
                   rw [if_neg c129] at H
                   exact absurd H (by simp)
                 ·
                  rw [if_neg c128] at H
                  exact absurd H (by simp)
                ·
                 rw [if_neg c127] at H
                 have c127b0 : decide (x63_2 < 8) = false := decide_eq_false c127
                 have hc127 := hid c127
                 clear c127
                 have H' := hid H
                 clear H
                 go_wp2_with fail
                 (try simp only [Act.put, sI, sZ, sS])
                 go_roundg k126
                 case measure => have := HK92.out; have := HK98.out; have := HK125.out; omega
                 case rel => exact ⟨wrap64 (x9_1 + 1), yb5_0_2, (by first | rfl | (simp; done) | (simp [*]; done)), H', (hid (by first | omega | (have := HK92.out; have := HK98.out; have := HK125.out; omega))), (hid (by first | rfl | (simp only [List.length_set, List.length_replicate, zL_len, List.length_cons, List.length_nil, LN_a0.out, LN_yb5_0_0.out, LN_yb5_0_1.out, LN_yb5_0_2.out]; done) | (simp [zL_len, LN_a0.out, LN_yb5_0_0.out, LN_yb5_0_1.out, LN_yb5_0_2.out]; done))), (hid (by exact BKb1.out)), (hid (by exact BKb5.out)), SWt4, HL⟩
           ·
            rw [if_neg c108] at H
            exact absurd H (by simp)
          ·
           rw [if_neg c107] at H
           exact absurd H (by simp)
        ·
         rw [if_neg c100] at H
         have c100b0 : decide (x9_1 < 256) = false := decide_eq_false c100
         have hc100 := hid c100
         clear c100
         have H' := hid H
         clear H
         go_wp2_with fail
         (try simp only [Act.put, sI, sZ, sS])
         go_loopg [12, 93] k99 (fun kq v12 v93 w' => ∃ (x12_3 : Int) (x93_3 : Int), v12 = .int .i64 x12_3 ∧ v93 = .int .i64 x93_3 ∧ Hid (i_count_Least.l3 kq yb5_0_1 t4 x12_3 x93_3 = some (r1, r2)) ∧ Hid (kq ≤ k99) ∧ Hid (Blk w' gb1 44 (bv a0)) ∧ Hid (Blk w' gb5 114 (av (Value.int .i64) yb5_0_1)) ∧ Hid (Own w' w.heap.size 3 (ut4) (t4.map (Value.int .i64))) ∧ Hid (Below w.heap.size w w'))
         case atStart => exact ⟨(1048576 : Int), (0 : Int), (by first | rfl | (simp; done) | (simp [*]; done)), (by first | rfl | (simp; done) | (simp [*]; done)), H', (hid (by first | omega | (have := HK92.out; have := HK98.out; omega))), (hid (by exact BKb1.out)), (hid (by exact BKb5.out)), SWt4, HL⟩
         case round =>
          clear H'
          clear HL BKb1 BKb5 SWt4
          obtain ⟨x12_3, x93_3, rfl, rfl, HA, HK147, BKb1, BKb5, SWt4, HL⟩ := hrel
          cases gk with
          | zero => exact absurd HA.out (by simp [i_count_Least.l3])
          | succ k148 =>
           have H := HA.out
           clear HA
           simp only [i_count_Least.l3] at H
           by_cases c149 : x93_3 < 256
           ·
            rw [if_pos c149] at H
            have c149b0 : decide (x93_3 < 256) = true := decide_eq_true c149
            have hc149 := hid c149
            clear c149
            replace H := Option.bind_eq_some_iff.mp H
            obtain ⟨t65, A150_, H⟩ := H
            have A150 := hid A150_
            clear A150_
            by_cases c151 : t65 = (t4.length : Int)
            ·
             rw [if_pos c151] at H
             have c151b0 : (t65 == (t4.length : Int)) = true := beq_iff_eq.mpr c151
             have c151b1 : (t65 != (t4.length : Int)) = false := bne_eq_false_iff_eq.mpr c151
             have hc151 := hid c151
             clear c151
             by_cases c152 : 0 ≤ x93_3
             ·
              rw [if_pos c152] at H
              have c152b0 : decide (0 ≤ x93_3) = true := decide_eq_true c152
              have hc152 := hid c152
              clear c152
              by_cases c153 : (nt yb5_0_1 x93_3.toNat 0) < x12_3
              ·
               rw [if_pos c153] at H
               have c153b0 : decide ((nt yb5_0_1 x93_3.toNat 0) < x12_3) = true := decide_eq_true c153
               have c153b1 : (if (nt yb5_0_1 x93_3.toNat 0) < x12_3 then (nt yb5_0_1 x93_3.toNat 0) else x12_3) = (nt yb5_0_1 x93_3.toNat 0) := if_pos c153
               have c153b2 : min x12_3 (nt yb5_0_1 x93_3.toNat 0) = (nt yb5_0_1 x93_3.toNat 0) := by omega
               have hc153 := hid c153
               clear c153
               have H' := hid H
               clear H
               have k154 := True.intro
               go_wp2_with (first
                | (go_at_call 69; clear k154; refine (i_bits_OnesCount.calls (IntKind.u64.wrap (x93_3)) t65 _ A150.out).mono ?_; rintro e_ w' ⟨rfl, rfl⟩)
                | ((with_reducible refine gate_d (N := 100) rfl ?_); obtain ⟨A155, c156, hv157⟩ := SWt4.out.sl.shape; rw [List.length_map] at hv157; refine ag_fix (.int .i64 (t4.length : Int)) (ex_len us27 _ _ _ _ hv157 _ rfl rfl) rfl ?_; clear hv157)
                | ((with_reducible refine gate_d (N := 104) rfl ?_); refine ag_fix (.pointer (some ⟨gb5, x93_3.toNat, none⟩)) (ex_at 114 (.pointer (some ⟨gb5, 0, none⟩)) (.int .i64 x93_3) (.pointer (some ⟨gb5, x93_3.toNat, none⟩)) (fun w_ => (run_atv 3 uT114 sT3.size gb5 0 x93_3 hc152.out hc149.out w_).trans (by simp)) _ _ rfl rfl rfl) rfl ?_)
                | ((with_reducible refine gate_d (N := 105) rfl ?_); refine ag_fix (.int .i64 (nt yb5_0_1 x93_3.toNat 0)) (ex_get sT3 gb5 (x93_3.toNat) (.int .i64 (nt yb5_0_1 x93_3.toNat 0)) ((av (Value.int .i64) yb5_0_1)) BKb5.out (av_get 0 (by have h_ : yb5_0_1.length = 256 := LN_yb5_0_1.out; have h1_ := hc152.out; have h2_ := hc149.out; omega)) _ rfl rfl) rfl ?_))
               (try simp only [Act.put, sI, sZ, sS])
               go_roundg k148
               case measure => have := HK92.out; have := HK98.out; have := HK147.out; omega
               case rel => exact ⟨nt yb5_0_1 x93_3.toNat 0, wrap64 (x93_3 + 1), (by first | rfl | (simp; done) | (simp [*]; done)), (by first | rfl | (simp; done) | (simp [*]; done)), H', (hid (by first | omega | (have := HK92.out; have := HK98.out; have := HK147.out; omega))), (hid (by exact BKb1.out)), (hid (by exact BKb5.out)), SWt4, HL⟩
              ·
               rw [if_neg c153] at H
               have c153b0 : decide ((nt yb5_0_1 x93_3.toNat 0) < x12_3) = false := decide_eq_false c153
               have c153b1 : (if (nt yb5_0_1 x93_3.toNat 0) < x12_3 then (nt yb5_0_1 x93_3.toNat 0) else x12_3) = x12_3 := if_neg c153
               have c153b2 : min x12_3 (nt yb5_0_1 x93_3.toNat 0) = x12_3 := by omega
               have hc153 := hid c153
               clear c153
               have H' := hid H
               clear H
               have k158 := True.intro
               go_wp2_with (first
                | (go_at_call 69; clear k158; refine (i_bits_OnesCount.calls (IntKind.u64.wrap (x93_3)) t65 _ A150.out).mono ?_; rintro e_ w' ⟨rfl, rfl⟩)
                | ((with_reducible refine gate_d (N := 100) rfl ?_); obtain ⟨A159, c160, hv161⟩ := SWt4.out.sl.shape; rw [List.length_map] at hv161; refine ag_fix (.int .i64 (t4.length : Int)) (ex_len us27 _ _ _ _ hv161 _ rfl rfl) rfl ?_; clear hv161)
                | ((with_reducible refine gate_d (N := 104) rfl ?_); refine ag_fix (.pointer (some ⟨gb5, x93_3.toNat, none⟩)) (ex_at 114 (.pointer (some ⟨gb5, 0, none⟩)) (.int .i64 x93_3) (.pointer (some ⟨gb5, x93_3.toNat, none⟩)) (fun w_ => (run_atv 3 uT114 sT3.size gb5 0 x93_3 hc152.out hc149.out w_).trans (by simp)) _ _ rfl rfl rfl) rfl ?_)
                | ((with_reducible refine gate_d (N := 105) rfl ?_); refine ag_fix (.int .i64 (nt yb5_0_1 x93_3.toNat 0)) (ex_get sT3 gb5 (x93_3.toNat) (.int .i64 (nt yb5_0_1 x93_3.toNat 0)) ((av (Value.int .i64) yb5_0_1)) BKb5.out (av_get 0 (by have h_ : yb5_0_1.length = 256 := LN_yb5_0_1.out; have h1_ := hc152.out; have h2_ := hc149.out; omega)) _ rfl rfl) rfl ?_))
               (try simp only [Act.put, sI, sZ, sS])
               go_roundg k148
               case measure => have := HK92.out; have := HK98.out; have := HK147.out; omega
               case rel => exact ⟨x12_3, wrap64 (x93_3 + 1), (by first | rfl | (simp; done) | (simp [*]; done)), (by first | rfl | (simp; done) | (simp [*]; done)), H', (hid (by first | omega | (have := HK92.out; have := HK98.out; have := HK147.out; omega))), (hid (by exact BKb1.out)), (hid (by exact BKb5.out)), SWt4, HL⟩
             ·
              rw [if_neg c152] at H
              exact absurd H (by simp)
            ·
             rw [if_neg c151] at H
             have c151b0 : (t65 == (t4.length : Int)) = false := beq_eq_false_iff_ne.mpr c151
             have c151b1 : (t65 != (t4.length : Int)) = true := bne_iff_ne.mpr c151
             have hc151 := hid c151
             clear c151
             have H' := hid H
             clear H
             have k162 := True.intro
             go_wp2_with (first
              | (go_at_call 69; clear k162; refine (i_bits_OnesCount.calls (IntKind.u64.wrap (x93_3)) t65 _ A150.out).mono ?_; rintro e_ w' ⟨rfl, rfl⟩)
              | ((with_reducible refine gate_d (N := 100) rfl ?_); obtain ⟨A163, c164, hv165⟩ := SWt4.out.sl.shape; rw [List.length_map] at hv165; refine ag_fix (.int .i64 (t4.length : Int)) (ex_len us27 _ _ _ _ hv165 _ rfl rfl) rfl ?_; clear hv165))
             (try simp only [Act.put, sI, sZ, sS])
             go_roundg k148
             case measure => have := HK92.out; have := HK98.out; have := HK147.out; omega
             case rel => exact ⟨x12_3, wrap64 (x93_3 + 1), (by first | rfl | (simp; done) | (simp [*]; done)), (by first | rfl | (simp; done) | (simp [*]; done)), H', (hid (by first | omega | (have := HK92.out; have := HK98.out; have := HK147.out; omega))), (hid (by exact BKb1.out)), (hid (by exact BKb5.out)), SWt4, HL⟩
           ·
            rw [if_neg c149] at H
            have c149b0 : decide (x93_3 < 256) = false := decide_eq_false c149
            have hc149 := hid c149
            clear c149
            by_cases c166 : x12_3 ≥ 1048576
            ·
             rw [if_pos c166] at H
             have c166b0 : decide (1048576 ≤ x12_3) = true := decide_eq_true c166
             have hc166 := hid c166
             clear c166
             simp only [Option.some.injEq, Prod.mk.injEq] at H
             obtain ⟨rfl, rfl⟩ := H
             go_wp2_with fail
             (try simp only [Act.put, sI, sZ, sS])
             go_ret2
             exact ⟨by first | rfl | (simp; done) | (simp [*]; done), HL.out⟩
            ·
             rw [if_neg c166] at H
             have c166b0 : decide (1048576 ≤ x12_3) = false := decide_eq_false c166
             have hc166 := hid c166
             clear c166
             simp only [Option.some.injEq, Prod.mk.injEq] at H
             obtain ⟨rfl, rfl⟩ := H
             go_wp2_with fail
             (try simp only [Act.put, sI, sZ, sS])
             go_ret2
             exact ⟨by first | rfl | (simp; done) | (simp [*]; done), HL.out⟩
 | false =>
  rw [if_neg (show ¬ (false = true) by decide)] at H
  simp only [Option.some.injEq, Prod.mk.injEq] at H
  obtain ⟨rfl, rfl⟩ := H
  go_enter Try.func40, Try.ntmps40
  have k168 := True.intro
  go_wp2_with (first
   | ((with_reducible refine gate_d (N := 2) rfl ?_); obtain ⟨gb1, hgb1⟩ : ∃ g_, w.heap.size = g_ := ⟨_, rfl⟩; refine ag_box (bv a0) gb1 hgb1 rfl _ rfl rfl ?_; intro w167 hb_ hB_ hs_; have GEb1 : Hid (w.heap.size ≤ gb1) := hid (by have := HL.out.size; omega); replace HL := hid (HL.out.trans (hb_.mono GEb1.out)); have BKb1 := hid hB_; clear hb_ hB_ hs_ hgb1)
   | ((with_reducible refine gate_d (N := 14) rfl ?_); refine ag_fix (.agg (bv a0)) (ex_load boardT gb1 0 (bv a0) (bv a0) BKb1.out (av_le LN_a0.out) (av_ex LN_a0.out) _ rfl rfl) rfl ?_)
   | (go_at_call 66; clear k168; refine (i_count_known.calls k a0 a1 LN_a0.out false _ A66.out).mono ?_; rintro e_ w169 ⟨rfl, hb_⟩; replace BKb1 := hid (BKb1.out.below hb_ BKb1.out.lt); replace HL := hid (HL.out.trans (hb_.mono HL.out.size)); clear hb_))
  (try simp only [Act.put, sI, sZ, sS])
  go_ret2
  exact ⟨by first | rfl | (simp; done) | (simp [*]; done), HL.out⟩
def i_board_rim.l0 : Nat → List Int → Int → Option (Bool)
  | 0, _, _ => none
  | k + 1, a0, x7_0 => if x7_0 < 64 then (if 0 ≤ x7_0 then ((i_square_Rank.f x7_0).bind fun t4 => ((i_men_Kind.f (wrap64 (nt a0 x7_0.toNat 0))).bind fun t5 => (if t5 = 1 then (if t4 = 0 then (some true) else (if t4 = 7 then (some true) else (i_board_rim.l0 k a0 (wrap64 (x7_0 + 1))))) else (i_board_rim.l0 k a0 (wrap64 (x7_0 + 1)))))) else (none)) else (some false)
def i_board_rim.f (k : Nat) (a0 : List Int) : Option (Bool) := i_board_rim.l0 k a0 0
set_option maxHeartbeats 40000000 in
set_option maxRecDepth 100000 in
theorem i_board_rim.calls (k : Nat) (a0 : List Int) (hla0 : a0.length = 64) (r1 : Bool) (w : World) (h : i_board_rim.f k a0 = some r1) :
    Calls Try.prog 100 #[.agg (bv a0)] w fun e w' => e = .returned (.bool r1) ∧ Below w.heap.size w w' := by
 have LN_a0 := hid hla0
 clear hla0
 have HL := hid (Below.refl w.heap.size w)
 have H : (i_board_rim.l0 k a0 0) = some r1 := h
 clear h
 have H' := hid H
 clear H
 go_enter Try.func100, Try.ntmps100
 go_wp2_with (first
  | ((with_reducible refine gate_d (N := 1) rfl ?_); obtain ⟨gb1, hgb1⟩ : ∃ g_, w.heap.size = g_ := ⟨_, rfl⟩; refine ag_box (bv a0) gb1 hgb1 rfl _ rfl rfl ?_; intro w6 hb_ hB_ hs_; have GEb1 : Hid (w.heap.size ≤ gb1) := hid (by have := HL.out.size; omega); replace HL := hid (HL.out.trans (hb_.mono GEb1.out)); have BKb1 := hid hB_; clear hb_ hB_ hs_ hgb1)
  | ((with_reducible refine gate_d (N := 6) rfl ?_); refine ag_fix (.agg (bv a0)) (ex_load boardT gb1 0 (bv a0) (bv a0) BKb1.out (av_le LN_a0.out) (av_ex LN_a0.out) _ rfl rfl) rfl ?_))
 (try simp only [Act.put, sI, sZ, sS])
 go_loopg [7] k (fun kq v7 w' => ∃ (x7_0 : Int), v7 = .int .i64 x7_0 ∧ Hid (i_board_rim.l0 kq a0 x7_0 = some r1) ∧ Hid (kq ≤ k) ∧ Hid (Blk w' gb1 44 (bv a0)) ∧ Hid (Below w.heap.size w w'))
 case atStart => exact ⟨(0 : Int), (by first | rfl | (simp; done) | (simp [*]; done)), H', (hid (by first | omega | (omega))), (hid (by exact BKb1.out)), HL⟩
 case round =>
  clear H'
  clear HL BKb1
  obtain ⟨x7_0, rfl, HA, HK7, BKb1, HL⟩ := hrel
  cases gk with
  | zero => exact absurd HA.out (by simp [i_board_rim.l0])
  | succ k8 =>
   have H := HA.out
   clear HA
   simp only [i_board_rim.l0] at H
   by_cases c9 : x7_0 < 64
   ·
    rw [if_pos c9] at H
    have c9b0 : decide (x7_0 < 64) = true := decide_eq_true c9
    have hc9 := hid c9
    clear c9
    by_cases c10 : 0 ≤ x7_0
    ·
     rw [if_pos c10] at H
     have c10b0 : decide (0 ≤ x7_0) = true := decide_eq_true c10
     have hc10 := hid c10
     clear c10
     replace H := Option.bind_eq_some_iff.mp H
     obtain ⟨t4, A11_, H⟩ := H
     have A11 := hid A11_
     clear A11_
     have H' := hid H
     clear H
     have k13 := True.intro
     go_wp2_with (first
      | ((with_reducible refine gate_d (N := 10) rfl ?_); refine ag_fix (.int .i8 (nt a0 x7_0.toNat 0)) (ex_ix 44 (.agg (bv a0)) (.int .i64 x7_0) (.int .i8 (nt a0 x7_0.toNat 0)) (fun w_ => run_ixv 42 uT44 sT42 a0 LN_a0.out 0 x7_0 hc10.out hc9.out w_) _ _ rfl rfl rfl) rfl ?_)
      | (go_at_call 103; clear k13; refine (i_square_Rank.calls x7_0 t4 _ A11.out).mono ?_; rintro e_ w' ⟨rfl, rfl⟩))
     (try simp only [Act.put, sI, sZ, sS])
     have H := H'.out
     clear H'
     replace H := Option.bind_eq_some_iff.mp H
     obtain ⟨t5, A12_, H⟩ := H
     have A12 := hid A12_
     clear A12_
     by_cases c14 : t5 = 1
     ·
      rw [if_pos c14] at H
      have c14b0 : (t5 == 1) = true := beq_iff_eq.mpr c14
      have c14b1 : (t5 != 1) = false := bne_eq_false_iff_eq.mpr c14
      have hc14 := hid c14
      clear c14
      by_cases c15 : t4 = 0
      ·
       rw [if_pos c15] at H
       have c15b0 : (t4 == 0) = true := beq_iff_eq.mpr c15
       have c15b1 : (t4 != 0) = false := bne_eq_false_iff_eq.mpr c15
       have hc15 := hid c15
       clear c15
       obtain rfl := Option.some.inj H
       clear H
       have k16 := True.intro
       go_wp2_with (first
        | (go_at_call 88; clear k16; refine (i_men_Kind.calls (wrap64 (nt a0 x7_0.toNat 0)) t5 _ A12.out).mono ?_; rintro e_ w' ⟨rfl, rfl⟩))
       (try simp only [Act.put, sI, sZ, sS])
       go_ret
       exact ⟨by first | rfl | (simp; done) | (simp [*]; done), HL.out⟩
      ·
       rw [if_neg c15] at H
       have c15b0 : (t4 == 0) = false := beq_eq_false_iff_ne.mpr c15
       have c15b1 : (t4 != 0) = true := bne_iff_ne.mpr c15
       have hc15 := hid c15
       clear c15
       by_cases c17 : t4 = 7
       ·
        rw [if_pos c17] at H
        have c17b0 : (t4 == 7) = true := beq_iff_eq.mpr c17
        have c17b1 : (t4 != 7) = false := bne_eq_false_iff_eq.mpr c17
        have hc17 := hid c17
        clear c17
        obtain rfl := Option.some.inj H
        clear H
        have k18 := True.intro
        go_wp2_with (first
         | (go_at_call 88; clear k18; refine (i_men_Kind.calls (wrap64 (nt a0 x7_0.toNat 0)) t5 _ A12.out).mono ?_; rintro e_ w' ⟨rfl, rfl⟩))
        (try simp only [Act.put, sI, sZ, sS])
        go_ret
        exact ⟨by first | rfl | (simp; done) | (simp [*]; done), HL.out⟩
       ·
        rw [if_neg c17] at H
        have c17b0 : (t4 == 7) = false := beq_eq_false_iff_ne.mpr c17
        have c17b1 : (t4 != 7) = true := bne_iff_ne.mpr c17
        have hc17 := hid c17
        clear c17
        have H' := hid H
        clear H
        have k19 := True.intro
        go_wp2_with (first
         | (go_at_call 88; clear k19; refine (i_men_Kind.calls (wrap64 (nt a0 x7_0.toNat 0)) t5 _ A12.out).mono ?_; rintro e_ w' ⟨rfl, rfl⟩))
        (try simp only [Act.put, sI, sZ, sS])
        go_roundg k8
        case measure => have := HK7.out; omega
        case rel => exact ⟨wrap64 (x7_0 + 1), (by first | rfl | (simp; done) | (simp [*]; done)), H', (hid (by first | omega | (have := HK7.out; omega))), (hid (by exact BKb1.out)), HL⟩
     ·
      rw [if_neg c14] at H
      have c14b0 : (t5 == 1) = false := beq_eq_false_iff_ne.mpr c14
      have c14b1 : (t5 != 1) = true := bne_iff_ne.mpr c14
      have hc14 := hid c14
      clear c14
      have H' := hid H
      clear H
      have k20 := True.intro
      go_wp2_with (first
       | (go_at_call 88; clear k20; refine (i_men_Kind.calls (wrap64 (nt a0 x7_0.toNat 0)) t5 _ A12.out).mono ?_; rintro e_ w' ⟨rfl, rfl⟩))
      (try simp only [Act.put, sI, sZ, sS])
      go_roundg k8
      case measure => have := HK7.out; omega
      case rel => exact ⟨wrap64 (x7_0 + 1), (by first | rfl | (simp; done) | (simp [*]; done)), H', (hid (by first | omega | (have := HK7.out; omega))), (hid (by exact BKb1.out)), HL⟩
    ·
     rw [if_neg c10] at H
     exact absurd H (by simp)
   ·
    rw [if_neg c9] at H
    have c9b0 : decide (x7_0 < 64) = false := decide_eq_false c9
    have hc9 := hid c9
    clear c9
    obtain rfl := Option.some.inj H
    clear H
    go_wp2_with fail
    (try simp only [Act.put, sI, sZ, sS])
    go_ret
    exact ⟨by first | rfl | (simp; done) | (simp [*]; done), HL.out⟩
def i_board_Wrong.f (k : Nat) (a0 : List Int) : Option (Int) := (i_board_Right.f k a0).bind fun t2 => (if t2 = true then (if a0 = zL then (some 6) else ((i_board_Many.f k a0 6 0).bind fun t3 => (if t3 = 1 then ((i_board_Many.f k a0 6 1).bind fun t4 => (if t4 = 1 then ((i_board_rim.f k a0).bind fun t5 => (if t5 = true then (some 7) else ((i_board_Many.f k a0 0 0).bind fun t6 => (if t6 > 16 then (some 8) else ((i_board_Many.f k a0 0 1).bind fun t7 => (if t7 > 16 then (some 8) else (some 0))))))) else (some 6))) else (some 6)))) else (some 5))
set_option maxHeartbeats 40000000 in
set_option maxRecDepth 100000 in
theorem i_board_Wrong.calls (k : Nat) (a0 : List Int) (hla0 : a0.length = 64) (r1 : Int) (w : World) (h : i_board_Wrong.f k a0 = some r1) :
    Calls Try.prog 60 #[.agg (bv a0)] w fun e w' => e = .returned (.int .i64 r1) ∧ Below w.heap.size w w' := by
 have LN_a0 := hid hla0
 clear hla0
 have HL := hid (Below.refl w.heap.size w)
 have H : ((i_board_Right.f k a0).bind fun t2 => (if t2 = true then (if a0 = zL then (some 6) else ((i_board_Many.f k a0 6 0).bind fun t3 => (if t3 = 1 then ((i_board_Many.f k a0 6 1).bind fun t4 => (if t4 = 1 then ((i_board_rim.f k a0).bind fun t5 => (if t5 = true then (some 7) else ((i_board_Many.f k a0 0 0).bind fun t6 => (if t6 > 16 then (some 8) else ((i_board_Many.f k a0 0 1).bind fun t7 => (if t7 > 16 then (some 8) else (some 0))))))) else (some 6))) else (some 6)))) else (some 5))) = some r1 := h
 clear h
 replace H := Option.bind_eq_some_iff.mp H
 obtain ⟨t2, A8_, H⟩ := H
 have A8 := hid A8_
 clear A8_
 cases t2 with
 | true =>
  rw [if_pos rfl] at H
  by_cases c10 : a0 = zL
  ·
   rw [if_pos c10] at H
   have c10b0 : (a0 == zL) = true := beq_iff_eq.mpr c10
   have c10b1 : (a0 != zL) = false := bne_eq_false_iff_eq.mpr c10
   have hc10 := hid c10
   clear c10
   obtain rfl := Option.some.inj H
   clear H
   go_enter Try.func60, Try.ntmps60
   have k12 := True.intro
   go_wp2_with (first
    | ((with_reducible refine gate_d (N := 1) rfl ?_); obtain ⟨gb1, hgb1⟩ : ∃ g_, w.heap.size = g_ := ⟨_, rfl⟩; refine ag_box (bv a0) gb1 hgb1 rfl _ rfl rfl ?_; intro w11 hb_ hB_ hs_; have GEb1 : Hid (w.heap.size ≤ gb1) := hid (by have := HL.out.size; omega); replace HL := hid (HL.out.trans (hb_.mono GEb1.out)); have BKb1 := hid hB_; clear hb_ hB_ hs_ hgb1)
    | ((with_reducible refine gate_d (N := 4) rfl ?_); refine ag_fix (.agg (bv a0)) (ex_load boardT gb1 0 (bv a0) (bv a0) BKb1.out (av_le LN_a0.out) (av_ex LN_a0.out) _ rfl rfl) rfl ?_)
    | (go_at_call 99; clear k12; refine (i_board_Right.calls k a0 LN_a0.out true _ A8.out).mono ?_; rintro e_ w13 ⟨rfl, hb_⟩; replace BKb1 := hid (BKb1.out.below hb_ BKb1.out.lt); replace HL := hid (HL.out.trans (hb_.mono HL.out.size)); clear hb_)
    | ((with_reducible refine gate_d (N := 8) rfl ?_); refine ag_fix (.agg (bv a0)) (ex_load boardT gb1 0 (bv a0) (bv a0) BKb1.out (av_le LN_a0.out) (av_ex LN_a0.out) _ rfl rfl) rfl ?_)
    | ((with_reducible refine gate_d (N := 9) rfl ?_); refine ag_build (.agg (bv zL)) _ rfl rfl ?_ ?_; (intro ww_; kernel_rfl))
    | ((with_reducible refine gate_d (N := 10) rfl ?_); refine ag_fix (.bool true) (ex_eq .eql 44 (.agg (bv a0)) (.agg (bv zL)) (.bool true) (fun x_ y_ w_ => run_guard _ x_ y_ _ _ w_) (fun w_ => (eql_board a0 zL LN_a0.out zL_len w_).trans (by first | (rw [decide_eq_true hc10.out]; done) | (rw [decide_eq_true hc10.out]; rfl))) _ _ _ rfl rfl rfl) rfl ?_))
   (try simp only [Act.put, sI, sZ, sS])
   go_ret
   exact ⟨by first | rfl | (simp; done) | (simp [*]; done), HL.out⟩
  ·
   rw [if_neg c10] at H
   have c10b0 : (a0 == zL) = false := beq_eq_false_iff_ne.mpr c10
   have c10b1 : (a0 != zL) = true := bne_iff_ne.mpr c10
   have hc10 := hid c10
   clear c10
   have H' := hid H
   clear H
   go_enter Try.func60, Try.ntmps60
   have k16 := True.intro
   go_wp2_with (first
    | ((with_reducible refine gate_d (N := 1) rfl ?_); obtain ⟨gb1, hgb1⟩ : ∃ g_, w.heap.size = g_ := ⟨_, rfl⟩; refine ag_box (bv a0) gb1 hgb1 rfl _ rfl rfl ?_; intro w15 hb_ hB_ hs_; have GEb1 : Hid (w.heap.size ≤ gb1) := hid (by have := HL.out.size; omega); replace HL := hid (HL.out.trans (hb_.mono GEb1.out)); have BKb1 := hid hB_; clear hb_ hB_ hs_ hgb1)
    | ((with_reducible refine gate_d (N := 4) rfl ?_); refine ag_fix (.agg (bv a0)) (ex_load boardT gb1 0 (bv a0) (bv a0) BKb1.out (av_le LN_a0.out) (av_ex LN_a0.out) _ rfl rfl) rfl ?_)
    | (go_at_call 99; clear k16; refine (i_board_Right.calls k a0 LN_a0.out true _ A8.out).mono ?_; rintro e_ w17 ⟨rfl, hb_⟩; replace BKb1 := hid (BKb1.out.below hb_ BKb1.out.lt); replace HL := hid (HL.out.trans (hb_.mono HL.out.size)); clear hb_)
    | ((with_reducible refine gate_d (N := 8) rfl ?_); refine ag_fix (.agg (bv a0)) (ex_load boardT gb1 0 (bv a0) (bv a0) BKb1.out (av_le LN_a0.out) (av_ex LN_a0.out) _ rfl rfl) rfl ?_)
    | ((with_reducible refine gate_d (N := 9) rfl ?_); refine ag_build (.agg (bv zL)) _ rfl rfl ?_ ?_; (intro ww_; kernel_rfl))
    | ((with_reducible refine gate_d (N := 10) rfl ?_); refine ag_fix (.bool false) (ex_eq .eql 44 (.agg (bv a0)) (.agg (bv zL)) (.bool false) (fun x_ y_ w_ => run_guard _ x_ y_ _ _ w_) (fun w_ => (eql_board a0 zL LN_a0.out zL_len w_).trans (by first | (rw [decide_eq_false hc10.out]; done) | (rw [decide_eq_false hc10.out]; rfl))) _ _ _ rfl rfl rfl) rfl ?_)
    | ((with_reducible refine gate_d (N := 12) rfl ?_); refine ag_fix (.agg (bv a0)) (ex_load boardT gb1 0 (bv a0) (bv a0) BKb1.out (av_le LN_a0.out) (av_ex LN_a0.out) _ rfl rfl) rfl ?_))
   (try simp only [Act.put, sI, sZ, sS])
   have H := H'.out
   clear H'
   replace H := Option.bind_eq_some_iff.mp H
   obtain ⟨t3, A14_, H⟩ := H
   have A14 := hid A14_
   clear A14_
   by_cases c18 : t3 = 1
   ·
    rw [if_pos c18] at H
    have c18b0 : (t3 == 1) = true := beq_iff_eq.mpr c18
    have c18b1 : (t3 != 1) = false := bne_eq_false_iff_eq.mpr c18
    have hc18 := hid c18
    clear c18
    have H' := hid H
    clear H
    have k20 := True.intro
    go_wp2_with (first
     | (go_at_call 61; clear k20; refine (i_board_Many.calls k a0 6 0 LN_a0.out t3 _ A14.out).mono ?_; rintro e_ w21 ⟨rfl, hb_⟩; replace BKb1 := hid (BKb1.out.below hb_ BKb1.out.lt); replace HL := hid (HL.out.trans (hb_.mono HL.out.size)); clear hb_)
     | ((with_reducible refine gate_d (N := 17) rfl ?_); refine ag_fix (.agg (bv a0)) (ex_load boardT gb1 0 (bv a0) (bv a0) BKb1.out (av_le LN_a0.out) (av_ex LN_a0.out) _ rfl rfl) rfl ?_))
    (try simp only [Act.put, sI, sZ, sS])
    have H := H'.out
    clear H'
    replace H := Option.bind_eq_some_iff.mp H
    obtain ⟨t4, A19_, H⟩ := H
    have A19 := hid A19_
    clear A19_
    by_cases c22 : t4 = 1
    ·
     rw [if_pos c22] at H
     have c22b0 : (t4 == 1) = true := beq_iff_eq.mpr c22
     have c22b1 : (t4 != 1) = false := bne_eq_false_iff_eq.mpr c22
     have hc22 := hid c22
     clear c22
     have H' := hid H
     clear H
     have k24 := True.intro
     go_wp2_with (first
      | (go_at_call 61; clear k24; refine (i_board_Many.calls k a0 6 1 LN_a0.out t4 _ A19.out).mono ?_; rintro e_ w25 ⟨rfl, hb_⟩; replace BKb1 := hid (BKb1.out.below hb_ BKb1.out.lt); replace HL := hid (HL.out.trans (hb_.mono HL.out.size)); clear hb_)
      | ((with_reducible refine gate_d (N := 22) rfl ?_); refine ag_fix (.agg (bv a0)) (ex_load boardT gb1 0 (bv a0) (bv a0) BKb1.out (av_le LN_a0.out) (av_ex LN_a0.out) _ rfl rfl) rfl ?_))
     (try simp only [Act.put, sI, sZ, sS])
     have H := H'.out
     clear H'
     replace H := Option.bind_eq_some_iff.mp H
     obtain ⟨t5, A23_, H⟩ := H
     have A23 := hid A23_
     clear A23_
     cases t5 with
     | true =>
      rw [if_pos rfl] at H
      obtain rfl := Option.some.inj H
      clear H
      have k27 := True.intro
      go_wp2_with (first
       | (go_at_call 100; clear k27; refine (i_board_rim.calls k a0 LN_a0.out true _ A23.out).mono ?_; rintro e_ w28 ⟨rfl, hb_⟩; replace BKb1 := hid (BKb1.out.below hb_ BKb1.out.lt); replace HL := hid (HL.out.trans (hb_.mono HL.out.size)); clear hb_))
      (try simp only [Act.put, sI, sZ, sS])
      go_ret
      exact ⟨by first | rfl | (simp; done) | (simp [*]; done), HL.out⟩
     | false =>
      rw [if_neg (show ¬ (false = true) by decide)] at H
      have H' := hid H
      clear H
      have k30 := True.intro
      go_wp2_with (first
       | (go_at_call 100; clear k30; refine (i_board_rim.calls k a0 LN_a0.out false _ A23.out).mono ?_; rintro e_ w31 ⟨rfl, hb_⟩; replace BKb1 := hid (BKb1.out.below hb_ BKb1.out.lt); replace HL := hid (HL.out.trans (hb_.mono HL.out.size)); clear hb_)
       | ((with_reducible refine gate_d (N := 25) rfl ?_); refine ag_fix (.agg (bv a0)) (ex_load boardT gb1 0 (bv a0) (bv a0) BKb1.out (av_le LN_a0.out) (av_ex LN_a0.out) _ rfl rfl) rfl ?_))
      (try simp only [Act.put, sI, sZ, sS])
      have H := H'.out
      clear H'
      replace H := Option.bind_eq_some_iff.mp H
      obtain ⟨t6, A29_, H⟩ := H
      have A29 := hid A29_
      clear A29_
      by_cases c32 : t6 > 16
      ·
       rw [if_pos c32] at H
       have c32b0 : decide (16 < t6) = true := decide_eq_true c32
       have hc32 := hid c32
       clear c32
       obtain rfl := Option.some.inj H
       clear H
       have k33 := True.intro
       go_wp2_with (first
        | (go_at_call 61; clear k33; refine (i_board_Many.calls k a0 0 0 LN_a0.out t6 _ A29.out).mono ?_; rintro e_ w34 ⟨rfl, hb_⟩; replace BKb1 := hid (BKb1.out.below hb_ BKb1.out.lt); replace HL := hid (HL.out.trans (hb_.mono HL.out.size)); clear hb_))
       (try simp only [Act.put, sI, sZ, sS])
       go_ret
       exact ⟨by first | rfl | (simp; done) | (simp [*]; done), HL.out⟩
      ·
       rw [if_neg c32] at H
       have c32b0 : decide (16 < t6) = false := decide_eq_false c32
       have hc32 := hid c32
       clear c32
       have H' := hid H
       clear H
       have k36 := True.intro
       go_wp2_with (first
        | (go_at_call 61; clear k36; refine (i_board_Many.calls k a0 0 0 LN_a0.out t6 _ A29.out).mono ?_; rintro e_ w37 ⟨rfl, hb_⟩; replace BKb1 := hid (BKb1.out.below hb_ BKb1.out.lt); replace HL := hid (HL.out.trans (hb_.mono HL.out.size)); clear hb_)
        | ((with_reducible refine gate_d (N := 29) rfl ?_); refine ag_fix (.agg (bv a0)) (ex_load boardT gb1 0 (bv a0) (bv a0) BKb1.out (av_le LN_a0.out) (av_ex LN_a0.out) _ rfl rfl) rfl ?_))
       (try simp only [Act.put, sI, sZ, sS])
       have H := H'.out
       clear H'
       replace H := Option.bind_eq_some_iff.mp H
       obtain ⟨t7, A35_, H⟩ := H
       have A35 := hid A35_
       clear A35_
       by_cases c38 : t7 > 16
       ·
        rw [if_pos c38] at H
        have c38b0 : decide (16 < t7) = true := decide_eq_true c38
        have hc38 := hid c38
        clear c38
        obtain rfl := Option.some.inj H
        clear H
        have k39 := True.intro
        go_wp2_with (first
         | (go_at_call 61; clear k39; refine (i_board_Many.calls k a0 0 1 LN_a0.out t7 _ A35.out).mono ?_; rintro e_ w40 ⟨rfl, hb_⟩; replace BKb1 := hid (BKb1.out.below hb_ BKb1.out.lt); replace HL := hid (HL.out.trans (hb_.mono HL.out.size)); clear hb_))
        (try simp only [Act.put, sI, sZ, sS])
        go_ret
        exact ⟨by first | rfl | (simp; done) | (simp [*]; done), HL.out⟩
       ·
        rw [if_neg c38] at H
        have c38b0 : decide (16 < t7) = false := decide_eq_false c38
        have hc38 := hid c38
        clear c38
        obtain rfl := Option.some.inj H
        clear H
        have k41 := True.intro
        go_wp2_with (first
         | (go_at_call 61; clear k41; refine (i_board_Many.calls k a0 0 1 LN_a0.out t7 _ A35.out).mono ?_; rintro e_ w42 ⟨rfl, hb_⟩; replace BKb1 := hid (BKb1.out.below hb_ BKb1.out.lt); replace HL := hid (HL.out.trans (hb_.mono HL.out.size)); clear hb_))
        (try simp only [Act.put, sI, sZ, sS])
        go_ret
        exact ⟨by first | rfl | (simp; done) | (simp [*]; done), HL.out⟩
    ·
     rw [if_neg c22] at H
     have c22b0 : (t4 == 1) = false := beq_eq_false_iff_ne.mpr c22
     have c22b1 : (t4 != 1) = true := bne_iff_ne.mpr c22
     have hc22 := hid c22
     clear c22
     obtain rfl := Option.some.inj H
     clear H
     have k43 := True.intro
     go_wp2_with (first
      | (go_at_call 61; clear k43; refine (i_board_Many.calls k a0 6 1 LN_a0.out t4 _ A19.out).mono ?_; rintro e_ w44 ⟨rfl, hb_⟩; replace BKb1 := hid (BKb1.out.below hb_ BKb1.out.lt); replace HL := hid (HL.out.trans (hb_.mono HL.out.size)); clear hb_))
     (try simp only [Act.put, sI, sZ, sS])
     go_ret
     exact ⟨by first | rfl | (simp; done) | (simp [*]; done), HL.out⟩
   ·
    rw [if_neg c18] at H
    have c18b0 : (t3 == 1) = false := beq_eq_false_iff_ne.mpr c18
    have c18b1 : (t3 != 1) = true := bne_iff_ne.mpr c18
    have hc18 := hid c18
    clear c18
    obtain rfl := Option.some.inj H
    clear H
    have k45 := True.intro
    go_wp2_with (first
     | (go_at_call 61; clear k45; refine (i_board_Many.calls k a0 6 0 LN_a0.out t3 _ A14.out).mono ?_; rintro e_ w46 ⟨rfl, hb_⟩; replace BKb1 := hid (BKb1.out.below hb_ BKb1.out.lt); replace HL := hid (HL.out.trans (hb_.mono HL.out.size)); clear hb_))
    (try simp only [Act.put, sI, sZ, sS])
    go_ret
    exact ⟨by first | rfl | (simp; done) | (simp [*]; done), HL.out⟩
 | false =>
  rw [if_neg (show ¬ (false = true) by decide)] at H
  obtain rfl := Option.some.inj H
  clear H
  go_enter Try.func60, Try.ntmps60
  have k48 := True.intro
  go_wp2_with (first
   | ((with_reducible refine gate_d (N := 1) rfl ?_); obtain ⟨gb1, hgb1⟩ : ∃ g_, w.heap.size = g_ := ⟨_, rfl⟩; refine ag_box (bv a0) gb1 hgb1 rfl _ rfl rfl ?_; intro w47 hb_ hB_ hs_; have GEb1 : Hid (w.heap.size ≤ gb1) := hid (by have := HL.out.size; omega); replace HL := hid (HL.out.trans (hb_.mono GEb1.out)); have BKb1 := hid hB_; clear hb_ hB_ hs_ hgb1)
   | ((with_reducible refine gate_d (N := 4) rfl ?_); refine ag_fix (.agg (bv a0)) (ex_load boardT gb1 0 (bv a0) (bv a0) BKb1.out (av_le LN_a0.out) (av_ex LN_a0.out) _ rfl rfl) rfl ?_)
   | (go_at_call 99; clear k48; refine (i_board_Right.calls k a0 LN_a0.out false _ A8.out).mono ?_; rintro e_ w49 ⟨rfl, hb_⟩; replace BKb1 := hid (BKb1.out.below hb_ BKb1.out.lt); replace HL := hid (HL.out.trans (hb_.mono HL.out.size)); clear hb_))
  (try simp only [Act.put, sI, sZ, sS])
  go_ret
  exact ⟨by first | rfl | (simp; done) | (simp [*]; done), HL.out⟩
mutual
def i_count_Why.l0 : Nat → List Int → Int → Option (Int × Bool)
  | 0, _, _ => none
  | k + 1, a0, x13_0 => if x13_0 < 2 then ((i_board_Many.f k a0 1 x13_0).bind fun t18 => ((i_count_Promoted.f k a0 x13_0).bind fun t19 => (if (wrap64 (t18 + t19)) > 8 then (some (wrap64 (2 + x13_0), true)) else (i_count_Why.l0 k a0 (wrap64 (x13_0 + 1)))))) else (i_count_Why.l1 k a0 0 (List.replicate 2 (0 : Int)))
def i_count_Why.l1 : Nat → List Int → Int → List Int → Option (Int × Bool)
  | 0, _, _, _ => none
  | k + 1, a0, x27_1, yb20_0_1 => if x27_1 < 2 then ((i_count_Least.f k a0 x27_1).bind fun bt27 => (if bt27.2 = true then (if 0 ≤ x27_1 then (i_count_Why.l1 k a0 (wrap64 (x27_1 + 1)) (yb20_0_1.set x27_1.toNat bt27.1)) else (none)) else (some (wrap64 (4 + x27_1), true)))) else (i_count_Why.l2 k a0 yb20_0_1 0)
def i_count_Why.l2 : Nat → List Int → List Int → Int → Option (Int × Bool)
  | 0, _, _, _ => none
  | k + 1, a0, yb20_0_1, x44_2 => if x44_2 < 2 then (if 0 ≤ x44_2 then ((i_men_Other.f x44_2).bind fun t31 => ((i_board_Many.f k a0 0 t31).bind fun t32 => (if (nt yb20_0_1 x44_2.toNat 0) > (wrap64 (16 - t32)) then (some (wrap64 (6 + x44_2), true)) else (i_count_Why.l2 k a0 yb20_0_1 (wrap64 (x44_2 + 1)))))) else (none)) else (some (0, false))
end
def i_count_Why.f (k : Nat) (a0 : List Int) : Option (Int × Bool) := (i_board_Wrong.f k a0).bind fun t2 => (if t2 = 0 then (i_count_Why.l0 k a0 0) else (some (1, true)))
set_option maxHeartbeats 40000000 in
set_option maxRecDepth 100000 in
theorem i_count_Why.calls (k : Nat) (a0 : List Int) (hla0 : a0.length = 64) (r1 : Int) (r2 : Bool) (w : World) (h : i_count_Why.f k a0 = some (r1, r2)) :
    Calls Try.prog 35 #[.agg (bv a0)] w fun e w' => e = .returned (.tuple #[.int .i64 r1, .bool r2]) ∧ Below w.heap.size w w' := by
 have LN_a0 := hid hla0
 clear hla0
 have HL := hid (Below.refl w.heap.size w)
 have H : ((i_board_Wrong.f k a0).bind fun t2 => (if t2 = 0 then (i_count_Why.l0 k a0 0) else (some (1, true)))) = some (r1, r2) := h
 clear h
 replace H := Option.bind_eq_some_iff.mp H
 obtain ⟨t2, A33_, H⟩ := H
 have A33 := hid A33_
 clear A33_
 by_cases c34 : t2 = 0
 ·
  rw [if_pos c34] at H
  have c34b0 : (t2 == 0) = true := beq_iff_eq.mpr c34
  have c34b1 : (t2 != 0) = false := bne_eq_false_iff_eq.mpr c34
  have hc34 := hid c34
  clear c34
  have H' := hid H
  clear H
  go_enter Try.func35, Try.ntmps35
  have k36 := True.intro
  go_wp2_with (first
   | ((with_reducible refine gate_d (N := 1) rfl ?_); obtain ⟨gb1, hgb1⟩ : ∃ g_, w.heap.size = g_ := ⟨_, rfl⟩; refine ag_box (bv a0) gb1 hgb1 rfl _ rfl rfl ?_; intro w35 hb_ hB_ hs_; have GEb1 : Hid (w.heap.size ≤ gb1) := hid (by have := HL.out.size; omega); replace HL := hid (HL.out.trans (hb_.mono GEb1.out)); have BKb1 := hid hB_; clear hb_ hB_ hs_ hgb1)
   | ((with_reducible refine gate_d (N := 10) rfl ?_); refine ag_fix (.agg (bv a0)) (ex_load boardT gb1 0 (bv a0) (bv a0) BKb1.out (av_le LN_a0.out) (av_ex LN_a0.out) _ rfl rfl) rfl ?_)
   | (go_at_call 60; clear k36; refine (i_board_Wrong.calls k a0 LN_a0.out t2 _ A33.out).mono ?_; rintro e_ w37 ⟨rfl, hb_⟩; replace BKb1 := hid (BKb1.out.below hb_ BKb1.out.lt); replace HL := hid (HL.out.trans (hb_.mono HL.out.size)); clear hb_))
  (try simp only [Act.put, sI, sZ, sS])
  go_loopg [13] k (fun kq v13 w' => ∃ (x13_0 : Int), v13 = .int .i64 x13_0 ∧ Hid (i_count_Why.l0 kq a0 x13_0 = some (r1, r2)) ∧ Hid (kq ≤ k) ∧ Hid (Blk w' gb1 44 (bv a0)) ∧ Hid (Below w.heap.size w w'))
  case atStart => exact ⟨(0 : Int), (by first | rfl | (simp; done) | (simp [*]; done)), H', (hid (by first | omega | (omega))), (hid (by exact BKb1.out)), HL⟩
  case round =>
   clear H'
   clear HL BKb1
   obtain ⟨x13_0, rfl, HA, HK38, BKb1, HL⟩ := hrel
   cases gk with
   | zero => exact absurd HA.out (by simp [i_count_Why.l0])
   | succ k39 =>
    have H := HA.out
    clear HA
    simp only [i_count_Why.l0] at H
    by_cases c40 : x13_0 < 2
    ·
     rw [if_pos c40] at H
     have c40b0 : decide (x13_0 < 2) = true := decide_eq_true c40
     have hc40 := hid c40
     clear c40
     replace H := Option.bind_eq_some_iff.mp H
     obtain ⟨t18, A41_, H⟩ := H
     have A41 := hid A41_
     clear A41_
     replace H := Option.bind_eq_some_iff.mp H
     obtain ⟨t19, A42_, H⟩ := H
     have A42 := hid A42_
     clear A42_
     by_cases c43 : (wrap64 (t18 + t19)) > 8
     ·
      rw [if_pos c43] at H
      have c43b0 : decide (8 < (wrap64 (t18 + t19))) = true := decide_eq_true c43
      have hc43 := hid c43
      clear c43
      simp only [Option.some.injEq, Prod.mk.injEq] at H
      obtain ⟨rfl, rfl⟩ := H
      go_wp2_with fail
      (try simp only [Act.put, sI, sZ, sS])
      have WR64 := i64_w
      have WR32 := i32_w
      refine up_regionW (by kernel_rfl) (by kernel_rfl) ?_
      refine q_do (.agg (bv a0)) (fun w'_ hc_ => by obtain ⟨n_, hn_⟩ := hc_; exact ex_load boardT gb1 0 (bv a0) (bv a0) (by rw [hn_]; exact BKb1.out.below n_.below BKb1.out.lt) (av_le LN_a0.out) (av_ex LN_a0.out) _ rfl rfl) rfl rfl ?_
      intro ts_ ht_; simp only [sI, sZ, sS] at ht_; subst ht_
      refine q_do (.int .i64 x13_0) (fun w'_ hc_ => ex_mv (.tmp 4) (.inl rfl) _ rfl) rfl rfl ?_
      intro ts_ ht_; simp only [sI, sZ, sS] at ht_; subst ht_
      refine q_call (.int .i64 t18) 61 #[.agg (bv a0), .int .i64 1, .int .i64 x13_0] (fun w'_ => by go_simp) (fun w'_ hc_ => (i_board_Many.calls k39 a0 1 x13_0 LN_a0.out t18 _ A41.out).mono fun e_ w2_ h_ => ⟨h_.1, up_below hc_ h_.2⟩) rfl rfl ?_
      intro ts_ ht_; simp only [sI, sZ, sS] at ht_; subst ht_
      refine q_do (.agg (bv a0)) (fun w'_ hc_ => by obtain ⟨n_, hn_⟩ := hc_; exact ex_load boardT gb1 0 (bv a0) (bv a0) (by rw [hn_]; exact BKb1.out.below n_.below BKb1.out.lt) (av_le LN_a0.out) (av_ex LN_a0.out) _ rfl rfl) rfl rfl ?_
      intro ts_ ht_; simp only [sI, sZ, sS] at ht_; subst ht_
      refine q_do (.int .i64 x13_0) (fun w'_ hc_ => ex_mv (.tmp 4) (.inl rfl) _ rfl) rfl rfl ?_
      intro ts_ ht_; simp only [sI, sZ, sS] at ht_; subst ht_
      refine q_call (.int .i64 t19) 41 #[.agg (bv a0), .int .i64 x13_0] (fun w'_ => by go_simp) (fun w'_ hc_ => (i_count_Promoted.calls k39 a0 x13_0 LN_a0.out t19 _ A42.out).mono fun e_ w2_ h_ => ⟨h_.1, up_below hc_ h_.2⟩) rfl rfl ?_
      intro ts_ ht_; simp only [sI, sZ, sS] at ht_; subst ht_
      refine q_do (.int .i64 (wrap64 (t18 + t19))) (fun w'_ hc_ => by go_simp <;> (unfold wrap64; omega)) rfl rfl ?_
      intro ts_ ht_; simp only [sI, sZ, sS] at ht_; subst ht_
      refine q_do (.bool true) (fun w'_ hc_ => by go_simp <;> (unfold wrap64; omega)) rfl rfl ?_
      intro ts_ ht_; simp only [sI, sZ, sS] at ht_; subst ht_
      refine q_end ?_
      rintro w8_ ⟨n_, rfl⟩
      replace BKb1 := hid (BKb1.out.below n_.below BKb1.out.lt)
      replace HL := hid (HL.out.trans (n_.below.mono HL.out.size))
      generalize n_.world = w44 at *
      clear n_ WR64 WR32
      go_wp2_with fail
      (try simp only [Act.put, sI, sZ, sS])
      go_ret2
      exact ⟨by first | rfl | (simp; done) | (simp [*]; done), HL.out⟩
     ·
      rw [if_neg c43] at H
      have c43b0 : decide (8 < (wrap64 (t18 + t19))) = false := decide_eq_false c43
      have hc43 := hid c43
      clear c43
      have H' := hid H
      clear H
      go_wp2_with fail
      (try simp only [Act.put, sI, sZ, sS])
      have WR64 := i64_w
      have WR32 := i32_w
      refine up_regionW (by kernel_rfl) (by kernel_rfl) ?_
      refine q_do (.agg (bv a0)) (fun w'_ hc_ => by obtain ⟨n_, hn_⟩ := hc_; exact ex_load boardT gb1 0 (bv a0) (bv a0) (by rw [hn_]; exact BKb1.out.below n_.below BKb1.out.lt) (av_le LN_a0.out) (av_ex LN_a0.out) _ rfl rfl) rfl rfl ?_
      intro ts_ ht_; simp only [sI, sZ, sS] at ht_; subst ht_
      refine q_do (.int .i64 x13_0) (fun w'_ hc_ => ex_mv (.tmp 4) (.inl rfl) _ rfl) rfl rfl ?_
      intro ts_ ht_; simp only [sI, sZ, sS] at ht_; subst ht_
      refine q_call (.int .i64 t18) 61 #[.agg (bv a0), .int .i64 1, .int .i64 x13_0] (fun w'_ => by go_simp) (fun w'_ hc_ => (i_board_Many.calls k39 a0 1 x13_0 LN_a0.out t18 _ A41.out).mono fun e_ w2_ h_ => ⟨h_.1, up_below hc_ h_.2⟩) rfl rfl ?_
      intro ts_ ht_; simp only [sI, sZ, sS] at ht_; subst ht_
      refine q_do (.agg (bv a0)) (fun w'_ hc_ => by obtain ⟨n_, hn_⟩ := hc_; exact ex_load boardT gb1 0 (bv a0) (bv a0) (by rw [hn_]; exact BKb1.out.below n_.below BKb1.out.lt) (av_le LN_a0.out) (av_ex LN_a0.out) _ rfl rfl) rfl rfl ?_
      intro ts_ ht_; simp only [sI, sZ, sS] at ht_; subst ht_
      refine q_do (.int .i64 x13_0) (fun w'_ hc_ => ex_mv (.tmp 4) (.inl rfl) _ rfl) rfl rfl ?_
      intro ts_ ht_; simp only [sI, sZ, sS] at ht_; subst ht_
      refine q_call (.int .i64 t19) 41 #[.agg (bv a0), .int .i64 x13_0] (fun w'_ => by go_simp) (fun w'_ hc_ => (i_count_Promoted.calls k39 a0 x13_0 LN_a0.out t19 _ A42.out).mono fun e_ w2_ h_ => ⟨h_.1, up_below hc_ h_.2⟩) rfl rfl ?_
      intro ts_ ht_; simp only [sI, sZ, sS] at ht_; subst ht_
      refine q_do (.int .i64 (wrap64 (t18 + t19))) (fun w'_ hc_ => by go_simp <;> (unfold wrap64; omega)) rfl rfl ?_
      intro ts_ ht_; simp only [sI, sZ, sS] at ht_; subst ht_
      refine q_do (.bool false) (fun w'_ hc_ => by go_simp <;> (unfold wrap64; omega)) rfl rfl ?_
      intro ts_ ht_; simp only [sI, sZ, sS] at ht_; subst ht_
      refine q_end ?_
      rintro w8_ ⟨n_, rfl⟩
      replace BKb1 := hid (BKb1.out.below n_.below BKb1.out.lt)
      replace HL := hid (HL.out.trans (n_.below.mono HL.out.size))
      generalize n_.world = w45 at *
      clear n_ WR64 WR32
      go_wp2_with fail
      (try simp only [Act.put, sI, sZ, sS])
      go_roundg k39
      case measure => have := HK38.out; omega
      case rel => exact ⟨wrap64 (x13_0 + 1), (by first | rfl | (simp; done) | (simp [*]; done)), H', (hid (by first | omega | (have := HK38.out; omega))), (hid (by exact BKb1.out)), HL⟩
    ·
     rw [if_neg c40] at H
     have c40b0 : decide (x13_0 < 2) = false := decide_eq_false c40
     have hc40 := hid c40
     clear c40
     have H' := hid H
     clear H
     go_wp2_with (first
      | ((with_reducible refine gate_d (N := 5) rfl ?_); obtain ⟨gb20, hgb20⟩ : ∃ g_, wr.heap.size = g_ := ⟨_, rfl⟩; refine ag_alloc aT53 gb20 hgb20 rfl rfl ?_; intro w46 hb_ hB_ hs_; have GEb20 : Hid (w.heap.size ≤ gb20) := hid (by have := HL.out.size; omega); have NBb1_b20 : Hid (gb1 ≠ gb20) := hid (by have := BKb1.out.lt; omega); have NBb20_b1 : Hid (gb20 ≠ gb1) := hid (by have := NBb1_b20.out; omega); replace BKb1 := hid (BKb1.out.below hb_ (by rw [← hgb20]; exact BKb1.out.lt)); replace HL := hid (HL.out.trans (hb_.mono GEb20.out)); have BKb20 := hid hB_; clear hb_ hB_ hs_ hgb20))
     (try simp only [Act.put, sI, sZ, sS])
     go_loopg [27] k39 (fun kq v27 w' => ∃ (x27_1 : Int) (yb20_0_1 : List Int), v27 = .int .i64 x27_1 ∧ Hid (i_count_Why.l1 kq a0 x27_1 yb20_0_1 = some (r1, r2)) ∧ Hid (kq ≤ k39) ∧ Hid (yb20_0_1.length = 2) ∧ Hid (Blk w' gb1 44 (bv a0)) ∧ Hid (Blk w' gb20 53 (av (Value.int .i64) yb20_0_1)) ∧ Hid (Below w.heap.size w w'))
     case atStart => exact ⟨(0 : Int), (List.replicate 2 (0 : Int)), (by first | rfl | (simp; done) | (simp [*]; done)), H', (hid (by first | omega | (have := HK38.out; omega))), (hid (by first | rfl | (simp only [List.length_set, List.length_replicate, zL_len, List.length_cons, List.length_nil, LN_a0.out]; done) | (simp [zL_len, LN_a0.out]; done))), (hid (by exact BKb1.out)), (hid (by exact BKb20.out)), HL⟩
     case round =>
      clear H'
      clear HL BKb1 BKb20
      obtain ⟨x27_1, yb20_0_1, rfl, HA, HK47, LN_yb20_0_1, BKb1, BKb20, HL⟩ := hrel
      cases gk with
      | zero => exact absurd HA.out (by simp [i_count_Why.l1])
      | succ k48 =>
       have H := HA.out
       clear HA
       simp only [i_count_Why.l1] at H
       by_cases c49 : x27_1 < 2
       ·
        rw [if_pos c49] at H
        have c49b0 : decide (x27_1 < 2) = true := decide_eq_true c49
        have hc49 := hid c49
        clear c49
        replace H := Option.bind_eq_some_iff.mp H
        obtain ⟨⟨t27, t28⟩, A50_, H⟩ := H
        dsimp only at H
        have A50 := hid A50_
        clear A50_
        cases t28 with
        | true =>
         rw [if_pos rfl] at H
         by_cases c52 : 0 ≤ x27_1
         ·
          rw [if_pos c52] at H
          have c52b0 : decide (0 ≤ x27_1) = true := decide_eq_true c52
          have hc52 := hid c52
          clear c52
          have H' := hid H
          clear H
          have k53 := True.intro
          go_wp2_with (first
           | ((with_reducible refine gate_d (N := 31) rfl ?_); refine ag_fix (.agg (bv a0)) (ex_load boardT gb1 0 (bv a0) (bv a0) BKb1.out (av_le LN_a0.out) (av_ex LN_a0.out) _ rfl rfl) rfl ?_)
           | (go_at_call 40; clear k53; refine (i_count_Least.calls k48 a0 x27_1 LN_a0.out t27 true _ A50.out).mono ?_; rintro e_ w54 ⟨rfl, hb_⟩; replace BKb1 := hid (BKb1.out.below hb_ BKb1.out.lt); replace BKb20 := hid (BKb20.out.below hb_ BKb20.out.lt); replace HL := hid (HL.out.trans (hb_.mono HL.out.size)); clear hb_)
           | ((with_reducible refine gate_d (N := 42) rfl ?_); refine ag_fix (.pointer (some ⟨gb20, x27_1.toNat, none⟩)) (ex_at 53 (.pointer (some ⟨gb20, 0, none⟩)) (.int .i64 x27_1) (.pointer (some ⟨gb20, x27_1.toNat, none⟩)) (fun w_ => (run_atv 3 uT53 sT3.size gb20 0 x27_1 hc52.out hc49.out w_).trans (by simp)) _ _ rfl rfl rfl) rfl ?_)
           | ((with_reducible refine gate_s (t := 3) (p := 42) rfl ?_); refine ag_set sT3 gb20 (x27_1.toNat) (.int .i64 t27) (av (Value.int .i64) yb20_0_1) (av (Value.int .i64) (yb20_0_1.set x27_1.toNat t27)) BKb20.out (by rw [show (av (Value.int .i64) yb20_0_1) = av (Value.int .i64) yb20_0_1 from rfl, av_size]; exact (by have h_ : yb20_0_1.length = 2 := LN_yb20_0_1.out; have h1_ := hc52.out; have h2_ := hc49.out; omega)) rfl rfl (av_set _ _) rfl _ _ rfl rfl rfl ?_; intro w55 ho_ hB_; replace BKb1 := hid (BKb1.out.off ho_ NBb1_b20.out); replace HL := hid (ho_.below HL.out GEb20.out); replace BKb20 := hid hB_; clear ho_ hB_))
          (try simp only [Act.put, sI, sZ, sS])
          go_roundg k48
          case measure => have := HK38.out; have := HK47.out; omega
          case rel => exact ⟨wrap64 (x27_1 + 1), yb20_0_1.set x27_1.toNat t27, (by first | rfl | (simp; done) | (simp [*]; done)), H', (hid (by first | omega | (have := HK38.out; have := HK47.out; omega))), (hid (by first | rfl | (simp only [List.length_set, List.length_replicate, zL_len, List.length_cons, List.length_nil, LN_a0.out, LN_yb20_0_1.out]; done) | (simp [zL_len, LN_a0.out, LN_yb20_0_1.out]; done))), (hid (by exact BKb1.out)), (hid (by exact BKb20.out)), HL⟩
         ·
          rw [if_neg c52] at H
          exact absurd H (by simp)
        | false =>
         rw [if_neg (show ¬ (false = true) by decide)] at H
         simp only [Option.some.injEq, Prod.mk.injEq] at H
         obtain ⟨rfl, rfl⟩ := H
         have k56 := True.intro
         go_wp2_with (first
          | ((with_reducible refine gate_d (N := 31) rfl ?_); refine ag_fix (.agg (bv a0)) (ex_load boardT gb1 0 (bv a0) (bv a0) BKb1.out (av_le LN_a0.out) (av_ex LN_a0.out) _ rfl rfl) rfl ?_)
          | (go_at_call 40; clear k56; refine (i_count_Least.calls k48 a0 x27_1 LN_a0.out t27 false _ A50.out).mono ?_; rintro e_ w57 ⟨rfl, hb_⟩; replace BKb1 := hid (BKb1.out.below hb_ BKb1.out.lt); replace BKb20 := hid (BKb20.out.below hb_ BKb20.out.lt); replace HL := hid (HL.out.trans (hb_.mono HL.out.size)); clear hb_))
         (try simp only [Act.put, sI, sZ, sS])
         go_ret2
         exact ⟨by first | rfl | (simp; done) | (simp [*]; done), HL.out⟩
       ·
        rw [if_neg c49] at H
        have c49b0 : decide (x27_1 < 2) = false := decide_eq_false c49
        have hc49 := hid c49
        clear c49
        have H' := hid H
        clear H
        go_wp2_with fail
        (try simp only [Act.put, sI, sZ, sS])
        go_loopg [44] k48 (fun kq v44 w' => ∃ (x44_2 : Int), v44 = .int .i64 x44_2 ∧ Hid (i_count_Why.l2 kq a0 yb20_0_1 x44_2 = some (r1, r2)) ∧ Hid (kq ≤ k48) ∧ Hid (Blk w' gb1 44 (bv a0)) ∧ Hid (Blk w' gb20 53 (av (Value.int .i64) yb20_0_1)) ∧ Hid (Below w.heap.size w w'))
        case atStart => exact ⟨(0 : Int), (by first | rfl | (simp; done) | (simp [*]; done)), H', (hid (by first | omega | (have := HK38.out; have := HK47.out; omega))), (hid (by exact BKb1.out)), (hid (by exact BKb20.out)), HL⟩
        case round =>
         clear H'
         clear HL BKb1 BKb20
         obtain ⟨x44_2, rfl, HA, HK58, BKb1, BKb20, HL⟩ := hrel
         cases gk with
         | zero => exact absurd HA.out (by simp [i_count_Why.l2])
         | succ k59 =>
          have H := HA.out
          clear HA
          simp only [i_count_Why.l2] at H
          by_cases c60 : x44_2 < 2
          ·
           rw [if_pos c60] at H
           have c60b0 : decide (x44_2 < 2) = true := decide_eq_true c60
           have hc60 := hid c60
           clear c60
           by_cases c61 : 0 ≤ x44_2
           ·
            rw [if_pos c61] at H
            have c61b0 : decide (0 ≤ x44_2) = true := decide_eq_true c61
            have hc61 := hid c61
            clear c61
            replace H := Option.bind_eq_some_iff.mp H
            obtain ⟨t31, A62_, H⟩ := H
            have A62 := hid A62_
            clear A62_
            replace H := Option.bind_eq_some_iff.mp H
            obtain ⟨t32, A63_, H⟩ := H
            have A63 := hid A63_
            clear A63_
            by_cases c64 : (nt yb20_0_1 x44_2.toNat 0) > (wrap64 (16 - t32))
            ·
             rw [if_pos c64] at H
             have c64b0 : decide ((wrap64 (16 - t32)) < (nt yb20_0_1 x44_2.toNat 0)) = true := decide_eq_true c64
             have hc64 := hid c64
             clear c64
             simp only [Option.some.injEq, Prod.mk.injEq] at H
             obtain ⟨rfl, rfl⟩ := H
             go_wp2_with fail
             (try simp only [Act.put, sI, sZ, sS])
             have WR64 := i64_w
             have WR32 := i32_w
             refine up_regionW (by kernel_rfl) (by kernel_rfl) ?_
             refine q_do (.int .i64 x44_2) (fun w'_ hc_ => ex_mv (.tmp 9) (.inl rfl) _ rfl) rfl rfl ?_
             intro ts_ ht_; simp only [sI, sZ, sS] at ht_; subst ht_
             refine q_do (.pointer (some ⟨gb20, x44_2.toNat, none⟩)) (fun w'_ hc_ => by obtain ⟨n_, hn_⟩ := hc_; exact ex_at 53 (.pointer (some ⟨gb20, 0, none⟩)) (.int .i64 x44_2) (.pointer (some ⟨gb20, x44_2.toNat, none⟩)) (fun w_ => (run_atv 3 uT53 sT3.size gb20 0 x44_2 hc61.out hc60.out w_).trans (by simp)) _ _ rfl rfl rfl) rfl rfl ?_
             intro ts_ ht_; simp only [sI, sZ, sS] at ht_; subst ht_
             refine q_do (.int .i64 (nt yb20_0_1 x44_2.toNat 0)) (fun w'_ hc_ => by obtain ⟨n_, hn_⟩ := hc_; exact ex_get sT3 gb20 (x44_2.toNat) (.int .i64 (nt yb20_0_1 x44_2.toNat 0)) ((av (Value.int .i64) yb20_0_1)) (by rw [hn_]; exact BKb20.out.below n_.below BKb20.out.lt) (av_get 0 (by have h_ : yb20_0_1.length = 2 := LN_yb20_0_1.out; have h1_ := hc61.out; have h2_ := hc60.out; omega)) _ rfl rfl) rfl rfl ?_
             intro ts_ ht_; simp only [sI, sZ, sS] at ht_; subst ht_
             refine q_do (.agg (bv a0)) (fun w'_ hc_ => by obtain ⟨n_, hn_⟩ := hc_; exact ex_load boardT gb1 0 (bv a0) (bv a0) (by rw [hn_]; exact BKb1.out.below n_.below BKb1.out.lt) (av_le LN_a0.out) (av_ex LN_a0.out) _ rfl rfl) rfl rfl ?_
             intro ts_ ht_; simp only [sI, sZ, sS] at ht_; subst ht_
             refine q_do (.int .i64 x44_2) (fun w'_ hc_ => ex_mv (.tmp 9) (.inl rfl) _ rfl) rfl rfl ?_
             intro ts_ ht_; simp only [sI, sZ, sS] at ht_; subst ht_
             refine q_call (.int .i64 t31) 62 #[.int .i64 x44_2] (fun w'_ => by go_simp) (fun w'_ hc_ => (i_men_Other.calls x44_2 t31 _ A62.out).mono fun e_ w2_ h_ => ⟨h_.1, up_same hc_ h_.2⟩) rfl rfl ?_
             intro ts_ ht_; simp only [sI, sZ, sS] at ht_; subst ht_
             refine q_call (.int .i64 t32) 61 #[.agg (bv a0), .int .i64 0, .int .i64 t31] (fun w'_ => by go_simp) (fun w'_ hc_ => (i_board_Many.calls k59 a0 0 t31 LN_a0.out t32 _ A63.out).mono fun e_ w2_ h_ => ⟨h_.1, up_below hc_ h_.2⟩) rfl rfl ?_
             intro ts_ ht_; simp only [sI, sZ, sS] at ht_; subst ht_
             refine q_do (.int .i64 (wrap64 (16 - t32))) (fun w'_ hc_ => by go_simp <;> (unfold wrap64; omega)) rfl rfl ?_
             intro ts_ ht_; simp only [sI, sZ, sS] at ht_; subst ht_
             refine q_do (.bool true) (fun w'_ hc_ => by go_simp <;> (unfold wrap64; omega)) rfl rfl ?_
             intro ts_ ht_; simp only [sI, sZ, sS] at ht_; subst ht_
             refine q_end ?_
             rintro w8_ ⟨n_, rfl⟩
             replace BKb1 := hid (BKb1.out.below n_.below BKb1.out.lt)
             replace BKb20 := hid (BKb20.out.below n_.below BKb20.out.lt)
             replace HL := hid (HL.out.trans (n_.below.mono HL.out.size))
             generalize n_.world = w65 at *
             clear n_ WR64 WR32
             go_wp2_with fail
             (try simp only [Act.put, sI, sZ, sS])
             go_ret2
             exact ⟨by first | rfl | (simp; done) | (simp [*]; done), HL.out⟩
            ·
             rw [if_neg c64] at H
             have c64b0 : decide ((wrap64 (16 - t32)) < (nt yb20_0_1 x44_2.toNat 0)) = false := decide_eq_false c64
             have hc64 := hid c64
             clear c64
             have H' := hid H
             clear H
             go_wp2_with fail
             (try simp only [Act.put, sI, sZ, sS])
             have WR64 := i64_w
             have WR32 := i32_w
             refine up_regionW (by kernel_rfl) (by kernel_rfl) ?_
             refine q_do (.int .i64 x44_2) (fun w'_ hc_ => ex_mv (.tmp 9) (.inl rfl) _ rfl) rfl rfl ?_
             intro ts_ ht_; simp only [sI, sZ, sS] at ht_; subst ht_
             refine q_do (.pointer (some ⟨gb20, x44_2.toNat, none⟩)) (fun w'_ hc_ => by obtain ⟨n_, hn_⟩ := hc_; exact ex_at 53 (.pointer (some ⟨gb20, 0, none⟩)) (.int .i64 x44_2) (.pointer (some ⟨gb20, x44_2.toNat, none⟩)) (fun w_ => (run_atv 3 uT53 sT3.size gb20 0 x44_2 hc61.out hc60.out w_).trans (by simp)) _ _ rfl rfl rfl) rfl rfl ?_
             intro ts_ ht_; simp only [sI, sZ, sS] at ht_; subst ht_
             refine q_do (.int .i64 (nt yb20_0_1 x44_2.toNat 0)) (fun w'_ hc_ => by obtain ⟨n_, hn_⟩ := hc_; exact ex_get sT3 gb20 (x44_2.toNat) (.int .i64 (nt yb20_0_1 x44_2.toNat 0)) ((av (Value.int .i64) yb20_0_1)) (by rw [hn_]; exact BKb20.out.below n_.below BKb20.out.lt) (av_get 0 (by have h_ : yb20_0_1.length = 2 := LN_yb20_0_1.out; have h1_ := hc61.out; have h2_ := hc60.out; omega)) _ rfl rfl) rfl rfl ?_
             intro ts_ ht_; simp only [sI, sZ, sS] at ht_; subst ht_
             refine q_do (.agg (bv a0)) (fun w'_ hc_ => by obtain ⟨n_, hn_⟩ := hc_; exact ex_load boardT gb1 0 (bv a0) (bv a0) (by rw [hn_]; exact BKb1.out.below n_.below BKb1.out.lt) (av_le LN_a0.out) (av_ex LN_a0.out) _ rfl rfl) rfl rfl ?_
             intro ts_ ht_; simp only [sI, sZ, sS] at ht_; subst ht_
             refine q_do (.int .i64 x44_2) (fun w'_ hc_ => ex_mv (.tmp 9) (.inl rfl) _ rfl) rfl rfl ?_
             intro ts_ ht_; simp only [sI, sZ, sS] at ht_; subst ht_
             refine q_call (.int .i64 t31) 62 #[.int .i64 x44_2] (fun w'_ => by go_simp) (fun w'_ hc_ => (i_men_Other.calls x44_2 t31 _ A62.out).mono fun e_ w2_ h_ => ⟨h_.1, up_same hc_ h_.2⟩) rfl rfl ?_
             intro ts_ ht_; simp only [sI, sZ, sS] at ht_; subst ht_
             refine q_call (.int .i64 t32) 61 #[.agg (bv a0), .int .i64 0, .int .i64 t31] (fun w'_ => by go_simp) (fun w'_ hc_ => (i_board_Many.calls k59 a0 0 t31 LN_a0.out t32 _ A63.out).mono fun e_ w2_ h_ => ⟨h_.1, up_below hc_ h_.2⟩) rfl rfl ?_
             intro ts_ ht_; simp only [sI, sZ, sS] at ht_; subst ht_
             refine q_do (.int .i64 (wrap64 (16 - t32))) (fun w'_ hc_ => by go_simp <;> (unfold wrap64; omega)) rfl rfl ?_
             intro ts_ ht_; simp only [sI, sZ, sS] at ht_; subst ht_
             refine q_do (.bool false) (fun w'_ hc_ => by go_simp <;> (unfold wrap64; omega)) rfl rfl ?_
             intro ts_ ht_; simp only [sI, sZ, sS] at ht_; subst ht_
             refine q_end ?_
             rintro w8_ ⟨n_, rfl⟩
             replace BKb1 := hid (BKb1.out.below n_.below BKb1.out.lt)
             replace BKb20 := hid (BKb20.out.below n_.below BKb20.out.lt)
             replace HL := hid (HL.out.trans (n_.below.mono HL.out.size))
             generalize n_.world = w66 at *
             clear n_ WR64 WR32
             go_wp2_with fail
             (try simp only [Act.put, sI, sZ, sS])
             go_roundg k59
             case measure => have := HK38.out; have := HK47.out; have := HK58.out; omega
             case rel => exact ⟨wrap64 (x44_2 + 1), (by first | rfl | (simp; done) | (simp [*]; done)), H', (hid (by first | omega | (have := HK38.out; have := HK47.out; have := HK58.out; omega))), (hid (by exact BKb1.out)), (hid (by exact BKb20.out)), HL⟩
           ·
            rw [if_neg c61] at H
            exact absurd H (by simp)
          ·
           rw [if_neg c60] at H
           have c60b0 : decide (x44_2 < 2) = false := decide_eq_false c60
           have hc60 := hid c60
           clear c60
           simp only [Option.some.injEq, Prod.mk.injEq] at H
           obtain ⟨rfl, rfl⟩ := H
           go_wp2_with fail
           (try simp only [Act.put, sI, sZ, sS])
           go_ret2
           exact ⟨by first | rfl | (simp; done) | (simp [*]; done), HL.out⟩
 ·
  rw [if_neg c34] at H
  have c34b0 : (t2 == 0) = false := beq_eq_false_iff_ne.mpr c34
  have c34b1 : (t2 != 0) = true := bne_iff_ne.mpr c34
  have hc34 := hid c34
  clear c34
  simp only [Option.some.injEq, Prod.mk.injEq] at H
  obtain ⟨rfl, rfl⟩ := H
  go_enter Try.func35, Try.ntmps35
  have k68 := True.intro
  go_wp2_with (first
   | ((with_reducible refine gate_d (N := 1) rfl ?_); obtain ⟨gb1, hgb1⟩ : ∃ g_, w.heap.size = g_ := ⟨_, rfl⟩; refine ag_box (bv a0) gb1 hgb1 rfl _ rfl rfl ?_; intro w67 hb_ hB_ hs_; have GEb1 : Hid (w.heap.size ≤ gb1) := hid (by have := HL.out.size; omega); replace HL := hid (HL.out.trans (hb_.mono GEb1.out)); have BKb1 := hid hB_; clear hb_ hB_ hs_ hgb1)
   | ((with_reducible refine gate_d (N := 10) rfl ?_); refine ag_fix (.agg (bv a0)) (ex_load boardT gb1 0 (bv a0) (bv a0) BKb1.out (av_le LN_a0.out) (av_ex LN_a0.out) _ rfl rfl) rfl ?_)
   | (go_at_call 60; clear k68; refine (i_board_Wrong.calls k a0 LN_a0.out t2 _ A33.out).mono ?_; rintro e_ w69 ⟨rfl, hb_⟩; replace BKb1 := hid (BKb1.out.below hb_ BKb1.out.lt); replace HL := hid (HL.out.trans (hb_.mono HL.out.size)); clear hb_))
  (try simp only [Act.put, sI, sZ, sS])
  go_ret2
  exact ⟨by first | rfl | (simp; done) | (simp [*]; done), HL.out⟩
def i_count_Illegal.f (k : Nat) (a0 : List Int) : Option (Bool) := (i_count_Why.f k a0).bind fun bt2 => (some bt2.2)
set_option maxHeartbeats 40000000 in
set_option maxRecDepth 100000 in
theorem i_count_Illegal.calls (k : Nat) (a0 : List Int) (hla0 : a0.length = 64) (r1 : Bool) (w : World) (h : i_count_Illegal.f k a0 = some r1) :
    Calls Try.prog 39 #[.agg (bv a0)] w fun e w' => e = .returned (.bool r1) ∧ Below w.heap.size w w' := by
 have LN_a0 := hid hla0
 clear hla0
 have HL := hid (Below.refl w.heap.size w)
 have H : ((i_count_Why.f k a0).bind fun bt2 => (some bt2.2)) = some r1 := h
 clear h
 replace H := Option.bind_eq_some_iff.mp H
 obtain ⟨⟨t2, t3⟩, A4_, H⟩ := H
 dsimp only at H
 have A4 := hid A4_
 clear A4_
 obtain rfl := Option.some.inj H
 clear H
 go_enter Try.func39, Try.ntmps39
 have k6 := True.intro
 go_wp2_with (first
  | ((with_reducible refine gate_d (N := 1) rfl ?_); obtain ⟨gb1, hgb1⟩ : ∃ g_, w.heap.size = g_ := ⟨_, rfl⟩; refine ag_box (bv a0) gb1 hgb1 rfl _ rfl rfl ?_; intro w5 hb_ hB_ hs_; have GEb1 : Hid (w.heap.size ≤ gb1) := hid (by have := HL.out.size; omega); replace HL := hid (HL.out.trans (hb_.mono GEb1.out)); have BKb1 := hid hB_; clear hb_ hB_ hs_ hgb1)
  | ((with_reducible refine gate_d (N := 6) rfl ?_); refine ag_fix (.agg (bv a0)) (ex_load boardT gb1 0 (bv a0) (bv a0) BKb1.out (av_le LN_a0.out) (av_ex LN_a0.out) _ rfl rfl) rfl ?_)
  | (go_at_call 35; clear k6; refine (i_count_Why.calls k a0 LN_a0.out t2 t3 _ A4.out).mono ?_; rintro e_ w7 ⟨rfl, hb_⟩; replace BKb1 := hid (BKb1.out.below hb_ BKb1.out.lt); replace HL := hid (HL.out.trans (hb_.mono HL.out.size)); clear hb_))
 (try simp only [Act.put, sI, sZ, sS])
 go_ret
 exact ⟨by first | rfl | (simp; done) | (simp [*]; done), HL.out⟩
end Go.Proofs.Ytpjocgebnodnoaa
