/- Tables: the reference's key of a position of the laws is the program's. -/
import Derived.Test.YtpjocgebnodnoaaU2w
import Derived.Test.YtpjocgebnodnoaaUg
namespace Go.Proofs.Ytpjocgebnodnoaa
open Go.RowKit
set_option linter.unusedVariables false
set_option linter.unusedSimpArgs false
set_option maxRecDepth 100000
def sameK (b : List Int) (t c e : Int) : Bool := decide (i_alfilref17_Of.f 200 b t c e = i_key_Of.f 200 b t c e)
def litB : List Int := [4, 2, 3, 5, 6, 3, 2, 4, 1, 1, 1, 1, 1, 1, 1, 1, 0, 0, 0, 0, 0, 0, 0, 0, 0, 0, 0, 0, 0, 0, 0, 0, 0, 0, 0, 0, 0, 0, 0, 0, 0, 0, 0, 0, 0, 0, 0, 0, -1, -1, -1, -1, -1, -1, -1, -1, -4, -2, -3, -5, -6, -3, -2, -4]
theorem litB_is : decide (firstB = litB) = true := by decide +kernel
theorem andR1 (a : Int) : ∃ m : Nat, m < 2 ∧ Go.bits .and .i64 a 1 = (m : Int) := by
  unfold Go.bits
  refine ⟨(BitVec.ofInt IntKind.i64.bits a &&& BitVec.ofInt IntKind.i64.bits 1).toNat, ?_, ?_⟩
  · rw [BitVec.toNat_and]
    have h := Nat.and_le_right (n := (BitVec.ofInt IntKind.i64.bits a).toNat) (m := (BitVec.ofInt IntKind.i64.bits 1).toNat)
    have e : (BitVec.ofInt IntKind.i64.bits 1).toNat = 1 := by decide
    omega
  · have h := Nat.and_le_right (n := (BitVec.ofInt IntKind.i64.bits a).toNat) (m := (BitVec.ofInt IntKind.i64.bits 1).toNat)
    have e : (BitVec.ofInt IntKind.i64.bits 1).toNat = 1 := by decide
    rw [← BitVec.toNat_and] at h
    show IntKind.i64.wrap ((BitVec.ofInt IntKind.i64.bits a &&& BitVec.ofInt IntKind.i64.bits 1).toNat : Int) = _
    rw [i64_w, k64 (by omega) (by omega)]
theorem andR15 (a : Int) : ∃ m : Nat, m < 16 ∧ Go.bits .and .i64 a 15 = (m : Int) := by
  unfold Go.bits
  refine ⟨(BitVec.ofInt IntKind.i64.bits a &&& BitVec.ofInt IntKind.i64.bits 15).toNat, ?_, ?_⟩
  · rw [BitVec.toNat_and]
    have h := Nat.and_le_right (n := (BitVec.ofInt IntKind.i64.bits a).toNat) (m := (BitVec.ofInt IntKind.i64.bits 15).toNat)
    have e : (BitVec.ofInt IntKind.i64.bits 15).toNat = 15 := by decide
    omega
  · have h := Nat.and_le_right (n := (BitVec.ofInt IntKind.i64.bits a).toNat) (m := (BitVec.ofInt IntKind.i64.bits 15).toNat)
    have e : (BitVec.ofInt IntKind.i64.bits 15).toNat = 15 := by decide
    rw [← BitVec.toNat_and] at h
    show IntKind.i64.wrap ((BitVec.ofInt IntKind.i64.bits a &&& BitVec.ofInt IntKind.i64.bits 15).toNat : Int) = _
    rw [i64_w, k64 (by omega) (by omega)]
theorem andR63 (a : Int) : ∃ m : Nat, m < 64 ∧ Go.bits .and .i64 a 63 = (m : Int) := by
  unfold Go.bits
  refine ⟨(BitVec.ofInt IntKind.i64.bits a &&& BitVec.ofInt IntKind.i64.bits 63).toNat, ?_, ?_⟩
  · rw [BitVec.toNat_and]
    have h := Nat.and_le_right (n := (BitVec.ofInt IntKind.i64.bits a).toNat) (m := (BitVec.ofInt IntKind.i64.bits 63).toNat)
    have e : (BitVec.ofInt IntKind.i64.bits 63).toNat = 63 := by decide
    omega
  · have h := Nat.and_le_right (n := (BitVec.ofInt IntKind.i64.bits a).toNat) (m := (BitVec.ofInt IntKind.i64.bits 63).toNat)
    have e : (BitVec.ofInt IntKind.i64.bits 63).toNat = 63 := by decide
    rw [← BitVec.toNat_and] at h
    show IntKind.i64.wrap ((BitVec.ofInt IntKind.i64.bits a &&& BitVec.ofInt IntKind.i64.bits 63).toNat : Int) = _
    rw [i64_w, k64 (by omega) (by omega)]
theorem same_all : ((List.range 2).all fun t => (List.range 16).all fun c => (List.range 64).all fun e => sameK litB (t : Int) (c : Int) (e : Int)) = true := by decide +kernel
theorem same_at (n d : Int) : i_alfilref17_Of.f 200 (atK n d).1 (atK n d).2.1 (atK n d).2.2.1 (atK n d).2.2.2.1 = i_key_Of.f 200 (atK n d).1 (atK n d).2.1 (atK n d).2.2.1 (atK n d).2.2.2.1 := by
  obtain ⟨t, ht, et⟩ := andR1 n
  obtain ⟨c, hc, ec⟩ := andR15 (n / 2)
  obtain ⟨e, he, ee⟩ := andR63 (n / 32)
  unfold atK
  simp only [et, ec, ee]
  rw [of_decide_eq_true litB_is]
  have h := List.all_eq_true.1 same_all t (List.mem_range.2 ht)
  have h := List.all_eq_true.1 h c (List.mem_range.2 hc)
  have h := List.all_eq_true.1 h e (List.mem_range.2 he)
  exact of_decide_eq_true h
end Go.Proofs.Ytpjocgebnodnoaa
