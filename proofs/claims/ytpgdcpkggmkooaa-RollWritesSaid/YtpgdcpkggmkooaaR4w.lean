/- The walk of the law RollTwice. -/
import Derived.Test.YtpgdcpkggmkooaaProg
import Derived.Test.YtpgdcpkggmkooaaR3w
namespace Go.Proofs.Ytpgdcpkggmkooaa
open Go.RowKit
set_option linter.unusedVariables false
set_option linter.unusedSimpArgs false
theorem ub5 : Try.prog.underlying 5 = some (.int .u8) := by kernel_rfl
theorem us57 : Try.prog.underlying 57 = some (.slice 5) := by kernel_rfl
/-! i_alfillaw05_RollTwice: function 13 -/
def i_alfillaw05_RollTwice.f (k : Nat) (a0 : List Int) (a1 : Int) (a2 : Int) : Option (Bool) := (i_alfillaw05_wakes.f k).bind fun t2 => (if t2 = true then ((i_roll_Write.f k a0).bind fun bt3 => (if bt3.2 = 0 then (if bt3.1.size + 1 ≤ 9223372036854775807 then ((some (bt3.1 ++ (⟨#[32]⟩ : ByteArray))).bind fun s5 => (if 0 ≤ (Int.tmod a2 6) then (if (Int.tmod a2 6) ≤ (((Int.tmod a2 6) + 1) % 256) then (if (((Int.tmod a2 6) + 1) % 256) ≤ 6 then ((some ((⟨#[80, 78, 66, 82, 81, 75]⟩ : ByteArray).extract ((Int.tmod a2 6) : Int).toNat ((((Int.tmod a2 6) + 1) % 256) : Int).toNat)).bind fun s6 => (if s5.size + s6.size ≤ 9223372036854775807 then ((some (s5 ++ s6)).bind fun s7 => (if s7.size + (strOfNums [(97 + (Int.tmod (wrap64 (a1)) 8)) % 256, (49 + (wrap64 (Int.tdiv (Int.tmod (wrap64 (a1)) 64) 8))) % 256]).size ≤ 9223372036854775807 then ((some (s7 ++ (strOfNums [(97 + (Int.tmod (wrap64 (a1)) 8)) % 256, (49 + (wrap64 (Int.tdiv (Int.tmod (wrap64 (a1)) 64) 8))) % 256]))).bind fun s9 => ((i_roll_Read.f k s9).bind fun bt10 => (if 0 ≤ (Int.tmod (wrap64 (a1)) 64) then (if (Int.tmod (wrap64 (a1)) 64) < 64 then (if (nt a0 ((Int.tmod (wrap64 (a1)) 64).toNat) 0) = 0 then (if bt10.2.2 = 0 then (if bt10.2.1 = (s9.size : Int) then (if bt10.1 = (a0.set (Int.tmod (wrap64 (a1)) 64).toNat (IntKind.i8.wrap (-(IntKind.i8.wrap (((Int.tmod a2 6) + 1) % 256))))) then (some true) else (some false)) else (some false)) else (some false)) else (if bt10.1 = zL then (if bt10.2.1 = (wrap64 ((s9.size : Int) - 1)) then (some (bt10.2.2 == 2)) else (some false)) else (some false))) else (none)) else (none)))) else (none))) else (none))) else (none)) else (none)) else (none))) else (none)) else (some (bt3.1.toList == ([] : List UInt8))))) else (some false))
set_option maxHeartbeats 40000000 in
set_option maxRecDepth 100000 in
theorem i_alfillaw05_RollTwice.calls (k : Nat) (a0 : List Int) (a1 : Int) (a2 : Int) (hla0 : a0.length = 64) (r1 : Bool) (w : World) (h : i_alfillaw05_RollTwice.f k a0 a1 a2 = some r1) :
    Calls Try.prog 13 #[.agg (bv a0), .int .u8 a1, .int .u8 a2] w fun e w' => e = .returned (.bool r1) ∧ Below w.heap.size w w' := by
 have LN_a0 := hid hla0
 clear hla0
 have HL := hid (Below.refl w.heap.size w)
 have H : ((i_alfillaw05_wakes.f k).bind fun t2 => (if t2 = true then ((i_roll_Write.f k a0).bind fun bt3 => (if bt3.2 = 0 then (if bt3.1.size + 1 ≤ 9223372036854775807 then ((some (bt3.1 ++ (⟨#[32]⟩ : ByteArray))).bind fun s5 => (if 0 ≤ (Int.tmod a2 6) then (if (Int.tmod a2 6) ≤ (((Int.tmod a2 6) + 1) % 256) then (if (((Int.tmod a2 6) + 1) % 256) ≤ 6 then ((some ((⟨#[80, 78, 66, 82, 81, 75]⟩ : ByteArray).extract ((Int.tmod a2 6) : Int).toNat ((((Int.tmod a2 6) + 1) % 256) : Int).toNat)).bind fun s6 => (if s5.size + s6.size ≤ 9223372036854775807 then ((some (s5 ++ s6)).bind fun s7 => (if s7.size + (strOfNums [(97 + (Int.tmod (wrap64 (a1)) 8)) % 256, (49 + (wrap64 (Int.tdiv (Int.tmod (wrap64 (a1)) 64) 8))) % 256]).size ≤ 9223372036854775807 then ((some (s7 ++ (strOfNums [(97 + (Int.tmod (wrap64 (a1)) 8)) % 256, (49 + (wrap64 (Int.tdiv (Int.tmod (wrap64 (a1)) 64) 8))) % 256]))).bind fun s9 => ((i_roll_Read.f k s9).bind fun bt10 => (if 0 ≤ (Int.tmod (wrap64 (a1)) 64) then (if (Int.tmod (wrap64 (a1)) 64) < 64 then (if (nt a0 ((Int.tmod (wrap64 (a1)) 64).toNat) 0) = 0 then (if bt10.2.2 = 0 then (if bt10.2.1 = (s9.size : Int) then (if bt10.1 = (a0.set (Int.tmod (wrap64 (a1)) 64).toNat (IntKind.i8.wrap (-(IntKind.i8.wrap (((Int.tmod a2 6) + 1) % 256))))) then (some true) else (some false)) else (some false)) else (some false)) else (if bt10.1 = zL then (if bt10.2.1 = (wrap64 ((s9.size : Int) - 1)) then (some (bt10.2.2 == 2)) else (some false)) else (some false))) else (none)) else (none)))) else (none))) else (none))) else (none)) else (none)) else (none))) else (none)) else (some (bt3.1.toList == ([] : List UInt8))))) else (some false))) = some r1 := h
 clear h
 replace H := Option.bind_eq_some_iff.mp H
 obtain ⟨t2, A15_, H⟩ := H
 replace H : (if t2 = true then ((i_roll_Write.f k a0).bind fun bt3 => (if bt3.2 = 0 then (if bt3.1.size + 1 ≤ 9223372036854775807 then ((some (bt3.1 ++ (⟨#[32]⟩ : ByteArray))).bind fun s5 => (if 0 ≤ (Int.tmod a2 6) then (if (Int.tmod a2 6) ≤ (((Int.tmod a2 6) + 1) % 256) then (if (((Int.tmod a2 6) + 1) % 256) ≤ 6 then ((some ((⟨#[80, 78, 66, 82, 81, 75]⟩ : ByteArray).extract ((Int.tmod a2 6) : Int).toNat ((((Int.tmod a2 6) + 1) % 256) : Int).toNat)).bind fun s6 => (if s5.size + s6.size ≤ 9223372036854775807 then ((some (s5 ++ s6)).bind fun s7 => (if s7.size + (strOfNums [(97 + (Int.tmod (wrap64 (a1)) 8)) % 256, (49 + (wrap64 (Int.tdiv (Int.tmod (wrap64 (a1)) 64) 8))) % 256]).size ≤ 9223372036854775807 then ((some (s7 ++ (strOfNums [(97 + (Int.tmod (wrap64 (a1)) 8)) % 256, (49 + (wrap64 (Int.tdiv (Int.tmod (wrap64 (a1)) 64) 8))) % 256]))).bind fun s9 => ((i_roll_Read.f k s9).bind fun bt10 => (if 0 ≤ (Int.tmod (wrap64 (a1)) 64) then (if (Int.tmod (wrap64 (a1)) 64) < 64 then (if (nt a0 ((Int.tmod (wrap64 (a1)) 64).toNat) 0) = 0 then (if bt10.2.2 = 0 then (if bt10.2.1 = (s9.size : Int) then (if bt10.1 = (a0.set (Int.tmod (wrap64 (a1)) 64).toNat (IntKind.i8.wrap (-(IntKind.i8.wrap (((Int.tmod a2 6) + 1) % 256))))) then (some true) else (some false)) else (some false)) else (some false)) else (if bt10.1 = zL then (if bt10.2.1 = (wrap64 ((s9.size : Int) - 1)) then (some (bt10.2.2 == 2)) else (some false)) else (some false))) else (none)) else (none)))) else (none))) else (none))) else (none)) else (none)) else (none))) else (none)) else (some (bt3.1.toList == ([] : List UInt8))))) else (some false)) = some r1 := H
 have A15 := hid A15_
 clear A15_
 cases t2 with
 | true =>
  rw [if_pos rfl] at H
  replace H := Option.bind_eq_some_iff.mp H
  obtain ⟨⟨t3, t4⟩, A17_, H⟩ := H
  replace H : (if t4 = 0 then (if t3.size + 1 ≤ 9223372036854775807 then ((some (t3 ++ (⟨#[32]⟩ : ByteArray))).bind fun s5 => (if 0 ≤ (Int.tmod a2 6) then (if (Int.tmod a2 6) ≤ (((Int.tmod a2 6) + 1) % 256) then (if (((Int.tmod a2 6) + 1) % 256) ≤ 6 then ((some ((⟨#[80, 78, 66, 82, 81, 75]⟩ : ByteArray).extract ((Int.tmod a2 6) : Int).toNat ((((Int.tmod a2 6) + 1) % 256) : Int).toNat)).bind fun s6 => (if s5.size + s6.size ≤ 9223372036854775807 then ((some (s5 ++ s6)).bind fun s7 => (if s7.size + (strOfNums [(97 + (Int.tmod (wrap64 (a1)) 8)) % 256, (49 + (wrap64 (Int.tdiv (Int.tmod (wrap64 (a1)) 64) 8))) % 256]).size ≤ 9223372036854775807 then ((some (s7 ++ (strOfNums [(97 + (Int.tmod (wrap64 (a1)) 8)) % 256, (49 + (wrap64 (Int.tdiv (Int.tmod (wrap64 (a1)) 64) 8))) % 256]))).bind fun s9 => ((i_roll_Read.f k s9).bind fun bt10 => (if 0 ≤ (Int.tmod (wrap64 (a1)) 64) then (if (Int.tmod (wrap64 (a1)) 64) < 64 then (if (nt a0 ((Int.tmod (wrap64 (a1)) 64).toNat) 0) = 0 then (if bt10.2.2 = 0 then (if bt10.2.1 = (s9.size : Int) then (if bt10.1 = (a0.set (Int.tmod (wrap64 (a1)) 64).toNat (IntKind.i8.wrap (-(IntKind.i8.wrap (((Int.tmod a2 6) + 1) % 256))))) then (some true) else (some false)) else (some false)) else (some false)) else (if bt10.1 = zL then (if bt10.2.1 = (wrap64 ((s9.size : Int) - 1)) then (some (bt10.2.2 == 2)) else (some false)) else (some false))) else (none)) else (none)))) else (none))) else (none))) else (none)) else (none)) else (none))) else (none)) else (some (t3.toList == ([] : List UInt8)))) = some r1 := H
  have A17 := hid A17_
  clear A17_
  by_cases c18 : t4 = 0
  ·
   rw [if_pos c18] at H
   have c18b0 : (t4 == 0) = true := beq_iff_eq.mpr c18
   have c18b1 : (t4 != 0) = false := bne_eq_false_iff_eq.mpr c18
   have hc18 := hid c18
   clear c18
   by_cases c19 : t3.size + 1 ≤ 9223372036854775807
   ·
    rw [if_pos c19] at H
    have hc19 := hid c19
    clear c19
    replace H := Option.bind_eq_some_iff.mp H
    obtain ⟨s5, A20_, H⟩ := H
    replace H : (if 0 ≤ (Int.tmod a2 6) then (if (Int.tmod a2 6) ≤ (((Int.tmod a2 6) + 1) % 256) then (if (((Int.tmod a2 6) + 1) % 256) ≤ 6 then ((some ((⟨#[80, 78, 66, 82, 81, 75]⟩ : ByteArray).extract ((Int.tmod a2 6) : Int).toNat ((((Int.tmod a2 6) + 1) % 256) : Int).toNat)).bind fun s6 => (if s5.size + s6.size ≤ 9223372036854775807 then ((some (s5 ++ s6)).bind fun s7 => (if s7.size + (strOfNums [(97 + (Int.tmod (wrap64 (a1)) 8)) % 256, (49 + (wrap64 (Int.tdiv (Int.tmod (wrap64 (a1)) 64) 8))) % 256]).size ≤ 9223372036854775807 then ((some (s7 ++ (strOfNums [(97 + (Int.tmod (wrap64 (a1)) 8)) % 256, (49 + (wrap64 (Int.tdiv (Int.tmod (wrap64 (a1)) 64) 8))) % 256]))).bind fun s9 => ((i_roll_Read.f k s9).bind fun bt10 => (if 0 ≤ (Int.tmod (wrap64 (a1)) 64) then (if (Int.tmod (wrap64 (a1)) 64) < 64 then (if (nt a0 ((Int.tmod (wrap64 (a1)) 64).toNat) 0) = 0 then (if bt10.2.2 = 0 then (if bt10.2.1 = (s9.size : Int) then (if bt10.1 = (a0.set (Int.tmod (wrap64 (a1)) 64).toNat (IntKind.i8.wrap (-(IntKind.i8.wrap (((Int.tmod a2 6) + 1) % 256))))) then (some true) else (some false)) else (some false)) else (some false)) else (if bt10.1 = zL then (if bt10.2.1 = (wrap64 ((s9.size : Int) - 1)) then (some (bt10.2.2 == 2)) else (some false)) else (some false))) else (none)) else (none)))) else (none))) else (none))) else (none)) else (none)) else (none)) = some r1 := H
    have A20 := hid A20_
    clear A20_
    by_cases c21 : 0 ≤ (Int.tmod a2 6)
    ·
     rw [if_pos c21] at H
     have c21b0 : decide (0 ≤ (Int.tmod a2 6)) = true := decide_eq_true c21
     have hc21 := hid c21
     clear c21
     by_cases c22 : (Int.tmod a2 6) ≤ (((Int.tmod a2 6) + 1) % 256)
     ·
      rw [if_pos c22] at H
      have c22b0 : decide ((Int.tmod a2 6) ≤ (((Int.tmod a2 6) + 1) % 256)) = true := decide_eq_true c22
      have hc22 := hid c22
      clear c22
      by_cases c23 : (((Int.tmod a2 6) + 1) % 256) ≤ 6
      ·
       rw [if_pos c23] at H
       have c23b0 : decide ((((Int.tmod a2 6) + 1) % 256) ≤ 6) = true := decide_eq_true c23
       have hc23 := hid c23
       clear c23
       replace H := Option.bind_eq_some_iff.mp H
       obtain ⟨s6, A24_, H⟩ := H
       replace H : (if s5.size + s6.size ≤ 9223372036854775807 then ((some (s5 ++ s6)).bind fun s7 => (if s7.size + (strOfNums [(97 + (Int.tmod (wrap64 (a1)) 8)) % 256, (49 + (wrap64 (Int.tdiv (Int.tmod (wrap64 (a1)) 64) 8))) % 256]).size ≤ 9223372036854775807 then ((some (s7 ++ (strOfNums [(97 + (Int.tmod (wrap64 (a1)) 8)) % 256, (49 + (wrap64 (Int.tdiv (Int.tmod (wrap64 (a1)) 64) 8))) % 256]))).bind fun s9 => ((i_roll_Read.f k s9).bind fun bt10 => (if 0 ≤ (Int.tmod (wrap64 (a1)) 64) then (if (Int.tmod (wrap64 (a1)) 64) < 64 then (if (nt a0 ((Int.tmod (wrap64 (a1)) 64).toNat) 0) = 0 then (if bt10.2.2 = 0 then (if bt10.2.1 = (s9.size : Int) then (if bt10.1 = (a0.set (Int.tmod (wrap64 (a1)) 64).toNat (IntKind.i8.wrap (-(IntKind.i8.wrap (((Int.tmod a2 6) + 1) % 256))))) then (some true) else (some false)) else (some false)) else (some false)) else (if bt10.1 = zL then (if bt10.2.1 = (wrap64 ((s9.size : Int) - 1)) then (some (bt10.2.2 == 2)) else (some false)) else (some false))) else (none)) else (none)))) else (none))) else (none)) = some r1 := H
       have A24 := hid A24_
       clear A24_
       by_cases c25 : s5.size + s6.size ≤ 9223372036854775807
       ·
        rw [if_pos c25] at H
        have hc25 := hid c25
        clear c25
        replace H := Option.bind_eq_some_iff.mp H
        obtain ⟨s7, A26_, H⟩ := H
        replace H : (if s7.size + (strOfNums [(97 + (Int.tmod (wrap64 (a1)) 8)) % 256, (49 + (wrap64 (Int.tdiv (Int.tmod (wrap64 (a1)) 64) 8))) % 256]).size ≤ 9223372036854775807 then ((some (s7 ++ (strOfNums [(97 + (Int.tmod (wrap64 (a1)) 8)) % 256, (49 + (wrap64 (Int.tdiv (Int.tmod (wrap64 (a1)) 64) 8))) % 256]))).bind fun s9 => ((i_roll_Read.f k s9).bind fun bt10 => (if 0 ≤ (Int.tmod (wrap64 (a1)) 64) then (if (Int.tmod (wrap64 (a1)) 64) < 64 then (if (nt a0 ((Int.tmod (wrap64 (a1)) 64).toNat) 0) = 0 then (if bt10.2.2 = 0 then (if bt10.2.1 = (s9.size : Int) then (if bt10.1 = (a0.set (Int.tmod (wrap64 (a1)) 64).toNat (IntKind.i8.wrap (-(IntKind.i8.wrap (((Int.tmod a2 6) + 1) % 256))))) then (some true) else (some false)) else (some false)) else (some false)) else (if bt10.1 = zL then (if bt10.2.1 = (wrap64 ((s9.size : Int) - 1)) then (some (bt10.2.2 == 2)) else (some false)) else (some false))) else (none)) else (none)))) else (none)) = some r1 := H
        have A26 := hid A26_
        clear A26_
        by_cases c27 : s7.size + (strOfNums [(97 + (Int.tmod (wrap64 (a1)) 8)) % 256, (49 + (wrap64 (Int.tdiv (Int.tmod (wrap64 (a1)) 64) 8))) % 256]).size ≤ 9223372036854775807
        ·
         rw [if_pos c27] at H
         have hc27 := hid c27
         clear c27
         replace H := Option.bind_eq_some_iff.mp H
         obtain ⟨s9, A28_, H⟩ := H
         replace H : ((i_roll_Read.f k s9).bind fun bt10 => (if 0 ≤ (Int.tmod (wrap64 (a1)) 64) then (if (Int.tmod (wrap64 (a1)) 64) < 64 then (if (nt a0 ((Int.tmod (wrap64 (a1)) 64).toNat) 0) = 0 then (if bt10.2.2 = 0 then (if bt10.2.1 = (s9.size : Int) then (if bt10.1 = (a0.set (Int.tmod (wrap64 (a1)) 64).toNat (IntKind.i8.wrap (-(IntKind.i8.wrap (((Int.tmod a2 6) + 1) % 256))))) then (some true) else (some false)) else (some false)) else (some false)) else (if bt10.1 = zL then (if bt10.2.1 = (wrap64 ((s9.size : Int) - 1)) then (some (bt10.2.2 == 2)) else (some false)) else (some false))) else (none)) else (none))) = some r1 := H
         have A28 := hid A28_
         clear A28_
         replace H := Option.bind_eq_some_iff.mp H
         obtain ⟨⟨t10, t11, t12⟩, A29_, H⟩ := H
         replace H : (if 0 ≤ (Int.tmod (wrap64 (a1)) 64) then (if (Int.tmod (wrap64 (a1)) 64) < 64 then (if (nt a0 ((Int.tmod (wrap64 (a1)) 64).toNat) 0) = 0 then (if t12 = 0 then (if t11 = (s9.size : Int) then (if t10 = (a0.set (Int.tmod (wrap64 (a1)) 64).toNat (IntKind.i8.wrap (-(IntKind.i8.wrap (((Int.tmod a2 6) + 1) % 256))))) then (some true) else (some false)) else (some false)) else (some false)) else (if t10 = zL then (if t11 = (wrap64 ((s9.size : Int) - 1)) then (some (t12 == 2)) else (some false)) else (some false))) else (none)) else (none)) = some r1 := H
         have A29 := hid A29_
         clear A29_
         by_cases c30 : 0 ≤ (Int.tmod (wrap64 (a1)) 64)
         ·
          rw [if_pos c30] at H
          have c30b0 : decide (0 ≤ (Int.tmod (wrap64 (a1)) 64)) = true := decide_eq_true c30
          have hc30 := hid c30
          clear c30
          by_cases c31 : (Int.tmod (wrap64 (a1)) 64) < 64
          ·
           rw [if_pos c31] at H
           have c31b0 : decide ((Int.tmod (wrap64 (a1)) 64) < 64) = true := decide_eq_true c31
           have hc31 := hid c31
           clear c31
           by_cases c32 : (nt a0 ((Int.tmod (wrap64 (a1)) 64).toNat) 0) = 0
           ·
            rw [if_pos c32] at H
            have c32b0 : ((nt a0 ((Int.tmod (wrap64 (a1)) 64).toNat) 0) == 0) = true := beq_iff_eq.mpr c32
            have c32b1 : ((nt a0 ((Int.tmod (wrap64 (a1)) 64).toNat) 0) != 0) = false := bne_eq_false_iff_eq.mpr c32
            have hc32 := hid c32
            clear c32
            by_cases c33 : t12 = 0
            ·
             rw [if_pos c33] at H
             have c33b0 : (t12 == 0) = true := beq_iff_eq.mpr c33
             have c33b1 : (t12 != 0) = false := bne_eq_false_iff_eq.mpr c33
             have hc33 := hid c33
             clear c33
             by_cases c34 : t11 = (s9.size : Int)
             ·
              rw [if_pos c34] at H
              have c34b0 : (t11 == (s9.size : Int)) = true := beq_iff_eq.mpr c34
              have c34b1 : (t11 != (s9.size : Int)) = false := bne_eq_false_iff_eq.mpr c34
              have hc34 := hid c34
              clear c34
              by_cases c35 : t10 = (a0.set (Int.tmod (wrap64 (a1)) 64).toNat (IntKind.i8.wrap (-(IntKind.i8.wrap (((Int.tmod a2 6) + 1) % 256)))))
              ·
               rw [if_pos c35] at H
               have c35b0 : (t10 == (a0.set (Int.tmod (wrap64 (a1)) 64).toNat (IntKind.i8.wrap (-(IntKind.i8.wrap (((Int.tmod a2 6) + 1) % 256)))))) = true := beq_iff_eq.mpr c35
               have c35b1 : (t10 != (a0.set (Int.tmod (wrap64 (a1)) 64).toNat (IntKind.i8.wrap (-(IntKind.i8.wrap (((Int.tmod a2 6) + 1) % 256)))))) = false := bne_eq_false_iff_eq.mpr c35
               have hc35 := hid c35
               clear c35
               obtain rfl := Option.some.inj H
               clear H
               go_enter Try.func13, Try.ntmps13
               have k37 := True.intro
               have k39 := True.intro
               go_wp2_with (first
                | ((with_reducible refine gate_d (N := 3) rfl ?_); obtain ⟨gb1, hgb1⟩ : ∃ g_, w.heap.size = g_ := ⟨_, rfl⟩; refine ag_box (bv a0) gb1 hgb1 rfl _ rfl rfl ?_; intro w36 hb_ hB_ hs_; have GEb1 : Hid (w.heap.size ≤ gb1) := hid (by have := HL.out.size; omega); replace HL := hid (HL.out.trans (hb_.mono GEb1.out)); have BKb1 := hid hB_; clear hb_ hB_ hs_ hgb1)
                | (go_at_call 41; clear k37; refine (i_alfillaw05_wakes.calls k true _ A15.out).mono ?_; rintro e_ w38 ⟨rfl, hb_⟩; replace BKb1 := hid (BKb1.out.below hb_ BKb1.out.lt); replace HL := hid (HL.out.trans (hb_.mono HL.out.size)); clear hb_)
                | ((with_reducible refine gate_d (N := 18) rfl ?_); refine ag_fix (.agg (bv a0)) (ex_load boardT gb1 0 (bv a0) (bv a0) BKb1.out (av_le (by first | rfl | (simp only [List.length_set, List.length_replicate, zL_len, List.length_cons, List.length_nil, LN_a0.out]; done) | (simp [zL_len, LN_a0.out]; done))) (av_ex (by first | rfl | (simp only [List.length_set, List.length_replicate, zL_len, List.length_cons, List.length_nil, LN_a0.out]; done) | (simp [zL_len, LN_a0.out]; done))) _ rfl rfl) rfl ?_)
                | (go_at_call 42; clear k39; refine (i_roll_Write.calls k a0 (by first | rfl | (simp only [List.length_set, List.length_replicate, zL_len, List.length_cons, List.length_nil, LN_a0.out]; done) | (simp [zL_len, LN_a0.out]; done)) t3 t4 _ A17.out).mono ?_; rintro e_ w40 ⟨rfl, hb_⟩; replace BKb1 := hid (BKb1.out.below hb_ BKb1.out.lt); replace HL := hid (HL.out.trans (hb_.mono HL.out.size)); clear hb_))
               (try simp only [Act.put, List.setIfInBounds_toArray, List.set_cons_zero, List.set_cons_succ])
               have WR64 := i64_w
               have WR32 := i32_w
               have WR8 := u8_w
               have WRU := u32_w
               refine sq_region (fun w'_ => Below w.heap.size w w'_ ∧ Blk w'_ gb1 24 (bv a0) ∧ True) [17, 18] [(0, 2), (1, 2), (2, 2), (3, 2), (4, 2), (5, 2), (6, 2), (7, 2), (8, 2), (9, 2), (10, 2), (11, 2), (12, 2), (13, 2), (14, 2), (15, 2), (16, 2), (17, 0), (18, 0), (19, 2), (20, 2)] (by kernel_rfl) (by kernel_rfl) (by kernel_rfl) rfl ?_
               intro w41 hb_
               replace BKb1 := hid (BKb1.out.below hb_ BKb1.out.lt)
               replace HL := hid (HL.out.trans (hb_.mono HL.out.size))
               clear hb_
               refine sq_pure (.string t3) rfl (fun w'_ => ex_mv (.tmp 7) (.inl rfl) _ rfl) rfl rfl ?_
               intro ts_ ht_; simp only [List.setIfInBounds_toArray, List.set_cons_zero, List.set_cons_succ] at ht_; subst ht_
               refine sq_pure (.string s5) rfl (fun w'_ => (ex_cat 9 t3 (⟨#[32]⟩ : ByteArray) hc19.out _ _ _ rfl rfl rfl).trans (by rw [Option.some.inj A20.out])) rfl rfl ?_
               intro ts_ ht_; simp only [List.setIfInBounds_toArray, List.set_cons_zero, List.set_cons_succ] at ht_; subst ht_
               refine sq_pure (.int .u8 a2) rfl (fun w'_ => ex_mv (.tmp 2) (.inl rfl) _ rfl) rfl rfl ?_
               intro ts_ ht_; simp only [List.setIfInBounds_toArray, List.set_cons_zero, List.set_cons_succ] at ht_; subst ht_
               refine sq_pure (.int .u8 (Int.tmod a2 6)) rfl (fun w'_ => by go_simp) rfl rfl ?_
               intro ts_ ht_; simp only [List.setIfInBounds_toArray, List.set_cons_zero, List.set_cons_succ] at ht_; subst ht_
               refine sq_pure (.int .u8 a2) rfl (fun w'_ => ex_mv (.tmp 2) (.inl rfl) _ rfl) rfl rfl ?_
               intro ts_ ht_; simp only [List.setIfInBounds_toArray, List.set_cons_zero, List.set_cons_succ] at ht_; subst ht_
               refine sq_pure (.int .u8 (Int.tmod a2 6)) rfl (fun w'_ => by go_simp) rfl rfl ?_
               intro ts_ ht_; simp only [List.setIfInBounds_toArray, List.set_cons_zero, List.set_cons_succ] at ht_; subst ht_
               refine sq_pure (.int .u8 (((Int.tmod a2 6) + 1) % 256)) rfl (fun w'_ => by go_simp) rfl rfl ?_
               intro ts_ ht_; simp only [List.setIfInBounds_toArray, List.set_cons_zero, List.set_cons_succ] at ht_; subst ht_
               refine sq_pure (.string s6) rfl (fun w'_ => (ex_cut_lhK 9 und_txt (⟨#[80, 78, 66, 82, 81, 75]⟩ : ByteArray) (Int.tmod a2 6) (((Int.tmod a2 6) + 1) % 256) hc21.out hc22.out hc23.out _ _ _ rfl rfl rfl rfl).trans (by rw [Option.some.inj A24.out])) rfl rfl ?_
               intro ts_ ht_; simp only [List.setIfInBounds_toArray, List.set_cons_zero, List.set_cons_succ] at ht_; subst ht_
               refine sq_pure (.string s7) rfl (fun w'_ => (ex_cat 9 s5 s6 hc25.out _ _ _ rfl rfl rfl).trans (by rw [Option.some.inj A26.out])) rfl rfl ?_
               intro ts_ ht_; simp only [List.setIfInBounds_toArray, List.set_cons_zero, List.set_cons_succ] at ht_; subst ht_
               refine sq_pure (.int .i64 (Int.tmod (wrap64 (a1)) 64)) rfl (fun w'_ => ex_mv (.tmp 9) (.inl rfl) _ rfl) rfl rfl ?_
               intro ts_ ht_; simp only [List.setIfInBounds_toArray, List.set_cons_zero, List.set_cons_succ] at ht_; subst ht_
               refine sq_pure (.int .i64 (Int.tmod (wrap64 (a1)) 8)) rfl (fun w'_ => by go_simp) rfl rfl ?_
               intro ts_ ht_; simp only [List.setIfInBounds_toArray, List.set_cons_zero, List.set_cons_succ] at ht_; subst ht_
               refine sq_pure (.int .u8 ((Int.tmod (wrap64 (a1)) 8) % 256)) rfl (fun w'_ => by go_simp) rfl rfl ?_
               intro ts_ ht_; simp only [List.setIfInBounds_toArray, List.set_cons_zero, List.set_cons_succ] at ht_; subst ht_
               refine sq_pure (.int .u8 ((97 + (Int.tmod (wrap64 (a1)) 8)) % 256)) rfl (fun w'_ => by go_simp) rfl rfl ?_
               intro ts_ ht_; simp only [List.setIfInBounds_toArray, List.set_cons_zero, List.set_cons_succ] at ht_; subst ht_
               refine sq_pure (.int .i64 (Int.tmod (wrap64 (a1)) 64)) rfl (fun w'_ => ex_mv (.tmp 9) (.inl rfl) _ rfl) rfl rfl ?_
               intro ts_ ht_; simp only [List.setIfInBounds_toArray, List.set_cons_zero, List.set_cons_succ] at ht_; subst ht_
               refine sq_pure (.int .i64 (wrap64 (Int.tdiv (Int.tmod (wrap64 (a1)) 64) 8))) rfl (fun w'_ => by go_simp) rfl rfl ?_
               intro ts_ ht_; simp only [List.setIfInBounds_toArray, List.set_cons_zero, List.set_cons_succ] at ht_; subst ht_
               refine sq_pure (.int .u8 ((wrap64 (Int.tdiv (Int.tmod (wrap64 (a1)) 64) 8)) % 256)) rfl (fun w'_ => by go_simp) rfl rfl ?_
               intro ts_ ht_; simp only [List.setIfInBounds_toArray, List.set_cons_zero, List.set_cons_succ] at ht_; subst ht_
               refine sq_pure (.int .u8 ((49 + (wrap64 (Int.tdiv (Int.tmod (wrap64 (a1)) 64) 8))) % 256)) rfl (fun w'_ => by go_simp) rfl rfl ?_
               intro ts_ ht_; simp only [List.setIfInBounds_toArray, List.set_cons_zero, List.set_cons_succ] at ht_; subst ht_
               refine sq_act rfl (fun Q'_ hQ_ => ?_)
               (with_reducible refine gate_d (N := 46) rfl ?_)
               obtain ⟨go8, hgo8⟩ : ∃ g_, w41.heap.size = g_ := ⟨_, rfl⟩
               refine ag_litn (e := 5) 2 #[.int .u8 ((97 + (Int.tmod (wrap64 (a1)) 8)) % 256), .int .u8 ((49 + (wrap64 (Int.tdiv (Int.tmod (wrap64 (a1)) 64) 8))) % 256)] go8 hgo8 rfl _ rfl (fun w_ => by (try simp only [List.map_toArray, List.map_cons, List.map_nil]); kernel_rfl) ?_
               intro w42 hb_ hB_ hs_
               have GEo8 : Hid (w.heap.size ≤ go8) := hid (by have := HL.out.size; omega)
               have NBb1_o8 : Hid (gb1 ≠ go8) := hid (by have := BKb1.out.lt; omega)
               have NBo8_b1 : Hid (go8 ≠ gb1) := hid (by have := NBb1_o8.out; omega)
               replace BKb1 := hid (BKb1.out.below hb_ (by rw [← hgo8]; exact BKb1.out.lt))
               replace HL := hid (HL.out.trans (hb_.mono GEo8.out))
               have BKo8 := hid hB_
               clear hb_ hB_ hs_ hgo8
               obtain ⟨uo8, hu_⟩ : ∃ u_, u_ = (Value.slice (some ⟨go8, 0, none⟩) 2 2) := ⟨_, rfl⟩
               have SWo8 : Hid (Own w42 w.heap.size 5 (uo8) ([(97 + (Int.tmod (wrap64 (a1)) 8)) % 256, (49 + (wrap64 (Int.tdiv (Int.tmod (wrap64 (a1)) 64) 8))) % 256].map (Value.int .u8))) := hid (by rw [hu_]; exact Own.lit GEo8.out BKo8.out rfl (by simp [maxLen]))
               rw [← hu_]
               clear hu_ BKo8
               refine act_end ?_
               refine hQ_ _ _ (fun h_ => absurd h_ (by decide)) ?_
               clear hQ_ Q'_
               simp only [Act.put, List.setIfInBounds_toArray, List.set_cons_zero, List.set_cons_succ]
               refine sq_act rfl (fun Q'_ hQ_ => ?_)
               (with_reducible refine gate_d (N := 47) rfl ?_)
               refine ag_fix (.string (strOfNums [(97 + (Int.tmod (wrap64 (a1)) 8)) % 256, (49 + (wrap64 (Int.tdiv (Int.tmod (wrap64 (a1)) 64) 8))) % 256])) (ex_bstr SWo8.out (by simp) 57 9 5 us57 ub5 und_txt _ rfl rfl) rfl ?_
               refine act_end ?_
               refine hQ_ _ _ (fun h_ => absurd h_ (by decide)) ?_
               clear hQ_ Q'_
               simp only [Act.put, List.setIfInBounds_toArray, List.set_cons_zero, List.set_cons_succ]
               refine sq_pure (.string s9) rfl (fun w'_ => (ex_cat 9 s7 (strOfNums [(97 + (Int.tmod (wrap64 (a1)) 8)) % 256, (49 + (wrap64 (Int.tdiv (Int.tmod (wrap64 (a1)) 64) 8))) % 256]) hc27.out _ _ _ rfl rfl rfl).trans (by rw [Option.some.inj A28.out])) rfl rfl ?_
               intro ts_ ht_; simp only [List.setIfInBounds_toArray, List.set_cons_zero, List.set_cons_succ] at ht_; subst ht_
               refine sq_pure (.string s9) rfl (fun w'_ => ex_mv (.tmp 48) (.inr rfl) _ rfl) rfl rfl ?_
               intro ts_ ht_; simp only [List.setIfInBounds_toArray, List.set_cons_zero, List.set_cons_succ] at ht_; subst ht_
               refine sq_end ?_
               clear WR64 WR32 WR8 WRU
               have k43 := True.intro
               go_wp2_with (first
                | (go_at_call 44; clear k43; refine (i_roll_Read.calls k s9 t10 t11 t12 _ A29.out).mono ?_; rintro e_ w44 ⟨rfl, ln_t10, hb_⟩; have LN_t10 := hid ln_t10; clear ln_t10; replace BKb1 := hid (BKb1.out.below hb_ BKb1.out.lt); replace SWo8 := hid (SWo8.out.below hb_); replace HL := hid (HL.out.trans (hb_.mono HL.out.size)); clear hb_)
                | ((with_reducible refine gate_d (N := 11) rfl ?_); obtain ⟨gb13, hgb13⟩ : ∃ g_, w44.heap.size = g_ := ⟨_, rfl⟩; refine ag_alloc boardT gb13 hgb13 rfl rfl ?_; intro w45 hb_ hB_ hs_; have GEb13 : Hid (w.heap.size ≤ gb13) := hid (by have := HL.out.size; omega); have NBb1_b13 : Hid (gb1 ≠ gb13) := hid (by have := BKb1.out.lt; omega); have NBb13_b1 : Hid (gb13 ≠ gb1) := hid (by have := NBb1_b13.out; omega); replace BKb1 := hid (BKb1.out.below hb_ (by rw [← hgb13]; exact BKb1.out.lt)); replace SWo8 := hid (SWo8.out.below (by rw [hgb13]; exact hb_)); replace HL := hid (HL.out.trans (hb_.mono GEb13.out)); have BKb13 := hid hB_; clear hb_ hB_ hs_ hgb13)
                | ((with_reducible refine gate_s (t := 24) (p := 11) rfl ?_); refine ag_store boardT gb13 0 (bv zL) (bv t10) (bv t10) BKb13.out (by rw [show (bv t10) = av (Value.int .i8) t10 from rfl, av_size]; exact (by first | rfl | (simp only [List.length_set, List.length_replicate, zL_len, List.length_cons, List.length_nil, LN_a0.out, LN_t10.out]; done) | (simp [zL_len, LN_a0.out, LN_t10.out]; done))) (av_le (by first | rfl | (simp only [List.length_set, List.length_replicate, zL_len, List.length_cons, List.length_nil, LN_a0.out, LN_t10.out]; done) | (simp [zL_len, LN_a0.out, LN_t10.out]; done))) (av_one (fun _ => rfl)) (av_put (by first | rfl | (simp only [List.length_set, List.length_replicate, zL_len, List.length_cons, List.length_nil, LN_a0.out, LN_t10.out]; done) | (simp [zL_len, LN_a0.out, LN_t10.out]; done)) (by first | rfl | (simp only [List.length_set, List.length_replicate, zL_len, List.length_cons, List.length_nil, LN_a0.out, LN_t10.out]; done) | (simp [zL_len, LN_a0.out, LN_t10.out]; done))) rfl _ _ rfl rfl rfl ?_; intro w46 ho_ hB_; replace BKb1 := hid (BKb1.out.off ho_ NBb1_b13.out); replace SWo8 := hid (SWo8.out.off ho_ BKb13.out (by decide)); replace HL := hid (ho_.below HL.out GEb13.out); replace BKb13 := hid hB_; clear ho_ hB_)
                | ((with_reducible refine gate_d (N := 56) rfl ?_); refine ag_fix (.pointer (some ⟨gb1, (Int.tmod (wrap64 (a1)) 64).toNat, none⟩)) (ex_at 24 (.pointer (some ⟨gb1, 0, none⟩)) (.int .i64 (Int.tmod (wrap64 (a1)) 64)) (.pointer (some ⟨gb1, (Int.tmod (wrap64 (a1)) 64).toNat, none⟩)) (fun w_ => (run_atv 22 uT24 sT22.size gb1 0 (Int.tmod (wrap64 (a1)) 64) hc30.out hc31.out w_).trans (by simp)) _ _ rfl rfl rfl) rfl ?_)
                | ((with_reducible refine gate_d (N := 57) rfl ?_); refine ag_fix (.int .i8 (nt a0 ((Int.tmod (wrap64 (a1)) 64).toNat) 0)) (ex_get sT22 gb1 ((Int.tmod (wrap64 (a1)) 64).toNat) (.int .i8 (nt a0 ((Int.tmod (wrap64 (a1)) 64).toNat) 0)) ((bv a0)) BKb1.out (av_get 0 (by have h_ : a0.length = 64 := (by first | rfl | (simp only [List.length_set, List.length_replicate, zL_len, List.length_cons, List.length_nil, LN_a0.out, LN_t10.out]; done) | (simp [zL_len, LN_a0.out, LN_t10.out]; done)); have h1_ := hc30.out; have h2_ := hc31.out; omega)) _ rfl rfl) rfl ?_)
                | ((with_reducible refine gate_d (N := 73) rfl ?_); refine ag_fix (.agg (bv a0)) (ex_load boardT gb1 0 (bv a0) (bv a0) BKb1.out (av_le (by first | rfl | (simp only [List.length_set, List.length_replicate, zL_len, List.length_cons, List.length_nil, LN_a0.out, LN_t10.out]; done) | (simp [zL_len, LN_a0.out, LN_t10.out]; done))) (av_ex (by first | rfl | (simp only [List.length_set, List.length_replicate, zL_len, List.length_cons, List.length_nil, LN_a0.out, LN_t10.out]; done) | (simp [zL_len, LN_a0.out, LN_t10.out]; done))) _ rfl rfl) rfl ?_)
                | ((with_reducible refine gate_d (N := 14) rfl ?_); obtain ⟨gb14, hgb14⟩ : ∃ g_, w46.heap.size = g_ := ⟨_, rfl⟩; refine ag_alloc boardT gb14 hgb14 rfl rfl ?_; intro w47 hb_ hB_ hs_; have GEb14 : Hid (w.heap.size ≤ gb14) := hid (by have := HL.out.size; omega); have NBb1_b14 : Hid (gb1 ≠ gb14) := hid (by have := BKb1.out.lt; omega); have NBb14_b1 : Hid (gb14 ≠ gb1) := hid (by have := NBb1_b14.out; omega); replace BKb1 := hid (BKb1.out.below hb_ (by rw [← hgb14]; exact BKb1.out.lt)); have NBb13_b14 : Hid (gb13 ≠ gb14) := hid (by have := BKb13.out.lt; omega); have NBb14_b13 : Hid (gb14 ≠ gb13) := hid (by have := NBb13_b14.out; omega); replace BKb13 := hid (BKb13.out.below hb_ (by rw [← hgb14]; exact BKb13.out.lt)); replace SWo8 := hid (SWo8.out.below (by rw [hgb14]; exact hb_)); replace HL := hid (HL.out.trans (hb_.mono GEb14.out)); have BKb14 := hid hB_; clear hb_ hB_ hs_ hgb14)
                | ((with_reducible refine gate_s (t := 24) (p := 14) rfl ?_); refine ag_store boardT gb14 0 (bv zL) (bv a0) (bv a0) BKb14.out (by rw [show (bv a0) = av (Value.int .i8) a0 from rfl, av_size]; exact (by first | rfl | (simp only [List.length_set, List.length_replicate, zL_len, List.length_cons, List.length_nil, LN_a0.out, LN_t10.out]; done) | (simp [zL_len, LN_a0.out, LN_t10.out]; done))) (av_le (by first | rfl | (simp only [List.length_set, List.length_replicate, zL_len, List.length_cons, List.length_nil, LN_a0.out, LN_t10.out]; done) | (simp [zL_len, LN_a0.out, LN_t10.out]; done))) (av_one (fun _ => rfl)) (av_put (by first | rfl | (simp only [List.length_set, List.length_replicate, zL_len, List.length_cons, List.length_nil, LN_a0.out, LN_t10.out]; done) | (simp [zL_len, LN_a0.out, LN_t10.out]; done)) (by first | rfl | (simp only [List.length_set, List.length_replicate, zL_len, List.length_cons, List.length_nil, LN_a0.out, LN_t10.out]; done) | (simp [zL_len, LN_a0.out, LN_t10.out]; done))) rfl _ _ rfl rfl rfl ?_; intro w48 ho_ hB_; replace BKb1 := hid (BKb1.out.off ho_ NBb1_b14.out); replace BKb13 := hid (BKb13.out.off ho_ NBb13_b14.out); replace SWo8 := hid (SWo8.out.off ho_ BKb14.out (by decide)); replace HL := hid (ho_.below HL.out GEb14.out); replace BKb14 := hid hB_; clear ho_ hB_)
                | ((with_reducible refine gate_d (N := 80) rfl ?_); refine ag_fix (.pointer (some ⟨gb14, (Int.tmod (wrap64 (a1)) 64).toNat, none⟩)) (ex_at 24 (.pointer (some ⟨gb14, 0, none⟩)) (.int .i64 (Int.tmod (wrap64 (a1)) 64)) (.pointer (some ⟨gb14, (Int.tmod (wrap64 (a1)) 64).toNat, none⟩)) (fun w_ => (run_atv 22 uT24 sT22.size gb14 0 (Int.tmod (wrap64 (a1)) 64) hc30.out hc31.out w_).trans (by simp)) _ _ rfl rfl rfl) rfl ?_)
                | ((with_reducible refine gate_s (t := 22) (p := 80) rfl ?_); refine ag_set sT22 gb14 ((Int.tmod (wrap64 (a1)) 64).toNat) (.int .i8 (IntKind.i8.wrap (-(IntKind.i8.wrap (((Int.tmod a2 6) + 1) % 256))))) (bv a0) (bv (a0.set (Int.tmod (wrap64 (a1)) 64).toNat (IntKind.i8.wrap (-(IntKind.i8.wrap (((Int.tmod a2 6) + 1) % 256)))))) BKb14.out (by rw [show (bv a0) = av (Value.int .i8) a0 from rfl, av_size]; exact (by have h_ : a0.length = 64 := (by first | rfl | (simp only [List.length_set, List.length_replicate, zL_len, List.length_cons, List.length_nil, LN_a0.out, LN_t10.out]; done) | (simp [zL_len, LN_a0.out, LN_t10.out]; done)); have h1_ := hc30.out; have h2_ := hc31.out; omega)) rfl rfl (av_set _ _) rfl _ _ rfl rfl rfl ?_; intro w49 ho_ hB_; replace BKb1 := hid (BKb1.out.off ho_ NBb1_b14.out); replace BKb13 := hid (BKb13.out.off ho_ NBb13_b14.out); replace SWo8 := hid (SWo8.out.off ho_ BKb14.out (by decide)); replace HL := hid (ho_.below HL.out GEb14.out); replace BKb14 := hid hB_; clear ho_ hB_)
                | ((with_reducible refine gate_d (N := 90) rfl ?_); refine ag_fix (.agg (bv t10)) (ex_load boardT gb13 0 (bv t10) (bv t10) BKb13.out (av_le (by first | rfl | (simp only [List.length_set, List.length_replicate, zL_len, List.length_cons, List.length_nil, LN_a0.out, LN_t10.out]; done) | (simp [zL_len, LN_a0.out, LN_t10.out]; done))) (av_ex (by first | rfl | (simp only [List.length_set, List.length_replicate, zL_len, List.length_cons, List.length_nil, LN_a0.out, LN_t10.out]; done) | (simp [zL_len, LN_a0.out, LN_t10.out]; done))) _ rfl rfl) rfl ?_)
                | ((with_reducible refine gate_d (N := 91) rfl ?_); refine ag_fix (.agg (bv (a0.set (Int.tmod (wrap64 (a1)) 64).toNat (IntKind.i8.wrap (-(IntKind.i8.wrap (((Int.tmod a2 6) + 1) % 256))))))) (ex_load boardT gb14 0 (bv (a0.set (Int.tmod (wrap64 (a1)) 64).toNat (IntKind.i8.wrap (-(IntKind.i8.wrap (((Int.tmod a2 6) + 1) % 256)))))) (bv (a0.set (Int.tmod (wrap64 (a1)) 64).toNat (IntKind.i8.wrap (-(IntKind.i8.wrap (((Int.tmod a2 6) + 1) % 256)))))) BKb14.out (av_le (by first | rfl | (simp only [List.length_set, List.length_replicate, zL_len, List.length_cons, List.length_nil, LN_a0.out, LN_t10.out]; done) | (simp [zL_len, LN_a0.out, LN_t10.out]; done))) (av_ex (by first | rfl | (simp only [List.length_set, List.length_replicate, zL_len, List.length_cons, List.length_nil, LN_a0.out, LN_t10.out]; done) | (simp [zL_len, LN_a0.out, LN_t10.out]; done))) _ rfl rfl) rfl ?_)
                | ((with_reducible refine gate_d (N := 92) rfl ?_); refine ag_fix (.bool true) (ex_eq .eql 24 (.agg (bv t10)) (.agg (bv (a0.set (Int.tmod (wrap64 (a1)) 64).toNat (IntKind.i8.wrap (-(IntKind.i8.wrap (((Int.tmod a2 6) + 1) % 256))))))) (.bool true) (fun x_ y_ w_ => run_guard _ x_ y_ _ _ w_) (fun w_ => (eql_board t10 (a0.set (Int.tmod (wrap64 (a1)) 64).toNat (IntKind.i8.wrap (-(IntKind.i8.wrap (((Int.tmod a2 6) + 1) % 256))))) (by first | rfl | (simp only [List.length_set, List.length_replicate, zL_len, List.length_cons, List.length_nil, LN_a0.out, LN_t10.out]; done) | (simp [zL_len, LN_a0.out, LN_t10.out]; done)) (by first | rfl | (simp only [List.length_set, List.length_replicate, zL_len, List.length_cons, List.length_nil, LN_a0.out, LN_t10.out]; done) | (simp [zL_len, LN_a0.out, LN_t10.out]; done)) w_).trans (by first | (rw [decide_eq_true hc35.out]; done) | (rw [decide_eq_true hc35.out]; rfl))) _ _ _ rfl rfl rfl) rfl ?_))
               (try simp only [Act.put, List.setIfInBounds_toArray, List.set_cons_zero, List.set_cons_succ])
               go_ret
               exact ⟨by first | rfl | (simp; done) | (simp [*]; done), HL.out⟩
              ·
               rw [if_neg c35] at H
               have c35b0 : (t10 == (a0.set (Int.tmod (wrap64 (a1)) 64).toNat (IntKind.i8.wrap (-(IntKind.i8.wrap (((Int.tmod a2 6) + 1) % 256)))))) = false := beq_eq_false_iff_ne.mpr c35
               have c35b1 : (t10 != (a0.set (Int.tmod (wrap64 (a1)) 64).toNat (IntKind.i8.wrap (-(IntKind.i8.wrap (((Int.tmod a2 6) + 1) % 256)))))) = true := bne_iff_ne.mpr c35
               have hc35 := hid c35
               clear c35
               obtain rfl := Option.some.inj H
               clear H
               go_enter Try.func13, Try.ntmps13
               have k51 := True.intro
               have k53 := True.intro
               go_wp2_with (first
                | ((with_reducible refine gate_d (N := 3) rfl ?_); obtain ⟨gb1, hgb1⟩ : ∃ g_, w.heap.size = g_ := ⟨_, rfl⟩; refine ag_box (bv a0) gb1 hgb1 rfl _ rfl rfl ?_; intro w50 hb_ hB_ hs_; have GEb1 : Hid (w.heap.size ≤ gb1) := hid (by have := HL.out.size; omega); replace HL := hid (HL.out.trans (hb_.mono GEb1.out)); have BKb1 := hid hB_; clear hb_ hB_ hs_ hgb1)
                | (go_at_call 41; clear k51; refine (i_alfillaw05_wakes.calls k true _ A15.out).mono ?_; rintro e_ w52 ⟨rfl, hb_⟩; replace BKb1 := hid (BKb1.out.below hb_ BKb1.out.lt); replace HL := hid (HL.out.trans (hb_.mono HL.out.size)); clear hb_)
                | ((with_reducible refine gate_d (N := 18) rfl ?_); refine ag_fix (.agg (bv a0)) (ex_load boardT gb1 0 (bv a0) (bv a0) BKb1.out (av_le (by first | rfl | (simp only [List.length_set, List.length_replicate, zL_len, List.length_cons, List.length_nil, LN_a0.out]; done) | (simp [zL_len, LN_a0.out]; done))) (av_ex (by first | rfl | (simp only [List.length_set, List.length_replicate, zL_len, List.length_cons, List.length_nil, LN_a0.out]; done) | (simp [zL_len, LN_a0.out]; done))) _ rfl rfl) rfl ?_)
                | (go_at_call 42; clear k53; refine (i_roll_Write.calls k a0 (by first | rfl | (simp only [List.length_set, List.length_replicate, zL_len, List.length_cons, List.length_nil, LN_a0.out]; done) | (simp [zL_len, LN_a0.out]; done)) t3 t4 _ A17.out).mono ?_; rintro e_ w54 ⟨rfl, hb_⟩; replace BKb1 := hid (BKb1.out.below hb_ BKb1.out.lt); replace HL := hid (HL.out.trans (hb_.mono HL.out.size)); clear hb_))
               (try simp only [Act.put, List.setIfInBounds_toArray, List.set_cons_zero, List.set_cons_succ])
               have WR64 := i64_w
               have WR32 := i32_w
               have WR8 := u8_w
               have WRU := u32_w
               refine sq_region (fun w'_ => Below w.heap.size w w'_ ∧ Blk w'_ gb1 24 (bv a0) ∧ True) [17, 18] [(0, 2), (1, 2), (2, 2), (3, 2), (4, 2), (5, 2), (6, 2), (7, 2), (8, 2), (9, 2), (10, 2), (11, 2), (12, 2), (13, 2), (14, 2), (15, 2), (16, 2), (17, 0), (18, 0), (19, 2), (20, 2)] (by kernel_rfl) (by kernel_rfl) (by kernel_rfl) rfl ?_
               intro w55 hb_
               replace BKb1 := hid (BKb1.out.below hb_ BKb1.out.lt)
               replace HL := hid (HL.out.trans (hb_.mono HL.out.size))
               clear hb_
               refine sq_pure (.string t3) rfl (fun w'_ => ex_mv (.tmp 7) (.inl rfl) _ rfl) rfl rfl ?_
               intro ts_ ht_; simp only [List.setIfInBounds_toArray, List.set_cons_zero, List.set_cons_succ] at ht_; subst ht_
               refine sq_pure (.string s5) rfl (fun w'_ => (ex_cat 9 t3 (⟨#[32]⟩ : ByteArray) hc19.out _ _ _ rfl rfl rfl).trans (by rw [Option.some.inj A20.out])) rfl rfl ?_
               intro ts_ ht_; simp only [List.setIfInBounds_toArray, List.set_cons_zero, List.set_cons_succ] at ht_; subst ht_
               refine sq_pure (.int .u8 a2) rfl (fun w'_ => ex_mv (.tmp 2) (.inl rfl) _ rfl) rfl rfl ?_
               intro ts_ ht_; simp only [List.setIfInBounds_toArray, List.set_cons_zero, List.set_cons_succ] at ht_; subst ht_
               refine sq_pure (.int .u8 (Int.tmod a2 6)) rfl (fun w'_ => by go_simp) rfl rfl ?_
               intro ts_ ht_; simp only [List.setIfInBounds_toArray, List.set_cons_zero, List.set_cons_succ] at ht_; subst ht_
               refine sq_pure (.int .u8 a2) rfl (fun w'_ => ex_mv (.tmp 2) (.inl rfl) _ rfl) rfl rfl ?_
               intro ts_ ht_; simp only [List.setIfInBounds_toArray, List.set_cons_zero, List.set_cons_succ] at ht_; subst ht_
               refine sq_pure (.int .u8 (Int.tmod a2 6)) rfl (fun w'_ => by go_simp) rfl rfl ?_
               intro ts_ ht_; simp only [List.setIfInBounds_toArray, List.set_cons_zero, List.set_cons_succ] at ht_; subst ht_
               refine sq_pure (.int .u8 (((Int.tmod a2 6) + 1) % 256)) rfl (fun w'_ => by go_simp) rfl rfl ?_
               intro ts_ ht_; simp only [List.setIfInBounds_toArray, List.set_cons_zero, List.set_cons_succ] at ht_; subst ht_
               refine sq_pure (.string s6) rfl (fun w'_ => (ex_cut_lhK 9 und_txt (⟨#[80, 78, 66, 82, 81, 75]⟩ : ByteArray) (Int.tmod a2 6) (((Int.tmod a2 6) + 1) % 256) hc21.out hc22.out hc23.out _ _ _ rfl rfl rfl rfl).trans (by rw [Option.some.inj A24.out])) rfl rfl ?_
               intro ts_ ht_; simp only [List.setIfInBounds_toArray, List.set_cons_zero, List.set_cons_succ] at ht_; subst ht_
               refine sq_pure (.string s7) rfl (fun w'_ => (ex_cat 9 s5 s6 hc25.out _ _ _ rfl rfl rfl).trans (by rw [Option.some.inj A26.out])) rfl rfl ?_
               intro ts_ ht_; simp only [List.setIfInBounds_toArray, List.set_cons_zero, List.set_cons_succ] at ht_; subst ht_
               refine sq_pure (.int .i64 (Int.tmod (wrap64 (a1)) 64)) rfl (fun w'_ => ex_mv (.tmp 9) (.inl rfl) _ rfl) rfl rfl ?_
               intro ts_ ht_; simp only [List.setIfInBounds_toArray, List.set_cons_zero, List.set_cons_succ] at ht_; subst ht_
               refine sq_pure (.int .i64 (Int.tmod (wrap64 (a1)) 8)) rfl (fun w'_ => by go_simp) rfl rfl ?_
               intro ts_ ht_; simp only [List.setIfInBounds_toArray, List.set_cons_zero, List.set_cons_succ] at ht_; subst ht_
               refine sq_pure (.int .u8 ((Int.tmod (wrap64 (a1)) 8) % 256)) rfl (fun w'_ => by go_simp) rfl rfl ?_
               intro ts_ ht_; simp only [List.setIfInBounds_toArray, List.set_cons_zero, List.set_cons_succ] at ht_; subst ht_
               refine sq_pure (.int .u8 ((97 + (Int.tmod (wrap64 (a1)) 8)) % 256)) rfl (fun w'_ => by go_simp) rfl rfl ?_
               intro ts_ ht_; simp only [List.setIfInBounds_toArray, List.set_cons_zero, List.set_cons_succ] at ht_; subst ht_
               refine sq_pure (.int .i64 (Int.tmod (wrap64 (a1)) 64)) rfl (fun w'_ => ex_mv (.tmp 9) (.inl rfl) _ rfl) rfl rfl ?_
               intro ts_ ht_; simp only [List.setIfInBounds_toArray, List.set_cons_zero, List.set_cons_succ] at ht_; subst ht_
               refine sq_pure (.int .i64 (wrap64 (Int.tdiv (Int.tmod (wrap64 (a1)) 64) 8))) rfl (fun w'_ => by go_simp) rfl rfl ?_
               intro ts_ ht_; simp only [List.setIfInBounds_toArray, List.set_cons_zero, List.set_cons_succ] at ht_; subst ht_
               refine sq_pure (.int .u8 ((wrap64 (Int.tdiv (Int.tmod (wrap64 (a1)) 64) 8)) % 256)) rfl (fun w'_ => by go_simp) rfl rfl ?_
               intro ts_ ht_; simp only [List.setIfInBounds_toArray, List.set_cons_zero, List.set_cons_succ] at ht_; subst ht_
               refine sq_pure (.int .u8 ((49 + (wrap64 (Int.tdiv (Int.tmod (wrap64 (a1)) 64) 8))) % 256)) rfl (fun w'_ => by go_simp) rfl rfl ?_
               intro ts_ ht_; simp only [List.setIfInBounds_toArray, List.set_cons_zero, List.set_cons_succ] at ht_; subst ht_
               refine sq_act rfl (fun Q'_ hQ_ => ?_)
               (with_reducible refine gate_d (N := 46) rfl ?_)
               obtain ⟨go8, hgo8⟩ : ∃ g_, w55.heap.size = g_ := ⟨_, rfl⟩
               refine ag_litn (e := 5) 2 #[.int .u8 ((97 + (Int.tmod (wrap64 (a1)) 8)) % 256), .int .u8 ((49 + (wrap64 (Int.tdiv (Int.tmod (wrap64 (a1)) 64) 8))) % 256)] go8 hgo8 rfl _ rfl (fun w_ => by (try simp only [List.map_toArray, List.map_cons, List.map_nil]); kernel_rfl) ?_
               intro w56 hb_ hB_ hs_
               have GEo8 : Hid (w.heap.size ≤ go8) := hid (by have := HL.out.size; omega)
               have NBb1_o8 : Hid (gb1 ≠ go8) := hid (by have := BKb1.out.lt; omega)
               have NBo8_b1 : Hid (go8 ≠ gb1) := hid (by have := NBb1_o8.out; omega)
               replace BKb1 := hid (BKb1.out.below hb_ (by rw [← hgo8]; exact BKb1.out.lt))
               replace HL := hid (HL.out.trans (hb_.mono GEo8.out))
               have BKo8 := hid hB_
               clear hb_ hB_ hs_ hgo8
               obtain ⟨uo8, hu_⟩ : ∃ u_, u_ = (Value.slice (some ⟨go8, 0, none⟩) 2 2) := ⟨_, rfl⟩
               have SWo8 : Hid (Own w56 w.heap.size 5 (uo8) ([(97 + (Int.tmod (wrap64 (a1)) 8)) % 256, (49 + (wrap64 (Int.tdiv (Int.tmod (wrap64 (a1)) 64) 8))) % 256].map (Value.int .u8))) := hid (by rw [hu_]; exact Own.lit GEo8.out BKo8.out rfl (by simp [maxLen]))
               rw [← hu_]
               clear hu_ BKo8
               refine act_end ?_
               refine hQ_ _ _ (fun h_ => absurd h_ (by decide)) ?_
               clear hQ_ Q'_
               simp only [Act.put, List.setIfInBounds_toArray, List.set_cons_zero, List.set_cons_succ]
               refine sq_act rfl (fun Q'_ hQ_ => ?_)
               (with_reducible refine gate_d (N := 47) rfl ?_)
               refine ag_fix (.string (strOfNums [(97 + (Int.tmod (wrap64 (a1)) 8)) % 256, (49 + (wrap64 (Int.tdiv (Int.tmod (wrap64 (a1)) 64) 8))) % 256])) (ex_bstr SWo8.out (by simp) 57 9 5 us57 ub5 und_txt _ rfl rfl) rfl ?_
               refine act_end ?_
               refine hQ_ _ _ (fun h_ => absurd h_ (by decide)) ?_
               clear hQ_ Q'_
               simp only [Act.put, List.setIfInBounds_toArray, List.set_cons_zero, List.set_cons_succ]
               refine sq_pure (.string s9) rfl (fun w'_ => (ex_cat 9 s7 (strOfNums [(97 + (Int.tmod (wrap64 (a1)) 8)) % 256, (49 + (wrap64 (Int.tdiv (Int.tmod (wrap64 (a1)) 64) 8))) % 256]) hc27.out _ _ _ rfl rfl rfl).trans (by rw [Option.some.inj A28.out])) rfl rfl ?_
               intro ts_ ht_; simp only [List.setIfInBounds_toArray, List.set_cons_zero, List.set_cons_succ] at ht_; subst ht_
               refine sq_pure (.string s9) rfl (fun w'_ => ex_mv (.tmp 48) (.inr rfl) _ rfl) rfl rfl ?_
               intro ts_ ht_; simp only [List.setIfInBounds_toArray, List.set_cons_zero, List.set_cons_succ] at ht_; subst ht_
               refine sq_end ?_
               clear WR64 WR32 WR8 WRU
               have k57 := True.intro
               go_wp2_with (first
                | (go_at_call 44; clear k57; refine (i_roll_Read.calls k s9 t10 t11 t12 _ A29.out).mono ?_; rintro e_ w58 ⟨rfl, ln_t10, hb_⟩; have LN_t10 := hid ln_t10; clear ln_t10; replace BKb1 := hid (BKb1.out.below hb_ BKb1.out.lt); replace SWo8 := hid (SWo8.out.below hb_); replace HL := hid (HL.out.trans (hb_.mono HL.out.size)); clear hb_)
                | ((with_reducible refine gate_d (N := 11) rfl ?_); obtain ⟨gb13, hgb13⟩ : ∃ g_, w58.heap.size = g_ := ⟨_, rfl⟩; refine ag_alloc boardT gb13 hgb13 rfl rfl ?_; intro w59 hb_ hB_ hs_; have GEb13 : Hid (w.heap.size ≤ gb13) := hid (by have := HL.out.size; omega); have NBb1_b13 : Hid (gb1 ≠ gb13) := hid (by have := BKb1.out.lt; omega); have NBb13_b1 : Hid (gb13 ≠ gb1) := hid (by have := NBb1_b13.out; omega); replace BKb1 := hid (BKb1.out.below hb_ (by rw [← hgb13]; exact BKb1.out.lt)); replace SWo8 := hid (SWo8.out.below (by rw [hgb13]; exact hb_)); replace HL := hid (HL.out.trans (hb_.mono GEb13.out)); have BKb13 := hid hB_; clear hb_ hB_ hs_ hgb13)
                | ((with_reducible refine gate_s (t := 24) (p := 11) rfl ?_); refine ag_store boardT gb13 0 (bv zL) (bv t10) (bv t10) BKb13.out (by rw [show (bv t10) = av (Value.int .i8) t10 from rfl, av_size]; exact (by first | rfl | (simp only [List.length_set, List.length_replicate, zL_len, List.length_cons, List.length_nil, LN_a0.out, LN_t10.out]; done) | (simp [zL_len, LN_a0.out, LN_t10.out]; done))) (av_le (by first | rfl | (simp only [List.length_set, List.length_replicate, zL_len, List.length_cons, List.length_nil, LN_a0.out, LN_t10.out]; done) | (simp [zL_len, LN_a0.out, LN_t10.out]; done))) (av_one (fun _ => rfl)) (av_put (by first | rfl | (simp only [List.length_set, List.length_replicate, zL_len, List.length_cons, List.length_nil, LN_a0.out, LN_t10.out]; done) | (simp [zL_len, LN_a0.out, LN_t10.out]; done)) (by first | rfl | (simp only [List.length_set, List.length_replicate, zL_len, List.length_cons, List.length_nil, LN_a0.out, LN_t10.out]; done) | (simp [zL_len, LN_a0.out, LN_t10.out]; done))) rfl _ _ rfl rfl rfl ?_; intro w60 ho_ hB_; replace BKb1 := hid (BKb1.out.off ho_ NBb1_b13.out); replace SWo8 := hid (SWo8.out.off ho_ BKb13.out (by decide)); replace HL := hid (ho_.below HL.out GEb13.out); replace BKb13 := hid hB_; clear ho_ hB_)
                | ((with_reducible refine gate_d (N := 56) rfl ?_); refine ag_fix (.pointer (some ⟨gb1, (Int.tmod (wrap64 (a1)) 64).toNat, none⟩)) (ex_at 24 (.pointer (some ⟨gb1, 0, none⟩)) (.int .i64 (Int.tmod (wrap64 (a1)) 64)) (.pointer (some ⟨gb1, (Int.tmod (wrap64 (a1)) 64).toNat, none⟩)) (fun w_ => (run_atv 22 uT24 sT22.size gb1 0 (Int.tmod (wrap64 (a1)) 64) hc30.out hc31.out w_).trans (by simp)) _ _ rfl rfl rfl) rfl ?_)
                | ((with_reducible refine gate_d (N := 57) rfl ?_); refine ag_fix (.int .i8 (nt a0 ((Int.tmod (wrap64 (a1)) 64).toNat) 0)) (ex_get sT22 gb1 ((Int.tmod (wrap64 (a1)) 64).toNat) (.int .i8 (nt a0 ((Int.tmod (wrap64 (a1)) 64).toNat) 0)) ((bv a0)) BKb1.out (av_get 0 (by have h_ : a0.length = 64 := (by first | rfl | (simp only [List.length_set, List.length_replicate, zL_len, List.length_cons, List.length_nil, LN_a0.out, LN_t10.out]; done) | (simp [zL_len, LN_a0.out, LN_t10.out]; done)); have h1_ := hc30.out; have h2_ := hc31.out; omega)) _ rfl rfl) rfl ?_)
                | ((with_reducible refine gate_d (N := 73) rfl ?_); refine ag_fix (.agg (bv a0)) (ex_load boardT gb1 0 (bv a0) (bv a0) BKb1.out (av_le (by first | rfl | (simp only [List.length_set, List.length_replicate, zL_len, List.length_cons, List.length_nil, LN_a0.out, LN_t10.out]; done) | (simp [zL_len, LN_a0.out, LN_t10.out]; done))) (av_ex (by first | rfl | (simp only [List.length_set, List.length_replicate, zL_len, List.length_cons, List.length_nil, LN_a0.out, LN_t10.out]; done) | (simp [zL_len, LN_a0.out, LN_t10.out]; done))) _ rfl rfl) rfl ?_)
                | ((with_reducible refine gate_d (N := 14) rfl ?_); obtain ⟨gb14, hgb14⟩ : ∃ g_, w60.heap.size = g_ := ⟨_, rfl⟩; refine ag_alloc boardT gb14 hgb14 rfl rfl ?_; intro w61 hb_ hB_ hs_; have GEb14 : Hid (w.heap.size ≤ gb14) := hid (by have := HL.out.size; omega); have NBb1_b14 : Hid (gb1 ≠ gb14) := hid (by have := BKb1.out.lt; omega); have NBb14_b1 : Hid (gb14 ≠ gb1) := hid (by have := NBb1_b14.out; omega); replace BKb1 := hid (BKb1.out.below hb_ (by rw [← hgb14]; exact BKb1.out.lt)); have NBb13_b14 : Hid (gb13 ≠ gb14) := hid (by have := BKb13.out.lt; omega); have NBb14_b13 : Hid (gb14 ≠ gb13) := hid (by have := NBb13_b14.out; omega); replace BKb13 := hid (BKb13.out.below hb_ (by rw [← hgb14]; exact BKb13.out.lt)); replace SWo8 := hid (SWo8.out.below (by rw [hgb14]; exact hb_)); replace HL := hid (HL.out.trans (hb_.mono GEb14.out)); have BKb14 := hid hB_; clear hb_ hB_ hs_ hgb14)
                | ((with_reducible refine gate_s (t := 24) (p := 14) rfl ?_); refine ag_store boardT gb14 0 (bv zL) (bv a0) (bv a0) BKb14.out (by rw [show (bv a0) = av (Value.int .i8) a0 from rfl, av_size]; exact (by first | rfl | (simp only [List.length_set, List.length_replicate, zL_len, List.length_cons, List.length_nil, LN_a0.out, LN_t10.out]; done) | (simp [zL_len, LN_a0.out, LN_t10.out]; done))) (av_le (by first | rfl | (simp only [List.length_set, List.length_replicate, zL_len, List.length_cons, List.length_nil, LN_a0.out, LN_t10.out]; done) | (simp [zL_len, LN_a0.out, LN_t10.out]; done))) (av_one (fun _ => rfl)) (av_put (by first | rfl | (simp only [List.length_set, List.length_replicate, zL_len, List.length_cons, List.length_nil, LN_a0.out, LN_t10.out]; done) | (simp [zL_len, LN_a0.out, LN_t10.out]; done)) (by first | rfl | (simp only [List.length_set, List.length_replicate, zL_len, List.length_cons, List.length_nil, LN_a0.out, LN_t10.out]; done) | (simp [zL_len, LN_a0.out, LN_t10.out]; done))) rfl _ _ rfl rfl rfl ?_; intro w62 ho_ hB_; replace BKb1 := hid (BKb1.out.off ho_ NBb1_b14.out); replace BKb13 := hid (BKb13.out.off ho_ NBb13_b14.out); replace SWo8 := hid (SWo8.out.off ho_ BKb14.out (by decide)); replace HL := hid (ho_.below HL.out GEb14.out); replace BKb14 := hid hB_; clear ho_ hB_)
                | ((with_reducible refine gate_d (N := 80) rfl ?_); refine ag_fix (.pointer (some ⟨gb14, (Int.tmod (wrap64 (a1)) 64).toNat, none⟩)) (ex_at 24 (.pointer (some ⟨gb14, 0, none⟩)) (.int .i64 (Int.tmod (wrap64 (a1)) 64)) (.pointer (some ⟨gb14, (Int.tmod (wrap64 (a1)) 64).toNat, none⟩)) (fun w_ => (run_atv 22 uT24 sT22.size gb14 0 (Int.tmod (wrap64 (a1)) 64) hc30.out hc31.out w_).trans (by simp)) _ _ rfl rfl rfl) rfl ?_)
                | ((with_reducible refine gate_s (t := 22) (p := 80) rfl ?_); refine ag_set sT22 gb14 ((Int.tmod (wrap64 (a1)) 64).toNat) (.int .i8 (IntKind.i8.wrap (-(IntKind.i8.wrap (((Int.tmod a2 6) + 1) % 256))))) (bv a0) (bv (a0.set (Int.tmod (wrap64 (a1)) 64).toNat (IntKind.i8.wrap (-(IntKind.i8.wrap (((Int.tmod a2 6) + 1) % 256)))))) BKb14.out (by rw [show (bv a0) = av (Value.int .i8) a0 from rfl, av_size]; exact (by have h_ : a0.length = 64 := (by first | rfl | (simp only [List.length_set, List.length_replicate, zL_len, List.length_cons, List.length_nil, LN_a0.out, LN_t10.out]; done) | (simp [zL_len, LN_a0.out, LN_t10.out]; done)); have h1_ := hc30.out; have h2_ := hc31.out; omega)) rfl rfl (av_set _ _) rfl _ _ rfl rfl rfl ?_; intro w63 ho_ hB_; replace BKb1 := hid (BKb1.out.off ho_ NBb1_b14.out); replace BKb13 := hid (BKb13.out.off ho_ NBb13_b14.out); replace SWo8 := hid (SWo8.out.off ho_ BKb14.out (by decide)); replace HL := hid (ho_.below HL.out GEb14.out); replace BKb14 := hid hB_; clear ho_ hB_)
                | ((with_reducible refine gate_d (N := 90) rfl ?_); refine ag_fix (.agg (bv t10)) (ex_load boardT gb13 0 (bv t10) (bv t10) BKb13.out (av_le (by first | rfl | (simp only [List.length_set, List.length_replicate, zL_len, List.length_cons, List.length_nil, LN_a0.out, LN_t10.out]; done) | (simp [zL_len, LN_a0.out, LN_t10.out]; done))) (av_ex (by first | rfl | (simp only [List.length_set, List.length_replicate, zL_len, List.length_cons, List.length_nil, LN_a0.out, LN_t10.out]; done) | (simp [zL_len, LN_a0.out, LN_t10.out]; done))) _ rfl rfl) rfl ?_)
                | ((with_reducible refine gate_d (N := 91) rfl ?_); refine ag_fix (.agg (bv (a0.set (Int.tmod (wrap64 (a1)) 64).toNat (IntKind.i8.wrap (-(IntKind.i8.wrap (((Int.tmod a2 6) + 1) % 256))))))) (ex_load boardT gb14 0 (bv (a0.set (Int.tmod (wrap64 (a1)) 64).toNat (IntKind.i8.wrap (-(IntKind.i8.wrap (((Int.tmod a2 6) + 1) % 256)))))) (bv (a0.set (Int.tmod (wrap64 (a1)) 64).toNat (IntKind.i8.wrap (-(IntKind.i8.wrap (((Int.tmod a2 6) + 1) % 256)))))) BKb14.out (av_le (by first | rfl | (simp only [List.length_set, List.length_replicate, zL_len, List.length_cons, List.length_nil, LN_a0.out, LN_t10.out]; done) | (simp [zL_len, LN_a0.out, LN_t10.out]; done))) (av_ex (by first | rfl | (simp only [List.length_set, List.length_replicate, zL_len, List.length_cons, List.length_nil, LN_a0.out, LN_t10.out]; done) | (simp [zL_len, LN_a0.out, LN_t10.out]; done))) _ rfl rfl) rfl ?_)
                | ((with_reducible refine gate_d (N := 92) rfl ?_); refine ag_fix (.bool false) (ex_eq .eql 24 (.agg (bv t10)) (.agg (bv (a0.set (Int.tmod (wrap64 (a1)) 64).toNat (IntKind.i8.wrap (-(IntKind.i8.wrap (((Int.tmod a2 6) + 1) % 256))))))) (.bool false) (fun x_ y_ w_ => run_guard _ x_ y_ _ _ w_) (fun w_ => (eql_board t10 (a0.set (Int.tmod (wrap64 (a1)) 64).toNat (IntKind.i8.wrap (-(IntKind.i8.wrap (((Int.tmod a2 6) + 1) % 256))))) (by first | rfl | (simp only [List.length_set, List.length_replicate, zL_len, List.length_cons, List.length_nil, LN_a0.out, LN_t10.out]; done) | (simp [zL_len, LN_a0.out, LN_t10.out]; done)) (by first | rfl | (simp only [List.length_set, List.length_replicate, zL_len, List.length_cons, List.length_nil, LN_a0.out, LN_t10.out]; done) | (simp [zL_len, LN_a0.out, LN_t10.out]; done)) w_).trans (by first | (rw [decide_eq_false hc35.out]; done) | (rw [decide_eq_false hc35.out]; rfl))) _ _ _ rfl rfl rfl) rfl ?_))
               (try simp only [Act.put, List.setIfInBounds_toArray, List.set_cons_zero, List.set_cons_succ])
               go_ret
               exact ⟨by first | rfl | (simp; done) | (simp [*]; done), HL.out⟩
             ·
              rw [if_neg c34] at H
              have c34b0 : (t11 == (s9.size : Int)) = false := beq_eq_false_iff_ne.mpr c34
              have c34b1 : (t11 != (s9.size : Int)) = true := bne_iff_ne.mpr c34
              have hc34 := hid c34
              clear c34
              obtain rfl := Option.some.inj H
              clear H
              go_enter Try.func13, Try.ntmps13
              have k65 := True.intro
              have k67 := True.intro
              go_wp2_with (first
               | ((with_reducible refine gate_d (N := 3) rfl ?_); obtain ⟨gb1, hgb1⟩ : ∃ g_, w.heap.size = g_ := ⟨_, rfl⟩; refine ag_box (bv a0) gb1 hgb1 rfl _ rfl rfl ?_; intro w64 hb_ hB_ hs_; have GEb1 : Hid (w.heap.size ≤ gb1) := hid (by have := HL.out.size; omega); replace HL := hid (HL.out.trans (hb_.mono GEb1.out)); have BKb1 := hid hB_; clear hb_ hB_ hs_ hgb1)
               | (go_at_call 41; clear k65; refine (i_alfillaw05_wakes.calls k true _ A15.out).mono ?_; rintro e_ w66 ⟨rfl, hb_⟩; replace BKb1 := hid (BKb1.out.below hb_ BKb1.out.lt); replace HL := hid (HL.out.trans (hb_.mono HL.out.size)); clear hb_)
               | ((with_reducible refine gate_d (N := 18) rfl ?_); refine ag_fix (.agg (bv a0)) (ex_load boardT gb1 0 (bv a0) (bv a0) BKb1.out (av_le (by first | rfl | (simp only [List.length_set, List.length_replicate, zL_len, List.length_cons, List.length_nil, LN_a0.out]; done) | (simp [zL_len, LN_a0.out]; done))) (av_ex (by first | rfl | (simp only [List.length_set, List.length_replicate, zL_len, List.length_cons, List.length_nil, LN_a0.out]; done) | (simp [zL_len, LN_a0.out]; done))) _ rfl rfl) rfl ?_)
               | (go_at_call 42; clear k67; refine (i_roll_Write.calls k a0 (by first | rfl | (simp only [List.length_set, List.length_replicate, zL_len, List.length_cons, List.length_nil, LN_a0.out]; done) | (simp [zL_len, LN_a0.out]; done)) t3 t4 _ A17.out).mono ?_; rintro e_ w68 ⟨rfl, hb_⟩; replace BKb1 := hid (BKb1.out.below hb_ BKb1.out.lt); replace HL := hid (HL.out.trans (hb_.mono HL.out.size)); clear hb_))
              (try simp only [Act.put, List.setIfInBounds_toArray, List.set_cons_zero, List.set_cons_succ])
              have WR64 := i64_w
              have WR32 := i32_w
              have WR8 := u8_w
              have WRU := u32_w
              refine sq_region (fun w'_ => Below w.heap.size w w'_ ∧ Blk w'_ gb1 24 (bv a0) ∧ True) [17, 18] [(0, 2), (1, 2), (2, 2), (3, 2), (4, 2), (5, 2), (6, 2), (7, 2), (8, 2), (9, 2), (10, 2), (11, 2), (12, 2), (13, 2), (14, 2), (15, 2), (16, 2), (17, 0), (18, 0), (19, 2), (20, 2)] (by kernel_rfl) (by kernel_rfl) (by kernel_rfl) rfl ?_
              intro w69 hb_
              replace BKb1 := hid (BKb1.out.below hb_ BKb1.out.lt)
              replace HL := hid (HL.out.trans (hb_.mono HL.out.size))
              clear hb_
              refine sq_pure (.string t3) rfl (fun w'_ => ex_mv (.tmp 7) (.inl rfl) _ rfl) rfl rfl ?_
              intro ts_ ht_; simp only [List.setIfInBounds_toArray, List.set_cons_zero, List.set_cons_succ] at ht_; subst ht_
              refine sq_pure (.string s5) rfl (fun w'_ => (ex_cat 9 t3 (⟨#[32]⟩ : ByteArray) hc19.out _ _ _ rfl rfl rfl).trans (by rw [Option.some.inj A20.out])) rfl rfl ?_
              intro ts_ ht_; simp only [List.setIfInBounds_toArray, List.set_cons_zero, List.set_cons_succ] at ht_; subst ht_
              refine sq_pure (.int .u8 a2) rfl (fun w'_ => ex_mv (.tmp 2) (.inl rfl) _ rfl) rfl rfl ?_
              intro ts_ ht_; simp only [List.setIfInBounds_toArray, List.set_cons_zero, List.set_cons_succ] at ht_; subst ht_
              refine sq_pure (.int .u8 (Int.tmod a2 6)) rfl (fun w'_ => by go_simp) rfl rfl ?_
              intro ts_ ht_; simp only [List.setIfInBounds_toArray, List.set_cons_zero, List.set_cons_succ] at ht_; subst ht_
              refine sq_pure (.int .u8 a2) rfl (fun w'_ => ex_mv (.tmp 2) (.inl rfl) _ rfl) rfl rfl ?_
              intro ts_ ht_; simp only [List.setIfInBounds_toArray, List.set_cons_zero, List.set_cons_succ] at ht_; subst ht_
              refine sq_pure (.int .u8 (Int.tmod a2 6)) rfl (fun w'_ => by go_simp) rfl rfl ?_
              intro ts_ ht_; simp only [List.setIfInBounds_toArray, List.set_cons_zero, List.set_cons_succ] at ht_; subst ht_
              refine sq_pure (.int .u8 (((Int.tmod a2 6) + 1) % 256)) rfl (fun w'_ => by go_simp) rfl rfl ?_
              intro ts_ ht_; simp only [List.setIfInBounds_toArray, List.set_cons_zero, List.set_cons_succ] at ht_; subst ht_
              refine sq_pure (.string s6) rfl (fun w'_ => (ex_cut_lhK 9 und_txt (⟨#[80, 78, 66, 82, 81, 75]⟩ : ByteArray) (Int.tmod a2 6) (((Int.tmod a2 6) + 1) % 256) hc21.out hc22.out hc23.out _ _ _ rfl rfl rfl rfl).trans (by rw [Option.some.inj A24.out])) rfl rfl ?_
              intro ts_ ht_; simp only [List.setIfInBounds_toArray, List.set_cons_zero, List.set_cons_succ] at ht_; subst ht_
              refine sq_pure (.string s7) rfl (fun w'_ => (ex_cat 9 s5 s6 hc25.out _ _ _ rfl rfl rfl).trans (by rw [Option.some.inj A26.out])) rfl rfl ?_
              intro ts_ ht_; simp only [List.setIfInBounds_toArray, List.set_cons_zero, List.set_cons_succ] at ht_; subst ht_
              refine sq_pure (.int .i64 (Int.tmod (wrap64 (a1)) 64)) rfl (fun w'_ => ex_mv (.tmp 9) (.inl rfl) _ rfl) rfl rfl ?_
              intro ts_ ht_; simp only [List.setIfInBounds_toArray, List.set_cons_zero, List.set_cons_succ] at ht_; subst ht_
              refine sq_pure (.int .i64 (Int.tmod (wrap64 (a1)) 8)) rfl (fun w'_ => by go_simp) rfl rfl ?_
              intro ts_ ht_; simp only [List.setIfInBounds_toArray, List.set_cons_zero, List.set_cons_succ] at ht_; subst ht_
              refine sq_pure (.int .u8 ((Int.tmod (wrap64 (a1)) 8) % 256)) rfl (fun w'_ => by go_simp) rfl rfl ?_
              intro ts_ ht_; simp only [List.setIfInBounds_toArray, List.set_cons_zero, List.set_cons_succ] at ht_; subst ht_
              refine sq_pure (.int .u8 ((97 + (Int.tmod (wrap64 (a1)) 8)) % 256)) rfl (fun w'_ => by go_simp) rfl rfl ?_
              intro ts_ ht_; simp only [List.setIfInBounds_toArray, List.set_cons_zero, List.set_cons_succ] at ht_; subst ht_
              refine sq_pure (.int .i64 (Int.tmod (wrap64 (a1)) 64)) rfl (fun w'_ => ex_mv (.tmp 9) (.inl rfl) _ rfl) rfl rfl ?_
              intro ts_ ht_; simp only [List.setIfInBounds_toArray, List.set_cons_zero, List.set_cons_succ] at ht_; subst ht_
              refine sq_pure (.int .i64 (wrap64 (Int.tdiv (Int.tmod (wrap64 (a1)) 64) 8))) rfl (fun w'_ => by go_simp) rfl rfl ?_
              intro ts_ ht_; simp only [List.setIfInBounds_toArray, List.set_cons_zero, List.set_cons_succ] at ht_; subst ht_
              refine sq_pure (.int .u8 ((wrap64 (Int.tdiv (Int.tmod (wrap64 (a1)) 64) 8)) % 256)) rfl (fun w'_ => by go_simp) rfl rfl ?_
              intro ts_ ht_; simp only [List.setIfInBounds_toArray, List.set_cons_zero, List.set_cons_succ] at ht_; subst ht_
              refine sq_pure (.int .u8 ((49 + (wrap64 (Int.tdiv (Int.tmod (wrap64 (a1)) 64) 8))) % 256)) rfl (fun w'_ => by go_simp) rfl rfl ?_
              intro ts_ ht_; simp only [List.setIfInBounds_toArray, List.set_cons_zero, List.set_cons_succ] at ht_; subst ht_
              refine sq_act rfl (fun Q'_ hQ_ => ?_)
              (with_reducible refine gate_d (N := 46) rfl ?_)
              obtain ⟨go8, hgo8⟩ : ∃ g_, w69.heap.size = g_ := ⟨_, rfl⟩
              refine ag_litn (e := 5) 2 #[.int .u8 ((97 + (Int.tmod (wrap64 (a1)) 8)) % 256), .int .u8 ((49 + (wrap64 (Int.tdiv (Int.tmod (wrap64 (a1)) 64) 8))) % 256)] go8 hgo8 rfl _ rfl (fun w_ => by (try simp only [List.map_toArray, List.map_cons, List.map_nil]); kernel_rfl) ?_
              intro w70 hb_ hB_ hs_
              have GEo8 : Hid (w.heap.size ≤ go8) := hid (by have := HL.out.size; omega)
              have NBb1_o8 : Hid (gb1 ≠ go8) := hid (by have := BKb1.out.lt; omega)
              have NBo8_b1 : Hid (go8 ≠ gb1) := hid (by have := NBb1_o8.out; omega)
              replace BKb1 := hid (BKb1.out.below hb_ (by rw [← hgo8]; exact BKb1.out.lt))
              replace HL := hid (HL.out.trans (hb_.mono GEo8.out))
              have BKo8 := hid hB_
              clear hb_ hB_ hs_ hgo8
              obtain ⟨uo8, hu_⟩ : ∃ u_, u_ = (Value.slice (some ⟨go8, 0, none⟩) 2 2) := ⟨_, rfl⟩
              have SWo8 : Hid (Own w70 w.heap.size 5 (uo8) ([(97 + (Int.tmod (wrap64 (a1)) 8)) % 256, (49 + (wrap64 (Int.tdiv (Int.tmod (wrap64 (a1)) 64) 8))) % 256].map (Value.int .u8))) := hid (by rw [hu_]; exact Own.lit GEo8.out BKo8.out rfl (by simp [maxLen]))
              rw [← hu_]
              clear hu_ BKo8
              refine act_end ?_
              refine hQ_ _ _ (fun h_ => absurd h_ (by decide)) ?_
              clear hQ_ Q'_
              simp only [Act.put, List.setIfInBounds_toArray, List.set_cons_zero, List.set_cons_succ]
              refine sq_act rfl (fun Q'_ hQ_ => ?_)
              (with_reducible refine gate_d (N := 47) rfl ?_)
              refine ag_fix (.string (strOfNums [(97 + (Int.tmod (wrap64 (a1)) 8)) % 256, (49 + (wrap64 (Int.tdiv (Int.tmod (wrap64 (a1)) 64) 8))) % 256])) (ex_bstr SWo8.out (by simp) 57 9 5 us57 ub5 und_txt _ rfl rfl) rfl ?_
              refine act_end ?_
              refine hQ_ _ _ (fun h_ => absurd h_ (by decide)) ?_
              clear hQ_ Q'_
              simp only [Act.put, List.setIfInBounds_toArray, List.set_cons_zero, List.set_cons_succ]
              refine sq_pure (.string s9) rfl (fun w'_ => (ex_cat 9 s7 (strOfNums [(97 + (Int.tmod (wrap64 (a1)) 8)) % 256, (49 + (wrap64 (Int.tdiv (Int.tmod (wrap64 (a1)) 64) 8))) % 256]) hc27.out _ _ _ rfl rfl rfl).trans (by rw [Option.some.inj A28.out])) rfl rfl ?_
              intro ts_ ht_; simp only [List.setIfInBounds_toArray, List.set_cons_zero, List.set_cons_succ] at ht_; subst ht_
              refine sq_pure (.string s9) rfl (fun w'_ => ex_mv (.tmp 48) (.inr rfl) _ rfl) rfl rfl ?_
              intro ts_ ht_; simp only [List.setIfInBounds_toArray, List.set_cons_zero, List.set_cons_succ] at ht_; subst ht_
              refine sq_end ?_
              clear WR64 WR32 WR8 WRU
              have k71 := True.intro
              go_wp2_with (first
               | (go_at_call 44; clear k71; refine (i_roll_Read.calls k s9 t10 t11 t12 _ A29.out).mono ?_; rintro e_ w72 ⟨rfl, ln_t10, hb_⟩; have LN_t10 := hid ln_t10; clear ln_t10; replace BKb1 := hid (BKb1.out.below hb_ BKb1.out.lt); replace SWo8 := hid (SWo8.out.below hb_); replace HL := hid (HL.out.trans (hb_.mono HL.out.size)); clear hb_)
               | ((with_reducible refine gate_d (N := 11) rfl ?_); obtain ⟨gb13, hgb13⟩ : ∃ g_, w72.heap.size = g_ := ⟨_, rfl⟩; refine ag_alloc boardT gb13 hgb13 rfl rfl ?_; intro w73 hb_ hB_ hs_; have GEb13 : Hid (w.heap.size ≤ gb13) := hid (by have := HL.out.size; omega); have NBb1_b13 : Hid (gb1 ≠ gb13) := hid (by have := BKb1.out.lt; omega); have NBb13_b1 : Hid (gb13 ≠ gb1) := hid (by have := NBb1_b13.out; omega); replace BKb1 := hid (BKb1.out.below hb_ (by rw [← hgb13]; exact BKb1.out.lt)); replace SWo8 := hid (SWo8.out.below (by rw [hgb13]; exact hb_)); replace HL := hid (HL.out.trans (hb_.mono GEb13.out)); have BKb13 := hid hB_; clear hb_ hB_ hs_ hgb13)
               | ((with_reducible refine gate_s (t := 24) (p := 11) rfl ?_); refine ag_store boardT gb13 0 (bv zL) (bv t10) (bv t10) BKb13.out (by rw [show (bv t10) = av (Value.int .i8) t10 from rfl, av_size]; exact (by first | rfl | (simp only [List.length_set, List.length_replicate, zL_len, List.length_cons, List.length_nil, LN_a0.out, LN_t10.out]; done) | (simp [zL_len, LN_a0.out, LN_t10.out]; done))) (av_le (by first | rfl | (simp only [List.length_set, List.length_replicate, zL_len, List.length_cons, List.length_nil, LN_a0.out, LN_t10.out]; done) | (simp [zL_len, LN_a0.out, LN_t10.out]; done))) (av_one (fun _ => rfl)) (av_put (by first | rfl | (simp only [List.length_set, List.length_replicate, zL_len, List.length_cons, List.length_nil, LN_a0.out, LN_t10.out]; done) | (simp [zL_len, LN_a0.out, LN_t10.out]; done)) (by first | rfl | (simp only [List.length_set, List.length_replicate, zL_len, List.length_cons, List.length_nil, LN_a0.out, LN_t10.out]; done) | (simp [zL_len, LN_a0.out, LN_t10.out]; done))) rfl _ _ rfl rfl rfl ?_; intro w74 ho_ hB_; replace BKb1 := hid (BKb1.out.off ho_ NBb1_b13.out); replace SWo8 := hid (SWo8.out.off ho_ BKb13.out (by decide)); replace HL := hid (ho_.below HL.out GEb13.out); replace BKb13 := hid hB_; clear ho_ hB_)
               | ((with_reducible refine gate_d (N := 56) rfl ?_); refine ag_fix (.pointer (some ⟨gb1, (Int.tmod (wrap64 (a1)) 64).toNat, none⟩)) (ex_at 24 (.pointer (some ⟨gb1, 0, none⟩)) (.int .i64 (Int.tmod (wrap64 (a1)) 64)) (.pointer (some ⟨gb1, (Int.tmod (wrap64 (a1)) 64).toNat, none⟩)) (fun w_ => (run_atv 22 uT24 sT22.size gb1 0 (Int.tmod (wrap64 (a1)) 64) hc30.out hc31.out w_).trans (by simp)) _ _ rfl rfl rfl) rfl ?_)
               | ((with_reducible refine gate_d (N := 57) rfl ?_); refine ag_fix (.int .i8 (nt a0 ((Int.tmod (wrap64 (a1)) 64).toNat) 0)) (ex_get sT22 gb1 ((Int.tmod (wrap64 (a1)) 64).toNat) (.int .i8 (nt a0 ((Int.tmod (wrap64 (a1)) 64).toNat) 0)) ((bv a0)) BKb1.out (av_get 0 (by have h_ : a0.length = 64 := (by first | rfl | (simp only [List.length_set, List.length_replicate, zL_len, List.length_cons, List.length_nil, LN_a0.out, LN_t10.out]; done) | (simp [zL_len, LN_a0.out, LN_t10.out]; done)); have h1_ := hc30.out; have h2_ := hc31.out; omega)) _ rfl rfl) rfl ?_)
               | ((with_reducible refine gate_d (N := 73) rfl ?_); refine ag_fix (.agg (bv a0)) (ex_load boardT gb1 0 (bv a0) (bv a0) BKb1.out (av_le (by first | rfl | (simp only [List.length_set, List.length_replicate, zL_len, List.length_cons, List.length_nil, LN_a0.out, LN_t10.out]; done) | (simp [zL_len, LN_a0.out, LN_t10.out]; done))) (av_ex (by first | rfl | (simp only [List.length_set, List.length_replicate, zL_len, List.length_cons, List.length_nil, LN_a0.out, LN_t10.out]; done) | (simp [zL_len, LN_a0.out, LN_t10.out]; done))) _ rfl rfl) rfl ?_)
               | ((with_reducible refine gate_d (N := 14) rfl ?_); obtain ⟨gb14, hgb14⟩ : ∃ g_, w74.heap.size = g_ := ⟨_, rfl⟩; refine ag_alloc boardT gb14 hgb14 rfl rfl ?_; intro w75 hb_ hB_ hs_; have GEb14 : Hid (w.heap.size ≤ gb14) := hid (by have := HL.out.size; omega); have NBb1_b14 : Hid (gb1 ≠ gb14) := hid (by have := BKb1.out.lt; omega); have NBb14_b1 : Hid (gb14 ≠ gb1) := hid (by have := NBb1_b14.out; omega); replace BKb1 := hid (BKb1.out.below hb_ (by rw [← hgb14]; exact BKb1.out.lt)); have NBb13_b14 : Hid (gb13 ≠ gb14) := hid (by have := BKb13.out.lt; omega); have NBb14_b13 : Hid (gb14 ≠ gb13) := hid (by have := NBb13_b14.out; omega); replace BKb13 := hid (BKb13.out.below hb_ (by rw [← hgb14]; exact BKb13.out.lt)); replace SWo8 := hid (SWo8.out.below (by rw [hgb14]; exact hb_)); replace HL := hid (HL.out.trans (hb_.mono GEb14.out)); have BKb14 := hid hB_; clear hb_ hB_ hs_ hgb14)
               | ((with_reducible refine gate_s (t := 24) (p := 14) rfl ?_); refine ag_store boardT gb14 0 (bv zL) (bv a0) (bv a0) BKb14.out (by rw [show (bv a0) = av (Value.int .i8) a0 from rfl, av_size]; exact (by first | rfl | (simp only [List.length_set, List.length_replicate, zL_len, List.length_cons, List.length_nil, LN_a0.out, LN_t10.out]; done) | (simp [zL_len, LN_a0.out, LN_t10.out]; done))) (av_le (by first | rfl | (simp only [List.length_set, List.length_replicate, zL_len, List.length_cons, List.length_nil, LN_a0.out, LN_t10.out]; done) | (simp [zL_len, LN_a0.out, LN_t10.out]; done))) (av_one (fun _ => rfl)) (av_put (by first | rfl | (simp only [List.length_set, List.length_replicate, zL_len, List.length_cons, List.length_nil, LN_a0.out, LN_t10.out]; done) | (simp [zL_len, LN_a0.out, LN_t10.out]; done)) (by first | rfl | (simp only [List.length_set, List.length_replicate, zL_len, List.length_cons, List.length_nil, LN_a0.out, LN_t10.out]; done) | (simp [zL_len, LN_a0.out, LN_t10.out]; done))) rfl _ _ rfl rfl rfl ?_; intro w76 ho_ hB_; replace BKb1 := hid (BKb1.out.off ho_ NBb1_b14.out); replace BKb13 := hid (BKb13.out.off ho_ NBb13_b14.out); replace SWo8 := hid (SWo8.out.off ho_ BKb14.out (by decide)); replace HL := hid (ho_.below HL.out GEb14.out); replace BKb14 := hid hB_; clear ho_ hB_)
               | ((with_reducible refine gate_d (N := 80) rfl ?_); refine ag_fix (.pointer (some ⟨gb14, (Int.tmod (wrap64 (a1)) 64).toNat, none⟩)) (ex_at 24 (.pointer (some ⟨gb14, 0, none⟩)) (.int .i64 (Int.tmod (wrap64 (a1)) 64)) (.pointer (some ⟨gb14, (Int.tmod (wrap64 (a1)) 64).toNat, none⟩)) (fun w_ => (run_atv 22 uT24 sT22.size gb14 0 (Int.tmod (wrap64 (a1)) 64) hc30.out hc31.out w_).trans (by simp)) _ _ rfl rfl rfl) rfl ?_)
               | ((with_reducible refine gate_s (t := 22) (p := 80) rfl ?_); refine ag_set sT22 gb14 ((Int.tmod (wrap64 (a1)) 64).toNat) (.int .i8 (IntKind.i8.wrap (-(IntKind.i8.wrap (((Int.tmod a2 6) + 1) % 256))))) (bv a0) (bv (a0.set (Int.tmod (wrap64 (a1)) 64).toNat (IntKind.i8.wrap (-(IntKind.i8.wrap (((Int.tmod a2 6) + 1) % 256)))))) BKb14.out (by rw [show (bv a0) = av (Value.int .i8) a0 from rfl, av_size]; exact (by have h_ : a0.length = 64 := (by first | rfl | (simp only [List.length_set, List.length_replicate, zL_len, List.length_cons, List.length_nil, LN_a0.out, LN_t10.out]; done) | (simp [zL_len, LN_a0.out, LN_t10.out]; done)); have h1_ := hc30.out; have h2_ := hc31.out; omega)) rfl rfl (av_set _ _) rfl _ _ rfl rfl rfl ?_; intro w77 ho_ hB_; replace BKb1 := hid (BKb1.out.off ho_ NBb1_b14.out); replace BKb13 := hid (BKb13.out.off ho_ NBb13_b14.out); replace SWo8 := hid (SWo8.out.off ho_ BKb14.out (by decide)); replace HL := hid (ho_.below HL.out GEb14.out); replace BKb14 := hid hB_; clear ho_ hB_))
              (try simp only [Act.put, List.setIfInBounds_toArray, List.set_cons_zero, List.set_cons_succ])
              go_ret
              exact ⟨by first | rfl | (simp; done) | (simp [*]; done), HL.out⟩
            ·
             rw [if_neg c33] at H
             have c33b0 : (t12 == 0) = false := beq_eq_false_iff_ne.mpr c33
             have c33b1 : (t12 != 0) = true := bne_iff_ne.mpr c33
             have hc33 := hid c33
             clear c33
             obtain rfl := Option.some.inj H
             clear H
             go_enter Try.func13, Try.ntmps13
             have k79 := True.intro
             have k81 := True.intro
             go_wp2_with (first
              | ((with_reducible refine gate_d (N := 3) rfl ?_); obtain ⟨gb1, hgb1⟩ : ∃ g_, w.heap.size = g_ := ⟨_, rfl⟩; refine ag_box (bv a0) gb1 hgb1 rfl _ rfl rfl ?_; intro w78 hb_ hB_ hs_; have GEb1 : Hid (w.heap.size ≤ gb1) := hid (by have := HL.out.size; omega); replace HL := hid (HL.out.trans (hb_.mono GEb1.out)); have BKb1 := hid hB_; clear hb_ hB_ hs_ hgb1)
              | (go_at_call 41; clear k79; refine (i_alfillaw05_wakes.calls k true _ A15.out).mono ?_; rintro e_ w80 ⟨rfl, hb_⟩; replace BKb1 := hid (BKb1.out.below hb_ BKb1.out.lt); replace HL := hid (HL.out.trans (hb_.mono HL.out.size)); clear hb_)
              | ((with_reducible refine gate_d (N := 18) rfl ?_); refine ag_fix (.agg (bv a0)) (ex_load boardT gb1 0 (bv a0) (bv a0) BKb1.out (av_le (by first | rfl | (simp only [List.length_set, List.length_replicate, zL_len, List.length_cons, List.length_nil, LN_a0.out]; done) | (simp [zL_len, LN_a0.out]; done))) (av_ex (by first | rfl | (simp only [List.length_set, List.length_replicate, zL_len, List.length_cons, List.length_nil, LN_a0.out]; done) | (simp [zL_len, LN_a0.out]; done))) _ rfl rfl) rfl ?_)
              | (go_at_call 42; clear k81; refine (i_roll_Write.calls k a0 (by first | rfl | (simp only [List.length_set, List.length_replicate, zL_len, List.length_cons, List.length_nil, LN_a0.out]; done) | (simp [zL_len, LN_a0.out]; done)) t3 t4 _ A17.out).mono ?_; rintro e_ w82 ⟨rfl, hb_⟩; replace BKb1 := hid (BKb1.out.below hb_ BKb1.out.lt); replace HL := hid (HL.out.trans (hb_.mono HL.out.size)); clear hb_))
             (try simp only [Act.put, List.setIfInBounds_toArray, List.set_cons_zero, List.set_cons_succ])
             have WR64 := i64_w
             have WR32 := i32_w
             have WR8 := u8_w
             have WRU := u32_w
             refine sq_region (fun w'_ => Below w.heap.size w w'_ ∧ Blk w'_ gb1 24 (bv a0) ∧ True) [17, 18] [(0, 2), (1, 2), (2, 2), (3, 2), (4, 2), (5, 2), (6, 2), (7, 2), (8, 2), (9, 2), (10, 2), (11, 2), (12, 2), (13, 2), (14, 2), (15, 2), (16, 2), (17, 0), (18, 0), (19, 2), (20, 2)] (by kernel_rfl) (by kernel_rfl) (by kernel_rfl) rfl ?_
             intro w83 hb_
             replace BKb1 := hid (BKb1.out.below hb_ BKb1.out.lt)
             replace HL := hid (HL.out.trans (hb_.mono HL.out.size))
             clear hb_
             refine sq_pure (.string t3) rfl (fun w'_ => ex_mv (.tmp 7) (.inl rfl) _ rfl) rfl rfl ?_
             intro ts_ ht_; simp only [List.setIfInBounds_toArray, List.set_cons_zero, List.set_cons_succ] at ht_; subst ht_
             refine sq_pure (.string s5) rfl (fun w'_ => (ex_cat 9 t3 (⟨#[32]⟩ : ByteArray) hc19.out _ _ _ rfl rfl rfl).trans (by rw [Option.some.inj A20.out])) rfl rfl ?_
             intro ts_ ht_; simp only [List.setIfInBounds_toArray, List.set_cons_zero, List.set_cons_succ] at ht_; subst ht_
             refine sq_pure (.int .u8 a2) rfl (fun w'_ => ex_mv (.tmp 2) (.inl rfl) _ rfl) rfl rfl ?_
             intro ts_ ht_; simp only [List.setIfInBounds_toArray, List.set_cons_zero, List.set_cons_succ] at ht_; subst ht_
             refine sq_pure (.int .u8 (Int.tmod a2 6)) rfl (fun w'_ => by go_simp) rfl rfl ?_
             intro ts_ ht_; simp only [List.setIfInBounds_toArray, List.set_cons_zero, List.set_cons_succ] at ht_; subst ht_
             refine sq_pure (.int .u8 a2) rfl (fun w'_ => ex_mv (.tmp 2) (.inl rfl) _ rfl) rfl rfl ?_
             intro ts_ ht_; simp only [List.setIfInBounds_toArray, List.set_cons_zero, List.set_cons_succ] at ht_; subst ht_
             refine sq_pure (.int .u8 (Int.tmod a2 6)) rfl (fun w'_ => by go_simp) rfl rfl ?_
             intro ts_ ht_; simp only [List.setIfInBounds_toArray, List.set_cons_zero, List.set_cons_succ] at ht_; subst ht_
             refine sq_pure (.int .u8 (((Int.tmod a2 6) + 1) % 256)) rfl (fun w'_ => by go_simp) rfl rfl ?_
             intro ts_ ht_; simp only [List.setIfInBounds_toArray, List.set_cons_zero, List.set_cons_succ] at ht_; subst ht_
             refine sq_pure (.string s6) rfl (fun w'_ => (ex_cut_lhK 9 und_txt (⟨#[80, 78, 66, 82, 81, 75]⟩ : ByteArray) (Int.tmod a2 6) (((Int.tmod a2 6) + 1) % 256) hc21.out hc22.out hc23.out _ _ _ rfl rfl rfl rfl).trans (by rw [Option.some.inj A24.out])) rfl rfl ?_
             intro ts_ ht_; simp only [List.setIfInBounds_toArray, List.set_cons_zero, List.set_cons_succ] at ht_; subst ht_
             refine sq_pure (.string s7) rfl (fun w'_ => (ex_cat 9 s5 s6 hc25.out _ _ _ rfl rfl rfl).trans (by rw [Option.some.inj A26.out])) rfl rfl ?_
             intro ts_ ht_; simp only [List.setIfInBounds_toArray, List.set_cons_zero, List.set_cons_succ] at ht_; subst ht_
             refine sq_pure (.int .i64 (Int.tmod (wrap64 (a1)) 64)) rfl (fun w'_ => ex_mv (.tmp 9) (.inl rfl) _ rfl) rfl rfl ?_
             intro ts_ ht_; simp only [List.setIfInBounds_toArray, List.set_cons_zero, List.set_cons_succ] at ht_; subst ht_
             refine sq_pure (.int .i64 (Int.tmod (wrap64 (a1)) 8)) rfl (fun w'_ => by go_simp) rfl rfl ?_
             intro ts_ ht_; simp only [List.setIfInBounds_toArray, List.set_cons_zero, List.set_cons_succ] at ht_; subst ht_
             refine sq_pure (.int .u8 ((Int.tmod (wrap64 (a1)) 8) % 256)) rfl (fun w'_ => by go_simp) rfl rfl ?_
             intro ts_ ht_; simp only [List.setIfInBounds_toArray, List.set_cons_zero, List.set_cons_succ] at ht_; subst ht_
             refine sq_pure (.int .u8 ((97 + (Int.tmod (wrap64 (a1)) 8)) % 256)) rfl (fun w'_ => by go_simp) rfl rfl ?_
             intro ts_ ht_; simp only [List.setIfInBounds_toArray, List.set_cons_zero, List.set_cons_succ] at ht_; subst ht_
             refine sq_pure (.int .i64 (Int.tmod (wrap64 (a1)) 64)) rfl (fun w'_ => ex_mv (.tmp 9) (.inl rfl) _ rfl) rfl rfl ?_
             intro ts_ ht_; simp only [List.setIfInBounds_toArray, List.set_cons_zero, List.set_cons_succ] at ht_; subst ht_
             refine sq_pure (.int .i64 (wrap64 (Int.tdiv (Int.tmod (wrap64 (a1)) 64) 8))) rfl (fun w'_ => by go_simp) rfl rfl ?_
             intro ts_ ht_; simp only [List.setIfInBounds_toArray, List.set_cons_zero, List.set_cons_succ] at ht_; subst ht_
             refine sq_pure (.int .u8 ((wrap64 (Int.tdiv (Int.tmod (wrap64 (a1)) 64) 8)) % 256)) rfl (fun w'_ => by go_simp) rfl rfl ?_
             intro ts_ ht_; simp only [List.setIfInBounds_toArray, List.set_cons_zero, List.set_cons_succ] at ht_; subst ht_
             refine sq_pure (.int .u8 ((49 + (wrap64 (Int.tdiv (Int.tmod (wrap64 (a1)) 64) 8))) % 256)) rfl (fun w'_ => by go_simp) rfl rfl ?_
             intro ts_ ht_; simp only [List.setIfInBounds_toArray, List.set_cons_zero, List.set_cons_succ] at ht_; subst ht_
             refine sq_act rfl (fun Q'_ hQ_ => ?_)
             (with_reducible refine gate_d (N := 46) rfl ?_)
             obtain ⟨go8, hgo8⟩ : ∃ g_, w83.heap.size = g_ := ⟨_, rfl⟩
             refine ag_litn (e := 5) 2 #[.int .u8 ((97 + (Int.tmod (wrap64 (a1)) 8)) % 256), .int .u8 ((49 + (wrap64 (Int.tdiv (Int.tmod (wrap64 (a1)) 64) 8))) % 256)] go8 hgo8 rfl _ rfl (fun w_ => by (try simp only [List.map_toArray, List.map_cons, List.map_nil]); kernel_rfl) ?_
             intro w84 hb_ hB_ hs_
             have GEo8 : Hid (w.heap.size ≤ go8) := hid (by have := HL.out.size; omega)
             have NBb1_o8 : Hid (gb1 ≠ go8) := hid (by have := BKb1.out.lt; omega)
             have NBo8_b1 : Hid (go8 ≠ gb1) := hid (by have := NBb1_o8.out; omega)
             replace BKb1 := hid (BKb1.out.below hb_ (by rw [← hgo8]; exact BKb1.out.lt))
             replace HL := hid (HL.out.trans (hb_.mono GEo8.out))
             have BKo8 := hid hB_
             clear hb_ hB_ hs_ hgo8
             obtain ⟨uo8, hu_⟩ : ∃ u_, u_ = (Value.slice (some ⟨go8, 0, none⟩) 2 2) := ⟨_, rfl⟩
             have SWo8 : Hid (Own w84 w.heap.size 5 (uo8) ([(97 + (Int.tmod (wrap64 (a1)) 8)) % 256, (49 + (wrap64 (Int.tdiv (Int.tmod (wrap64 (a1)) 64) 8))) % 256].map (Value.int .u8))) := hid (by rw [hu_]; exact Own.lit GEo8.out BKo8.out rfl (by simp [maxLen]))
             rw [← hu_]
             clear hu_ BKo8
             refine act_end ?_
             refine hQ_ _ _ (fun h_ => absurd h_ (by decide)) ?_
             clear hQ_ Q'_
             simp only [Act.put, List.setIfInBounds_toArray, List.set_cons_zero, List.set_cons_succ]
             refine sq_act rfl (fun Q'_ hQ_ => ?_)
             (with_reducible refine gate_d (N := 47) rfl ?_)
             refine ag_fix (.string (strOfNums [(97 + (Int.tmod (wrap64 (a1)) 8)) % 256, (49 + (wrap64 (Int.tdiv (Int.tmod (wrap64 (a1)) 64) 8))) % 256])) (ex_bstr SWo8.out (by simp) 57 9 5 us57 ub5 und_txt _ rfl rfl) rfl ?_
             refine act_end ?_
             refine hQ_ _ _ (fun h_ => absurd h_ (by decide)) ?_
             clear hQ_ Q'_
             simp only [Act.put, List.setIfInBounds_toArray, List.set_cons_zero, List.set_cons_succ]
             refine sq_pure (.string s9) rfl (fun w'_ => (ex_cat 9 s7 (strOfNums [(97 + (Int.tmod (wrap64 (a1)) 8)) % 256, (49 + (wrap64 (Int.tdiv (Int.tmod (wrap64 (a1)) 64) 8))) % 256]) hc27.out _ _ _ rfl rfl rfl).trans (by rw [Option.some.inj A28.out])) rfl rfl ?_
             intro ts_ ht_; simp only [List.setIfInBounds_toArray, List.set_cons_zero, List.set_cons_succ] at ht_; subst ht_
             refine sq_pure (.string s9) rfl (fun w'_ => ex_mv (.tmp 48) (.inr rfl) _ rfl) rfl rfl ?_
             intro ts_ ht_; simp only [List.setIfInBounds_toArray, List.set_cons_zero, List.set_cons_succ] at ht_; subst ht_
             refine sq_end ?_
             clear WR64 WR32 WR8 WRU
             have k85 := True.intro
             go_wp2_with (first
              | (go_at_call 44; clear k85; refine (i_roll_Read.calls k s9 t10 t11 t12 _ A29.out).mono ?_; rintro e_ w86 ⟨rfl, ln_t10, hb_⟩; have LN_t10 := hid ln_t10; clear ln_t10; replace BKb1 := hid (BKb1.out.below hb_ BKb1.out.lt); replace SWo8 := hid (SWo8.out.below hb_); replace HL := hid (HL.out.trans (hb_.mono HL.out.size)); clear hb_)
              | ((with_reducible refine gate_d (N := 11) rfl ?_); obtain ⟨gb13, hgb13⟩ : ∃ g_, w86.heap.size = g_ := ⟨_, rfl⟩; refine ag_alloc boardT gb13 hgb13 rfl rfl ?_; intro w87 hb_ hB_ hs_; have GEb13 : Hid (w.heap.size ≤ gb13) := hid (by have := HL.out.size; omega); have NBb1_b13 : Hid (gb1 ≠ gb13) := hid (by have := BKb1.out.lt; omega); have NBb13_b1 : Hid (gb13 ≠ gb1) := hid (by have := NBb1_b13.out; omega); replace BKb1 := hid (BKb1.out.below hb_ (by rw [← hgb13]; exact BKb1.out.lt)); replace SWo8 := hid (SWo8.out.below (by rw [hgb13]; exact hb_)); replace HL := hid (HL.out.trans (hb_.mono GEb13.out)); have BKb13 := hid hB_; clear hb_ hB_ hs_ hgb13)
              | ((with_reducible refine gate_s (t := 24) (p := 11) rfl ?_); refine ag_store boardT gb13 0 (bv zL) (bv t10) (bv t10) BKb13.out (by rw [show (bv t10) = av (Value.int .i8) t10 from rfl, av_size]; exact (by first | rfl | (simp only [List.length_set, List.length_replicate, zL_len, List.length_cons, List.length_nil, LN_a0.out, LN_t10.out]; done) | (simp [zL_len, LN_a0.out, LN_t10.out]; done))) (av_le (by first | rfl | (simp only [List.length_set, List.length_replicate, zL_len, List.length_cons, List.length_nil, LN_a0.out, LN_t10.out]; done) | (simp [zL_len, LN_a0.out, LN_t10.out]; done))) (av_one (fun _ => rfl)) (av_put (by first | rfl | (simp only [List.length_set, List.length_replicate, zL_len, List.length_cons, List.length_nil, LN_a0.out, LN_t10.out]; done) | (simp [zL_len, LN_a0.out, LN_t10.out]; done)) (by first | rfl | (simp only [List.length_set, List.length_replicate, zL_len, List.length_cons, List.length_nil, LN_a0.out, LN_t10.out]; done) | (simp [zL_len, LN_a0.out, LN_t10.out]; done))) rfl _ _ rfl rfl rfl ?_; intro w88 ho_ hB_; replace BKb1 := hid (BKb1.out.off ho_ NBb1_b13.out); replace SWo8 := hid (SWo8.out.off ho_ BKb13.out (by decide)); replace HL := hid (ho_.below HL.out GEb13.out); replace BKb13 := hid hB_; clear ho_ hB_)
              | ((with_reducible refine gate_d (N := 56) rfl ?_); refine ag_fix (.pointer (some ⟨gb1, (Int.tmod (wrap64 (a1)) 64).toNat, none⟩)) (ex_at 24 (.pointer (some ⟨gb1, 0, none⟩)) (.int .i64 (Int.tmod (wrap64 (a1)) 64)) (.pointer (some ⟨gb1, (Int.tmod (wrap64 (a1)) 64).toNat, none⟩)) (fun w_ => (run_atv 22 uT24 sT22.size gb1 0 (Int.tmod (wrap64 (a1)) 64) hc30.out hc31.out w_).trans (by simp)) _ _ rfl rfl rfl) rfl ?_)
              | ((with_reducible refine gate_d (N := 57) rfl ?_); refine ag_fix (.int .i8 (nt a0 ((Int.tmod (wrap64 (a1)) 64).toNat) 0)) (ex_get sT22 gb1 ((Int.tmod (wrap64 (a1)) 64).toNat) (.int .i8 (nt a0 ((Int.tmod (wrap64 (a1)) 64).toNat) 0)) ((bv a0)) BKb1.out (av_get 0 (by have h_ : a0.length = 64 := (by first | rfl | (simp only [List.length_set, List.length_replicate, zL_len, List.length_cons, List.length_nil, LN_a0.out, LN_t10.out]; done) | (simp [zL_len, LN_a0.out, LN_t10.out]; done)); have h1_ := hc30.out; have h2_ := hc31.out; omega)) _ rfl rfl) rfl ?_)
              | ((with_reducible refine gate_d (N := 73) rfl ?_); refine ag_fix (.agg (bv a0)) (ex_load boardT gb1 0 (bv a0) (bv a0) BKb1.out (av_le (by first | rfl | (simp only [List.length_set, List.length_replicate, zL_len, List.length_cons, List.length_nil, LN_a0.out, LN_t10.out]; done) | (simp [zL_len, LN_a0.out, LN_t10.out]; done))) (av_ex (by first | rfl | (simp only [List.length_set, List.length_replicate, zL_len, List.length_cons, List.length_nil, LN_a0.out, LN_t10.out]; done) | (simp [zL_len, LN_a0.out, LN_t10.out]; done))) _ rfl rfl) rfl ?_)
              | ((with_reducible refine gate_d (N := 14) rfl ?_); obtain ⟨gb14, hgb14⟩ : ∃ g_, w88.heap.size = g_ := ⟨_, rfl⟩; refine ag_alloc boardT gb14 hgb14 rfl rfl ?_; intro w89 hb_ hB_ hs_; have GEb14 : Hid (w.heap.size ≤ gb14) := hid (by have := HL.out.size; omega); have NBb1_b14 : Hid (gb1 ≠ gb14) := hid (by have := BKb1.out.lt; omega); have NBb14_b1 : Hid (gb14 ≠ gb1) := hid (by have := NBb1_b14.out; omega); replace BKb1 := hid (BKb1.out.below hb_ (by rw [← hgb14]; exact BKb1.out.lt)); have NBb13_b14 : Hid (gb13 ≠ gb14) := hid (by have := BKb13.out.lt; omega); have NBb14_b13 : Hid (gb14 ≠ gb13) := hid (by have := NBb13_b14.out; omega); replace BKb13 := hid (BKb13.out.below hb_ (by rw [← hgb14]; exact BKb13.out.lt)); replace SWo8 := hid (SWo8.out.below (by rw [hgb14]; exact hb_)); replace HL := hid (HL.out.trans (hb_.mono GEb14.out)); have BKb14 := hid hB_; clear hb_ hB_ hs_ hgb14)
              | ((with_reducible refine gate_s (t := 24) (p := 14) rfl ?_); refine ag_store boardT gb14 0 (bv zL) (bv a0) (bv a0) BKb14.out (by rw [show (bv a0) = av (Value.int .i8) a0 from rfl, av_size]; exact (by first | rfl | (simp only [List.length_set, List.length_replicate, zL_len, List.length_cons, List.length_nil, LN_a0.out, LN_t10.out]; done) | (simp [zL_len, LN_a0.out, LN_t10.out]; done))) (av_le (by first | rfl | (simp only [List.length_set, List.length_replicate, zL_len, List.length_cons, List.length_nil, LN_a0.out, LN_t10.out]; done) | (simp [zL_len, LN_a0.out, LN_t10.out]; done))) (av_one (fun _ => rfl)) (av_put (by first | rfl | (simp only [List.length_set, List.length_replicate, zL_len, List.length_cons, List.length_nil, LN_a0.out, LN_t10.out]; done) | (simp [zL_len, LN_a0.out, LN_t10.out]; done)) (by first | rfl | (simp only [List.length_set, List.length_replicate, zL_len, List.length_cons, List.length_nil, LN_a0.out, LN_t10.out]; done) | (simp [zL_len, LN_a0.out, LN_t10.out]; done))) rfl _ _ rfl rfl rfl ?_; intro w90 ho_ hB_; replace BKb1 := hid (BKb1.out.off ho_ NBb1_b14.out); replace BKb13 := hid (BKb13.out.off ho_ NBb13_b14.out); replace SWo8 := hid (SWo8.out.off ho_ BKb14.out (by decide)); replace HL := hid (ho_.below HL.out GEb14.out); replace BKb14 := hid hB_; clear ho_ hB_)
              | ((with_reducible refine gate_d (N := 80) rfl ?_); refine ag_fix (.pointer (some ⟨gb14, (Int.tmod (wrap64 (a1)) 64).toNat, none⟩)) (ex_at 24 (.pointer (some ⟨gb14, 0, none⟩)) (.int .i64 (Int.tmod (wrap64 (a1)) 64)) (.pointer (some ⟨gb14, (Int.tmod (wrap64 (a1)) 64).toNat, none⟩)) (fun w_ => (run_atv 22 uT24 sT22.size gb14 0 (Int.tmod (wrap64 (a1)) 64) hc30.out hc31.out w_).trans (by simp)) _ _ rfl rfl rfl) rfl ?_)
              | ((with_reducible refine gate_s (t := 22) (p := 80) rfl ?_); refine ag_set sT22 gb14 ((Int.tmod (wrap64 (a1)) 64).toNat) (.int .i8 (IntKind.i8.wrap (-(IntKind.i8.wrap (((Int.tmod a2 6) + 1) % 256))))) (bv a0) (bv (a0.set (Int.tmod (wrap64 (a1)) 64).toNat (IntKind.i8.wrap (-(IntKind.i8.wrap (((Int.tmod a2 6) + 1) % 256)))))) BKb14.out (by rw [show (bv a0) = av (Value.int .i8) a0 from rfl, av_size]; exact (by have h_ : a0.length = 64 := (by first | rfl | (simp only [List.length_set, List.length_replicate, zL_len, List.length_cons, List.length_nil, LN_a0.out, LN_t10.out]; done) | (simp [zL_len, LN_a0.out, LN_t10.out]; done)); have h1_ := hc30.out; have h2_ := hc31.out; omega)) rfl rfl (av_set _ _) rfl _ _ rfl rfl rfl ?_; intro w91 ho_ hB_; replace BKb1 := hid (BKb1.out.off ho_ NBb1_b14.out); replace BKb13 := hid (BKb13.out.off ho_ NBb13_b14.out); replace SWo8 := hid (SWo8.out.off ho_ BKb14.out (by decide)); replace HL := hid (ho_.below HL.out GEb14.out); replace BKb14 := hid hB_; clear ho_ hB_))
             (try simp only [Act.put, List.setIfInBounds_toArray, List.set_cons_zero, List.set_cons_succ])
             go_ret
             exact ⟨by first | rfl | (simp; done) | (simp [*]; done), HL.out⟩
           ·
            rw [if_neg c32] at H
            have c32b0 : ((nt a0 ((Int.tmod (wrap64 (a1)) 64).toNat) 0) == 0) = false := beq_eq_false_iff_ne.mpr c32
            have c32b1 : ((nt a0 ((Int.tmod (wrap64 (a1)) 64).toNat) 0) != 0) = true := bne_iff_ne.mpr c32
            have hc32 := hid c32
            clear c32
            by_cases c92 : t10 = zL
            ·
             rw [if_pos c92] at H
             have c92b0 : (t10 == zL) = true := beq_iff_eq.mpr c92
             have c92b1 : (t10 != zL) = false := bne_eq_false_iff_eq.mpr c92
             have hc92 := hid c92
             clear c92
             by_cases c93 : t11 = (wrap64 ((s9.size : Int) - 1))
             ·
              rw [if_pos c93] at H
              have c93b0 : (t11 == (wrap64 ((s9.size : Int) - 1))) = true := beq_iff_eq.mpr c93
              have c93b1 : (t11 != (wrap64 ((s9.size : Int) - 1))) = false := bne_eq_false_iff_eq.mpr c93
              have hc93 := hid c93
              clear c93
              obtain rfl := Option.some.inj H
              clear H
              go_enter Try.func13, Try.ntmps13
              have k95 := True.intro
              have k97 := True.intro
              go_wp2_with (first
               | ((with_reducible refine gate_d (N := 3) rfl ?_); obtain ⟨gb1, hgb1⟩ : ∃ g_, w.heap.size = g_ := ⟨_, rfl⟩; refine ag_box (bv a0) gb1 hgb1 rfl _ rfl rfl ?_; intro w94 hb_ hB_ hs_; have GEb1 : Hid (w.heap.size ≤ gb1) := hid (by have := HL.out.size; omega); replace HL := hid (HL.out.trans (hb_.mono GEb1.out)); have BKb1 := hid hB_; clear hb_ hB_ hs_ hgb1)
               | (go_at_call 41; clear k95; refine (i_alfillaw05_wakes.calls k true _ A15.out).mono ?_; rintro e_ w96 ⟨rfl, hb_⟩; replace BKb1 := hid (BKb1.out.below hb_ BKb1.out.lt); replace HL := hid (HL.out.trans (hb_.mono HL.out.size)); clear hb_)
               | ((with_reducible refine gate_d (N := 18) rfl ?_); refine ag_fix (.agg (bv a0)) (ex_load boardT gb1 0 (bv a0) (bv a0) BKb1.out (av_le (by first | rfl | (simp only [List.length_set, List.length_replicate, zL_len, List.length_cons, List.length_nil, LN_a0.out]; done) | (simp [zL_len, LN_a0.out]; done))) (av_ex (by first | rfl | (simp only [List.length_set, List.length_replicate, zL_len, List.length_cons, List.length_nil, LN_a0.out]; done) | (simp [zL_len, LN_a0.out]; done))) _ rfl rfl) rfl ?_)
               | (go_at_call 42; clear k97; refine (i_roll_Write.calls k a0 (by first | rfl | (simp only [List.length_set, List.length_replicate, zL_len, List.length_cons, List.length_nil, LN_a0.out]; done) | (simp [zL_len, LN_a0.out]; done)) t3 t4 _ A17.out).mono ?_; rintro e_ w98 ⟨rfl, hb_⟩; replace BKb1 := hid (BKb1.out.below hb_ BKb1.out.lt); replace HL := hid (HL.out.trans (hb_.mono HL.out.size)); clear hb_))
              (try simp only [Act.put, List.setIfInBounds_toArray, List.set_cons_zero, List.set_cons_succ])
              have WR64 := i64_w
              have WR32 := i32_w
              have WR8 := u8_w
              have WRU := u32_w
              refine sq_region (fun w'_ => Below w.heap.size w w'_ ∧ Blk w'_ gb1 24 (bv a0) ∧ True) [17, 18] [(0, 2), (1, 2), (2, 2), (3, 2), (4, 2), (5, 2), (6, 2), (7, 2), (8, 2), (9, 2), (10, 2), (11, 2), (12, 2), (13, 2), (14, 2), (15, 2), (16, 2), (17, 0), (18, 0), (19, 2), (20, 2)] (by kernel_rfl) (by kernel_rfl) (by kernel_rfl) rfl ?_
              intro w99 hb_
              replace BKb1 := hid (BKb1.out.below hb_ BKb1.out.lt)
              replace HL := hid (HL.out.trans (hb_.mono HL.out.size))
              clear hb_
              refine sq_pure (.string t3) rfl (fun w'_ => ex_mv (.tmp 7) (.inl rfl) _ rfl) rfl rfl ?_
              intro ts_ ht_; simp only [List.setIfInBounds_toArray, List.set_cons_zero, List.set_cons_succ] at ht_; subst ht_
              refine sq_pure (.string s5) rfl (fun w'_ => (ex_cat 9 t3 (⟨#[32]⟩ : ByteArray) hc19.out _ _ _ rfl rfl rfl).trans (by rw [Option.some.inj A20.out])) rfl rfl ?_
              intro ts_ ht_; simp only [List.setIfInBounds_toArray, List.set_cons_zero, List.set_cons_succ] at ht_; subst ht_
              refine sq_pure (.int .u8 a2) rfl (fun w'_ => ex_mv (.tmp 2) (.inl rfl) _ rfl) rfl rfl ?_
              intro ts_ ht_; simp only [List.setIfInBounds_toArray, List.set_cons_zero, List.set_cons_succ] at ht_; subst ht_
              refine sq_pure (.int .u8 (Int.tmod a2 6)) rfl (fun w'_ => by go_simp) rfl rfl ?_
              intro ts_ ht_; simp only [List.setIfInBounds_toArray, List.set_cons_zero, List.set_cons_succ] at ht_; subst ht_
              refine sq_pure (.int .u8 a2) rfl (fun w'_ => ex_mv (.tmp 2) (.inl rfl) _ rfl) rfl rfl ?_
              intro ts_ ht_; simp only [List.setIfInBounds_toArray, List.set_cons_zero, List.set_cons_succ] at ht_; subst ht_
              refine sq_pure (.int .u8 (Int.tmod a2 6)) rfl (fun w'_ => by go_simp) rfl rfl ?_
              intro ts_ ht_; simp only [List.setIfInBounds_toArray, List.set_cons_zero, List.set_cons_succ] at ht_; subst ht_
              refine sq_pure (.int .u8 (((Int.tmod a2 6) + 1) % 256)) rfl (fun w'_ => by go_simp) rfl rfl ?_
              intro ts_ ht_; simp only [List.setIfInBounds_toArray, List.set_cons_zero, List.set_cons_succ] at ht_; subst ht_
              refine sq_pure (.string s6) rfl (fun w'_ => (ex_cut_lhK 9 und_txt (⟨#[80, 78, 66, 82, 81, 75]⟩ : ByteArray) (Int.tmod a2 6) (((Int.tmod a2 6) + 1) % 256) hc21.out hc22.out hc23.out _ _ _ rfl rfl rfl rfl).trans (by rw [Option.some.inj A24.out])) rfl rfl ?_
              intro ts_ ht_; simp only [List.setIfInBounds_toArray, List.set_cons_zero, List.set_cons_succ] at ht_; subst ht_
              refine sq_pure (.string s7) rfl (fun w'_ => (ex_cat 9 s5 s6 hc25.out _ _ _ rfl rfl rfl).trans (by rw [Option.some.inj A26.out])) rfl rfl ?_
              intro ts_ ht_; simp only [List.setIfInBounds_toArray, List.set_cons_zero, List.set_cons_succ] at ht_; subst ht_
              refine sq_pure (.int .i64 (Int.tmod (wrap64 (a1)) 64)) rfl (fun w'_ => ex_mv (.tmp 9) (.inl rfl) _ rfl) rfl rfl ?_
              intro ts_ ht_; simp only [List.setIfInBounds_toArray, List.set_cons_zero, List.set_cons_succ] at ht_; subst ht_
              refine sq_pure (.int .i64 (Int.tmod (wrap64 (a1)) 8)) rfl (fun w'_ => by go_simp) rfl rfl ?_
              intro ts_ ht_; simp only [List.setIfInBounds_toArray, List.set_cons_zero, List.set_cons_succ] at ht_; subst ht_
              refine sq_pure (.int .u8 ((Int.tmod (wrap64 (a1)) 8) % 256)) rfl (fun w'_ => by go_simp) rfl rfl ?_
              intro ts_ ht_; simp only [List.setIfInBounds_toArray, List.set_cons_zero, List.set_cons_succ] at ht_; subst ht_
              refine sq_pure (.int .u8 ((97 + (Int.tmod (wrap64 (a1)) 8)) % 256)) rfl (fun w'_ => by go_simp) rfl rfl ?_
              intro ts_ ht_; simp only [List.setIfInBounds_toArray, List.set_cons_zero, List.set_cons_succ] at ht_; subst ht_
              refine sq_pure (.int .i64 (Int.tmod (wrap64 (a1)) 64)) rfl (fun w'_ => ex_mv (.tmp 9) (.inl rfl) _ rfl) rfl rfl ?_
              intro ts_ ht_; simp only [List.setIfInBounds_toArray, List.set_cons_zero, List.set_cons_succ] at ht_; subst ht_
              refine sq_pure (.int .i64 (wrap64 (Int.tdiv (Int.tmod (wrap64 (a1)) 64) 8))) rfl (fun w'_ => by go_simp) rfl rfl ?_
              intro ts_ ht_; simp only [List.setIfInBounds_toArray, List.set_cons_zero, List.set_cons_succ] at ht_; subst ht_
              refine sq_pure (.int .u8 ((wrap64 (Int.tdiv (Int.tmod (wrap64 (a1)) 64) 8)) % 256)) rfl (fun w'_ => by go_simp) rfl rfl ?_
              intro ts_ ht_; simp only [List.setIfInBounds_toArray, List.set_cons_zero, List.set_cons_succ] at ht_; subst ht_
              refine sq_pure (.int .u8 ((49 + (wrap64 (Int.tdiv (Int.tmod (wrap64 (a1)) 64) 8))) % 256)) rfl (fun w'_ => by go_simp) rfl rfl ?_
              intro ts_ ht_; simp only [List.setIfInBounds_toArray, List.set_cons_zero, List.set_cons_succ] at ht_; subst ht_
              refine sq_act rfl (fun Q'_ hQ_ => ?_)
              (with_reducible refine gate_d (N := 46) rfl ?_)
              obtain ⟨go8, hgo8⟩ : ∃ g_, w99.heap.size = g_ := ⟨_, rfl⟩
              refine ag_litn (e := 5) 2 #[.int .u8 ((97 + (Int.tmod (wrap64 (a1)) 8)) % 256), .int .u8 ((49 + (wrap64 (Int.tdiv (Int.tmod (wrap64 (a1)) 64) 8))) % 256)] go8 hgo8 rfl _ rfl (fun w_ => by (try simp only [List.map_toArray, List.map_cons, List.map_nil]); kernel_rfl) ?_
              intro w100 hb_ hB_ hs_
              have GEo8 : Hid (w.heap.size ≤ go8) := hid (by have := HL.out.size; omega)
              have NBb1_o8 : Hid (gb1 ≠ go8) := hid (by have := BKb1.out.lt; omega)
              have NBo8_b1 : Hid (go8 ≠ gb1) := hid (by have := NBb1_o8.out; omega)
              replace BKb1 := hid (BKb1.out.below hb_ (by rw [← hgo8]; exact BKb1.out.lt))
              replace HL := hid (HL.out.trans (hb_.mono GEo8.out))
              have BKo8 := hid hB_
              clear hb_ hB_ hs_ hgo8
              obtain ⟨uo8, hu_⟩ : ∃ u_, u_ = (Value.slice (some ⟨go8, 0, none⟩) 2 2) := ⟨_, rfl⟩
              have SWo8 : Hid (Own w100 w.heap.size 5 (uo8) ([(97 + (Int.tmod (wrap64 (a1)) 8)) % 256, (49 + (wrap64 (Int.tdiv (Int.tmod (wrap64 (a1)) 64) 8))) % 256].map (Value.int .u8))) := hid (by rw [hu_]; exact Own.lit GEo8.out BKo8.out rfl (by simp [maxLen]))
              rw [← hu_]
              clear hu_ BKo8
              refine act_end ?_
              refine hQ_ _ _ (fun h_ => absurd h_ (by decide)) ?_
              clear hQ_ Q'_
              simp only [Act.put, List.setIfInBounds_toArray, List.set_cons_zero, List.set_cons_succ]
              refine sq_act rfl (fun Q'_ hQ_ => ?_)
              (with_reducible refine gate_d (N := 47) rfl ?_)
              refine ag_fix (.string (strOfNums [(97 + (Int.tmod (wrap64 (a1)) 8)) % 256, (49 + (wrap64 (Int.tdiv (Int.tmod (wrap64 (a1)) 64) 8))) % 256])) (ex_bstr SWo8.out (by simp) 57 9 5 us57 ub5 und_txt _ rfl rfl) rfl ?_
              refine act_end ?_
              refine hQ_ _ _ (fun h_ => absurd h_ (by decide)) ?_
              clear hQ_ Q'_
              simp only [Act.put, List.setIfInBounds_toArray, List.set_cons_zero, List.set_cons_succ]
              refine sq_pure (.string s9) rfl (fun w'_ => (ex_cat 9 s7 (strOfNums [(97 + (Int.tmod (wrap64 (a1)) 8)) % 256, (49 + (wrap64 (Int.tdiv (Int.tmod (wrap64 (a1)) 64) 8))) % 256]) hc27.out _ _ _ rfl rfl rfl).trans (by rw [Option.some.inj A28.out])) rfl rfl ?_
              intro ts_ ht_; simp only [List.setIfInBounds_toArray, List.set_cons_zero, List.set_cons_succ] at ht_; subst ht_
              refine sq_pure (.string s9) rfl (fun w'_ => ex_mv (.tmp 48) (.inr rfl) _ rfl) rfl rfl ?_
              intro ts_ ht_; simp only [List.setIfInBounds_toArray, List.set_cons_zero, List.set_cons_succ] at ht_; subst ht_
              refine sq_end ?_
              clear WR64 WR32 WR8 WRU
              have k101 := True.intro
              go_wp2_with (first
               | (go_at_call 44; clear k101; refine (i_roll_Read.calls k s9 t10 t11 t12 _ A29.out).mono ?_; rintro e_ w102 ⟨rfl, ln_t10, hb_⟩; have LN_t10 := hid ln_t10; clear ln_t10; replace BKb1 := hid (BKb1.out.below hb_ BKb1.out.lt); replace SWo8 := hid (SWo8.out.below hb_); replace HL := hid (HL.out.trans (hb_.mono HL.out.size)); clear hb_)
               | ((with_reducible refine gate_d (N := 11) rfl ?_); obtain ⟨gb13, hgb13⟩ : ∃ g_, w102.heap.size = g_ := ⟨_, rfl⟩; refine ag_alloc boardT gb13 hgb13 rfl rfl ?_; intro w103 hb_ hB_ hs_; have GEb13 : Hid (w.heap.size ≤ gb13) := hid (by have := HL.out.size; omega); have NBb1_b13 : Hid (gb1 ≠ gb13) := hid (by have := BKb1.out.lt; omega); have NBb13_b1 : Hid (gb13 ≠ gb1) := hid (by have := NBb1_b13.out; omega); replace BKb1 := hid (BKb1.out.below hb_ (by rw [← hgb13]; exact BKb1.out.lt)); replace SWo8 := hid (SWo8.out.below (by rw [hgb13]; exact hb_)); replace HL := hid (HL.out.trans (hb_.mono GEb13.out)); have BKb13 := hid hB_; clear hb_ hB_ hs_ hgb13)
               | ((with_reducible refine gate_s (t := 24) (p := 11) rfl ?_); refine ag_store boardT gb13 0 (bv zL) (bv t10) (bv t10) BKb13.out (by rw [show (bv t10) = av (Value.int .i8) t10 from rfl, av_size]; exact (by first | rfl | (simp only [List.length_set, List.length_replicate, zL_len, List.length_cons, List.length_nil, LN_a0.out, LN_t10.out]; done) | (simp [zL_len, LN_a0.out, LN_t10.out]; done))) (av_le (by first | rfl | (simp only [List.length_set, List.length_replicate, zL_len, List.length_cons, List.length_nil, LN_a0.out, LN_t10.out]; done) | (simp [zL_len, LN_a0.out, LN_t10.out]; done))) (av_one (fun _ => rfl)) (av_put (by first | rfl | (simp only [List.length_set, List.length_replicate, zL_len, List.length_cons, List.length_nil, LN_a0.out, LN_t10.out]; done) | (simp [zL_len, LN_a0.out, LN_t10.out]; done)) (by first | rfl | (simp only [List.length_set, List.length_replicate, zL_len, List.length_cons, List.length_nil, LN_a0.out, LN_t10.out]; done) | (simp [zL_len, LN_a0.out, LN_t10.out]; done))) rfl _ _ rfl rfl rfl ?_; intro w104 ho_ hB_; replace BKb1 := hid (BKb1.out.off ho_ NBb1_b13.out); replace SWo8 := hid (SWo8.out.off ho_ BKb13.out (by decide)); replace HL := hid (ho_.below HL.out GEb13.out); replace BKb13 := hid hB_; clear ho_ hB_)
               | ((with_reducible refine gate_d (N := 56) rfl ?_); refine ag_fix (.pointer (some ⟨gb1, (Int.tmod (wrap64 (a1)) 64).toNat, none⟩)) (ex_at 24 (.pointer (some ⟨gb1, 0, none⟩)) (.int .i64 (Int.tmod (wrap64 (a1)) 64)) (.pointer (some ⟨gb1, (Int.tmod (wrap64 (a1)) 64).toNat, none⟩)) (fun w_ => (run_atv 22 uT24 sT22.size gb1 0 (Int.tmod (wrap64 (a1)) 64) hc30.out hc31.out w_).trans (by simp)) _ _ rfl rfl rfl) rfl ?_)
               | ((with_reducible refine gate_d (N := 57) rfl ?_); refine ag_fix (.int .i8 (nt a0 ((Int.tmod (wrap64 (a1)) 64).toNat) 0)) (ex_get sT22 gb1 ((Int.tmod (wrap64 (a1)) 64).toNat) (.int .i8 (nt a0 ((Int.tmod (wrap64 (a1)) 64).toNat) 0)) ((bv a0)) BKb1.out (av_get 0 (by have h_ : a0.length = 64 := (by first | rfl | (simp only [List.length_set, List.length_replicate, zL_len, List.length_cons, List.length_nil, LN_a0.out, LN_t10.out]; done) | (simp [zL_len, LN_a0.out, LN_t10.out]; done)); have h1_ := hc30.out; have h2_ := hc31.out; omega)) _ rfl rfl) rfl ?_)
               | ((with_reducible refine gate_d (N := 59) rfl ?_); refine ag_fix (.agg (bv t10)) (ex_load boardT gb13 0 (bv t10) (bv t10) BKb13.out (av_le (by first | rfl | (simp only [List.length_set, List.length_replicate, zL_len, List.length_cons, List.length_nil, LN_a0.out, LN_t10.out]; done) | (simp [zL_len, LN_a0.out, LN_t10.out]; done))) (av_ex (by first | rfl | (simp only [List.length_set, List.length_replicate, zL_len, List.length_cons, List.length_nil, LN_a0.out, LN_t10.out]; done) | (simp [zL_len, LN_a0.out, LN_t10.out]; done))) _ rfl rfl) rfl ?_)
               | ((with_reducible refine gate_d (N := 60) rfl ?_); refine ag_build (.agg (bv zL)) _ rfl rfl ?_ ?_; (intro ww_; kernel_rfl))
               | ((with_reducible refine gate_d (N := 61) rfl ?_); refine ag_fix (.bool true) (ex_eq .eql 24 (.agg (bv t10)) (.agg (bv zL)) (.bool true) (fun x_ y_ w_ => run_guard _ x_ y_ _ _ w_) (fun w_ => (eql_board t10 zL (by first | rfl | (simp only [List.length_set, List.length_replicate, zL_len, List.length_cons, List.length_nil, LN_a0.out, LN_t10.out]; done) | (simp [zL_len, LN_a0.out, LN_t10.out]; done)) (by first | rfl | (simp only [List.length_set, List.length_replicate, zL_len, List.length_cons, List.length_nil, LN_a0.out, LN_t10.out]; done) | (simp [zL_len, LN_a0.out, LN_t10.out]; done)) w_).trans (by first | (rw [decide_eq_true hc92.out]; done) | (rw [decide_eq_true hc92.out]; rfl))) _ _ _ rfl rfl rfl) rfl ?_))
              (try simp only [Act.put, List.setIfInBounds_toArray, List.set_cons_zero, List.set_cons_succ])
              go_ret
              exact ⟨by first | rfl | (simp; done) | (simp [*]; done), HL.out⟩
             ·
              rw [if_neg c93] at H
              have c93b0 : (t11 == (wrap64 ((s9.size : Int) - 1))) = false := beq_eq_false_iff_ne.mpr c93
              have c93b1 : (t11 != (wrap64 ((s9.size : Int) - 1))) = true := bne_iff_ne.mpr c93
              have hc93 := hid c93
              clear c93
              obtain rfl := Option.some.inj H
              clear H
              go_enter Try.func13, Try.ntmps13
              have k106 := True.intro
              have k108 := True.intro
              go_wp2_with (first
               | ((with_reducible refine gate_d (N := 3) rfl ?_); obtain ⟨gb1, hgb1⟩ : ∃ g_, w.heap.size = g_ := ⟨_, rfl⟩; refine ag_box (bv a0) gb1 hgb1 rfl _ rfl rfl ?_; intro w105 hb_ hB_ hs_; have GEb1 : Hid (w.heap.size ≤ gb1) := hid (by have := HL.out.size; omega); replace HL := hid (HL.out.trans (hb_.mono GEb1.out)); have BKb1 := hid hB_; clear hb_ hB_ hs_ hgb1)
               | (go_at_call 41; clear k106; refine (i_alfillaw05_wakes.calls k true _ A15.out).mono ?_; rintro e_ w107 ⟨rfl, hb_⟩; replace BKb1 := hid (BKb1.out.below hb_ BKb1.out.lt); replace HL := hid (HL.out.trans (hb_.mono HL.out.size)); clear hb_)
               | ((with_reducible refine gate_d (N := 18) rfl ?_); refine ag_fix (.agg (bv a0)) (ex_load boardT gb1 0 (bv a0) (bv a0) BKb1.out (av_le (by first | rfl | (simp only [List.length_set, List.length_replicate, zL_len, List.length_cons, List.length_nil, LN_a0.out]; done) | (simp [zL_len, LN_a0.out]; done))) (av_ex (by first | rfl | (simp only [List.length_set, List.length_replicate, zL_len, List.length_cons, List.length_nil, LN_a0.out]; done) | (simp [zL_len, LN_a0.out]; done))) _ rfl rfl) rfl ?_)
               | (go_at_call 42; clear k108; refine (i_roll_Write.calls k a0 (by first | rfl | (simp only [List.length_set, List.length_replicate, zL_len, List.length_cons, List.length_nil, LN_a0.out]; done) | (simp [zL_len, LN_a0.out]; done)) t3 t4 _ A17.out).mono ?_; rintro e_ w109 ⟨rfl, hb_⟩; replace BKb1 := hid (BKb1.out.below hb_ BKb1.out.lt); replace HL := hid (HL.out.trans (hb_.mono HL.out.size)); clear hb_))
              (try simp only [Act.put, List.setIfInBounds_toArray, List.set_cons_zero, List.set_cons_succ])
              have WR64 := i64_w
              have WR32 := i32_w
              have WR8 := u8_w
              have WRU := u32_w
              refine sq_region (fun w'_ => Below w.heap.size w w'_ ∧ Blk w'_ gb1 24 (bv a0) ∧ True) [17, 18] [(0, 2), (1, 2), (2, 2), (3, 2), (4, 2), (5, 2), (6, 2), (7, 2), (8, 2), (9, 2), (10, 2), (11, 2), (12, 2), (13, 2), (14, 2), (15, 2), (16, 2), (17, 0), (18, 0), (19, 2), (20, 2)] (by kernel_rfl) (by kernel_rfl) (by kernel_rfl) rfl ?_
              intro w110 hb_
              replace BKb1 := hid (BKb1.out.below hb_ BKb1.out.lt)
              replace HL := hid (HL.out.trans (hb_.mono HL.out.size))
              clear hb_
              refine sq_pure (.string t3) rfl (fun w'_ => ex_mv (.tmp 7) (.inl rfl) _ rfl) rfl rfl ?_
              intro ts_ ht_; simp only [List.setIfInBounds_toArray, List.set_cons_zero, List.set_cons_succ] at ht_; subst ht_
              refine sq_pure (.string s5) rfl (fun w'_ => (ex_cat 9 t3 (⟨#[32]⟩ : ByteArray) hc19.out _ _ _ rfl rfl rfl).trans (by rw [Option.some.inj A20.out])) rfl rfl ?_
              intro ts_ ht_; simp only [List.setIfInBounds_toArray, List.set_cons_zero, List.set_cons_succ] at ht_; subst ht_
              refine sq_pure (.int .u8 a2) rfl (fun w'_ => ex_mv (.tmp 2) (.inl rfl) _ rfl) rfl rfl ?_
              intro ts_ ht_; simp only [List.setIfInBounds_toArray, List.set_cons_zero, List.set_cons_succ] at ht_; subst ht_
              refine sq_pure (.int .u8 (Int.tmod a2 6)) rfl (fun w'_ => by go_simp) rfl rfl ?_
              intro ts_ ht_; simp only [List.setIfInBounds_toArray, List.set_cons_zero, List.set_cons_succ] at ht_; subst ht_
              refine sq_pure (.int .u8 a2) rfl (fun w'_ => ex_mv (.tmp 2) (.inl rfl) _ rfl) rfl rfl ?_
              intro ts_ ht_; simp only [List.setIfInBounds_toArray, List.set_cons_zero, List.set_cons_succ] at ht_; subst ht_
              refine sq_pure (.int .u8 (Int.tmod a2 6)) rfl (fun w'_ => by go_simp) rfl rfl ?_
              intro ts_ ht_; simp only [List.setIfInBounds_toArray, List.set_cons_zero, List.set_cons_succ] at ht_; subst ht_
              refine sq_pure (.int .u8 (((Int.tmod a2 6) + 1) % 256)) rfl (fun w'_ => by go_simp) rfl rfl ?_
              intro ts_ ht_; simp only [List.setIfInBounds_toArray, List.set_cons_zero, List.set_cons_succ] at ht_; subst ht_
              refine sq_pure (.string s6) rfl (fun w'_ => (ex_cut_lhK 9 und_txt (⟨#[80, 78, 66, 82, 81, 75]⟩ : ByteArray) (Int.tmod a2 6) (((Int.tmod a2 6) + 1) % 256) hc21.out hc22.out hc23.out _ _ _ rfl rfl rfl rfl).trans (by rw [Option.some.inj A24.out])) rfl rfl ?_
              intro ts_ ht_; simp only [List.setIfInBounds_toArray, List.set_cons_zero, List.set_cons_succ] at ht_; subst ht_
              refine sq_pure (.string s7) rfl (fun w'_ => (ex_cat 9 s5 s6 hc25.out _ _ _ rfl rfl rfl).trans (by rw [Option.some.inj A26.out])) rfl rfl ?_
              intro ts_ ht_; simp only [List.setIfInBounds_toArray, List.set_cons_zero, List.set_cons_succ] at ht_; subst ht_
              refine sq_pure (.int .i64 (Int.tmod (wrap64 (a1)) 64)) rfl (fun w'_ => ex_mv (.tmp 9) (.inl rfl) _ rfl) rfl rfl ?_
              intro ts_ ht_; simp only [List.setIfInBounds_toArray, List.set_cons_zero, List.set_cons_succ] at ht_; subst ht_
              refine sq_pure (.int .i64 (Int.tmod (wrap64 (a1)) 8)) rfl (fun w'_ => by go_simp) rfl rfl ?_
              intro ts_ ht_; simp only [List.setIfInBounds_toArray, List.set_cons_zero, List.set_cons_succ] at ht_; subst ht_
              refine sq_pure (.int .u8 ((Int.tmod (wrap64 (a1)) 8) % 256)) rfl (fun w'_ => by go_simp) rfl rfl ?_
              intro ts_ ht_; simp only [List.setIfInBounds_toArray, List.set_cons_zero, List.set_cons_succ] at ht_; subst ht_
              refine sq_pure (.int .u8 ((97 + (Int.tmod (wrap64 (a1)) 8)) % 256)) rfl (fun w'_ => by go_simp) rfl rfl ?_
              intro ts_ ht_; simp only [List.setIfInBounds_toArray, List.set_cons_zero, List.set_cons_succ] at ht_; subst ht_
              refine sq_pure (.int .i64 (Int.tmod (wrap64 (a1)) 64)) rfl (fun w'_ => ex_mv (.tmp 9) (.inl rfl) _ rfl) rfl rfl ?_
              intro ts_ ht_; simp only [List.setIfInBounds_toArray, List.set_cons_zero, List.set_cons_succ] at ht_; subst ht_
              refine sq_pure (.int .i64 (wrap64 (Int.tdiv (Int.tmod (wrap64 (a1)) 64) 8))) rfl (fun w'_ => by go_simp) rfl rfl ?_
              intro ts_ ht_; simp only [List.setIfInBounds_toArray, List.set_cons_zero, List.set_cons_succ] at ht_; subst ht_
              refine sq_pure (.int .u8 ((wrap64 (Int.tdiv (Int.tmod (wrap64 (a1)) 64) 8)) % 256)) rfl (fun w'_ => by go_simp) rfl rfl ?_
              intro ts_ ht_; simp only [List.setIfInBounds_toArray, List.set_cons_zero, List.set_cons_succ] at ht_; subst ht_
              refine sq_pure (.int .u8 ((49 + (wrap64 (Int.tdiv (Int.tmod (wrap64 (a1)) 64) 8))) % 256)) rfl (fun w'_ => by go_simp) rfl rfl ?_
              intro ts_ ht_; simp only [List.setIfInBounds_toArray, List.set_cons_zero, List.set_cons_succ] at ht_; subst ht_
              refine sq_act rfl (fun Q'_ hQ_ => ?_)
              (with_reducible refine gate_d (N := 46) rfl ?_)
              obtain ⟨go8, hgo8⟩ : ∃ g_, w110.heap.size = g_ := ⟨_, rfl⟩
              refine ag_litn (e := 5) 2 #[.int .u8 ((97 + (Int.tmod (wrap64 (a1)) 8)) % 256), .int .u8 ((49 + (wrap64 (Int.tdiv (Int.tmod (wrap64 (a1)) 64) 8))) % 256)] go8 hgo8 rfl _ rfl (fun w_ => by (try simp only [List.map_toArray, List.map_cons, List.map_nil]); kernel_rfl) ?_
              intro w111 hb_ hB_ hs_
              have GEo8 : Hid (w.heap.size ≤ go8) := hid (by have := HL.out.size; omega)
              have NBb1_o8 : Hid (gb1 ≠ go8) := hid (by have := BKb1.out.lt; omega)
              have NBo8_b1 : Hid (go8 ≠ gb1) := hid (by have := NBb1_o8.out; omega)
              replace BKb1 := hid (BKb1.out.below hb_ (by rw [← hgo8]; exact BKb1.out.lt))
              replace HL := hid (HL.out.trans (hb_.mono GEo8.out))
              have BKo8 := hid hB_
              clear hb_ hB_ hs_ hgo8
              obtain ⟨uo8, hu_⟩ : ∃ u_, u_ = (Value.slice (some ⟨go8, 0, none⟩) 2 2) := ⟨_, rfl⟩
              have SWo8 : Hid (Own w111 w.heap.size 5 (uo8) ([(97 + (Int.tmod (wrap64 (a1)) 8)) % 256, (49 + (wrap64 (Int.tdiv (Int.tmod (wrap64 (a1)) 64) 8))) % 256].map (Value.int .u8))) := hid (by rw [hu_]; exact Own.lit GEo8.out BKo8.out rfl (by simp [maxLen]))
              rw [← hu_]
              clear hu_ BKo8
              refine act_end ?_
              refine hQ_ _ _ (fun h_ => absurd h_ (by decide)) ?_
              clear hQ_ Q'_
              simp only [Act.put, List.setIfInBounds_toArray, List.set_cons_zero, List.set_cons_succ]
              refine sq_act rfl (fun Q'_ hQ_ => ?_)
              (with_reducible refine gate_d (N := 47) rfl ?_)
              refine ag_fix (.string (strOfNums [(97 + (Int.tmod (wrap64 (a1)) 8)) % 256, (49 + (wrap64 (Int.tdiv (Int.tmod (wrap64 (a1)) 64) 8))) % 256])) (ex_bstr SWo8.out (by simp) 57 9 5 us57 ub5 und_txt _ rfl rfl) rfl ?_
              refine act_end ?_
              refine hQ_ _ _ (fun h_ => absurd h_ (by decide)) ?_
              clear hQ_ Q'_
              simp only [Act.put, List.setIfInBounds_toArray, List.set_cons_zero, List.set_cons_succ]
              refine sq_pure (.string s9) rfl (fun w'_ => (ex_cat 9 s7 (strOfNums [(97 + (Int.tmod (wrap64 (a1)) 8)) % 256, (49 + (wrap64 (Int.tdiv (Int.tmod (wrap64 (a1)) 64) 8))) % 256]) hc27.out _ _ _ rfl rfl rfl).trans (by rw [Option.some.inj A28.out])) rfl rfl ?_
              intro ts_ ht_; simp only [List.setIfInBounds_toArray, List.set_cons_zero, List.set_cons_succ] at ht_; subst ht_
              refine sq_pure (.string s9) rfl (fun w'_ => ex_mv (.tmp 48) (.inr rfl) _ rfl) rfl rfl ?_
              intro ts_ ht_; simp only [List.setIfInBounds_toArray, List.set_cons_zero, List.set_cons_succ] at ht_; subst ht_
              refine sq_end ?_
              clear WR64 WR32 WR8 WRU
              have k112 := True.intro
              go_wp2_with (first
               | (go_at_call 44; clear k112; refine (i_roll_Read.calls k s9 t10 t11 t12 _ A29.out).mono ?_; rintro e_ w113 ⟨rfl, ln_t10, hb_⟩; have LN_t10 := hid ln_t10; clear ln_t10; replace BKb1 := hid (BKb1.out.below hb_ BKb1.out.lt); replace SWo8 := hid (SWo8.out.below hb_); replace HL := hid (HL.out.trans (hb_.mono HL.out.size)); clear hb_)
               | ((with_reducible refine gate_d (N := 11) rfl ?_); obtain ⟨gb13, hgb13⟩ : ∃ g_, w113.heap.size = g_ := ⟨_, rfl⟩; refine ag_alloc boardT gb13 hgb13 rfl rfl ?_; intro w114 hb_ hB_ hs_; have GEb13 : Hid (w.heap.size ≤ gb13) := hid (by have := HL.out.size; omega); have NBb1_b13 : Hid (gb1 ≠ gb13) := hid (by have := BKb1.out.lt; omega); have NBb13_b1 : Hid (gb13 ≠ gb1) := hid (by have := NBb1_b13.out; omega); replace BKb1 := hid (BKb1.out.below hb_ (by rw [← hgb13]; exact BKb1.out.lt)); replace SWo8 := hid (SWo8.out.below (by rw [hgb13]; exact hb_)); replace HL := hid (HL.out.trans (hb_.mono GEb13.out)); have BKb13 := hid hB_; clear hb_ hB_ hs_ hgb13)
               | ((with_reducible refine gate_s (t := 24) (p := 11) rfl ?_); refine ag_store boardT gb13 0 (bv zL) (bv t10) (bv t10) BKb13.out (by rw [show (bv t10) = av (Value.int .i8) t10 from rfl, av_size]; exact (by first | rfl | (simp only [List.length_set, List.length_replicate, zL_len, List.length_cons, List.length_nil, LN_a0.out, LN_t10.out]; done) | (simp [zL_len, LN_a0.out, LN_t10.out]; done))) (av_le (by first | rfl | (simp only [List.length_set, List.length_replicate, zL_len, List.length_cons, List.length_nil, LN_a0.out, LN_t10.out]; done) | (simp [zL_len, LN_a0.out, LN_t10.out]; done))) (av_one (fun _ => rfl)) (av_put (by first | rfl | (simp only [List.length_set, List.length_replicate, zL_len, List.length_cons, List.length_nil, LN_a0.out, LN_t10.out]; done) | (simp [zL_len, LN_a0.out, LN_t10.out]; done)) (by first | rfl | (simp only [List.length_set, List.length_replicate, zL_len, List.length_cons, List.length_nil, LN_a0.out, LN_t10.out]; done) | (simp [zL_len, LN_a0.out, LN_t10.out]; done))) rfl _ _ rfl rfl rfl ?_; intro w115 ho_ hB_; replace BKb1 := hid (BKb1.out.off ho_ NBb1_b13.out); replace SWo8 := hid (SWo8.out.off ho_ BKb13.out (by decide)); replace HL := hid (ho_.below HL.out GEb13.out); replace BKb13 := hid hB_; clear ho_ hB_)
               | ((with_reducible refine gate_d (N := 56) rfl ?_); refine ag_fix (.pointer (some ⟨gb1, (Int.tmod (wrap64 (a1)) 64).toNat, none⟩)) (ex_at 24 (.pointer (some ⟨gb1, 0, none⟩)) (.int .i64 (Int.tmod (wrap64 (a1)) 64)) (.pointer (some ⟨gb1, (Int.tmod (wrap64 (a1)) 64).toNat, none⟩)) (fun w_ => (run_atv 22 uT24 sT22.size gb1 0 (Int.tmod (wrap64 (a1)) 64) hc30.out hc31.out w_).trans (by simp)) _ _ rfl rfl rfl) rfl ?_)
               | ((with_reducible refine gate_d (N := 57) rfl ?_); refine ag_fix (.int .i8 (nt a0 ((Int.tmod (wrap64 (a1)) 64).toNat) 0)) (ex_get sT22 gb1 ((Int.tmod (wrap64 (a1)) 64).toNat) (.int .i8 (nt a0 ((Int.tmod (wrap64 (a1)) 64).toNat) 0)) ((bv a0)) BKb1.out (av_get 0 (by have h_ : a0.length = 64 := (by first | rfl | (simp only [List.length_set, List.length_replicate, zL_len, List.length_cons, List.length_nil, LN_a0.out, LN_t10.out]; done) | (simp [zL_len, LN_a0.out, LN_t10.out]; done)); have h1_ := hc30.out; have h2_ := hc31.out; omega)) _ rfl rfl) rfl ?_)
               | ((with_reducible refine gate_d (N := 59) rfl ?_); refine ag_fix (.agg (bv t10)) (ex_load boardT gb13 0 (bv t10) (bv t10) BKb13.out (av_le (by first | rfl | (simp only [List.length_set, List.length_replicate, zL_len, List.length_cons, List.length_nil, LN_a0.out, LN_t10.out]; done) | (simp [zL_len, LN_a0.out, LN_t10.out]; done))) (av_ex (by first | rfl | (simp only [List.length_set, List.length_replicate, zL_len, List.length_cons, List.length_nil, LN_a0.out, LN_t10.out]; done) | (simp [zL_len, LN_a0.out, LN_t10.out]; done))) _ rfl rfl) rfl ?_)
               | ((with_reducible refine gate_d (N := 60) rfl ?_); refine ag_build (.agg (bv zL)) _ rfl rfl ?_ ?_; (intro ww_; kernel_rfl))
               | ((with_reducible refine gate_d (N := 61) rfl ?_); refine ag_fix (.bool true) (ex_eq .eql 24 (.agg (bv t10)) (.agg (bv zL)) (.bool true) (fun x_ y_ w_ => run_guard _ x_ y_ _ _ w_) (fun w_ => (eql_board t10 zL (by first | rfl | (simp only [List.length_set, List.length_replicate, zL_len, List.length_cons, List.length_nil, LN_a0.out, LN_t10.out]; done) | (simp [zL_len, LN_a0.out, LN_t10.out]; done)) (by first | rfl | (simp only [List.length_set, List.length_replicate, zL_len, List.length_cons, List.length_nil, LN_a0.out, LN_t10.out]; done) | (simp [zL_len, LN_a0.out, LN_t10.out]; done)) w_).trans (by first | (rw [decide_eq_true hc92.out]; done) | (rw [decide_eq_true hc92.out]; rfl))) _ _ _ rfl rfl rfl) rfl ?_))
              (try simp only [Act.put, List.setIfInBounds_toArray, List.set_cons_zero, List.set_cons_succ])
              go_ret
              exact ⟨by first | rfl | (simp; done) | (simp [*]; done), HL.out⟩
            ·
             rw [if_neg c92] at H
             have c92b0 : (t10 == zL) = false := beq_eq_false_iff_ne.mpr c92
             have c92b1 : (t10 != zL) = true := bne_iff_ne.mpr c92
             have hc92 := hid c92
             clear c92
             obtain rfl := Option.some.inj H
             clear H
             go_enter Try.func13, Try.ntmps13
             have k117 := True.intro
             have k119 := True.intro
             go_wp2_with (first
              | ((with_reducible refine gate_d (N := 3) rfl ?_); obtain ⟨gb1, hgb1⟩ : ∃ g_, w.heap.size = g_ := ⟨_, rfl⟩; refine ag_box (bv a0) gb1 hgb1 rfl _ rfl rfl ?_; intro w116 hb_ hB_ hs_; have GEb1 : Hid (w.heap.size ≤ gb1) := hid (by have := HL.out.size; omega); replace HL := hid (HL.out.trans (hb_.mono GEb1.out)); have BKb1 := hid hB_; clear hb_ hB_ hs_ hgb1)
              | (go_at_call 41; clear k117; refine (i_alfillaw05_wakes.calls k true _ A15.out).mono ?_; rintro e_ w118 ⟨rfl, hb_⟩; replace BKb1 := hid (BKb1.out.below hb_ BKb1.out.lt); replace HL := hid (HL.out.trans (hb_.mono HL.out.size)); clear hb_)
              | ((with_reducible refine gate_d (N := 18) rfl ?_); refine ag_fix (.agg (bv a0)) (ex_load boardT gb1 0 (bv a0) (bv a0) BKb1.out (av_le (by first | rfl | (simp only [List.length_set, List.length_replicate, zL_len, List.length_cons, List.length_nil, LN_a0.out]; done) | (simp [zL_len, LN_a0.out]; done))) (av_ex (by first | rfl | (simp only [List.length_set, List.length_replicate, zL_len, List.length_cons, List.length_nil, LN_a0.out]; done) | (simp [zL_len, LN_a0.out]; done))) _ rfl rfl) rfl ?_)
              | (go_at_call 42; clear k119; refine (i_roll_Write.calls k a0 (by first | rfl | (simp only [List.length_set, List.length_replicate, zL_len, List.length_cons, List.length_nil, LN_a0.out]; done) | (simp [zL_len, LN_a0.out]; done)) t3 t4 _ A17.out).mono ?_; rintro e_ w120 ⟨rfl, hb_⟩; replace BKb1 := hid (BKb1.out.below hb_ BKb1.out.lt); replace HL := hid (HL.out.trans (hb_.mono HL.out.size)); clear hb_))
             (try simp only [Act.put, List.setIfInBounds_toArray, List.set_cons_zero, List.set_cons_succ])
             have WR64 := i64_w
             have WR32 := i32_w
             have WR8 := u8_w
             have WRU := u32_w
             refine sq_region (fun w'_ => Below w.heap.size w w'_ ∧ Blk w'_ gb1 24 (bv a0) ∧ True) [17, 18] [(0, 2), (1, 2), (2, 2), (3, 2), (4, 2), (5, 2), (6, 2), (7, 2), (8, 2), (9, 2), (10, 2), (11, 2), (12, 2), (13, 2), (14, 2), (15, 2), (16, 2), (17, 0), (18, 0), (19, 2), (20, 2)] (by kernel_rfl) (by kernel_rfl) (by kernel_rfl) rfl ?_
             intro w121 hb_
             replace BKb1 := hid (BKb1.out.below hb_ BKb1.out.lt)
             replace HL := hid (HL.out.trans (hb_.mono HL.out.size))
             clear hb_
             refine sq_pure (.string t3) rfl (fun w'_ => ex_mv (.tmp 7) (.inl rfl) _ rfl) rfl rfl ?_
             intro ts_ ht_; simp only [List.setIfInBounds_toArray, List.set_cons_zero, List.set_cons_succ] at ht_; subst ht_
             refine sq_pure (.string s5) rfl (fun w'_ => (ex_cat 9 t3 (⟨#[32]⟩ : ByteArray) hc19.out _ _ _ rfl rfl rfl).trans (by rw [Option.some.inj A20.out])) rfl rfl ?_
             intro ts_ ht_; simp only [List.setIfInBounds_toArray, List.set_cons_zero, List.set_cons_succ] at ht_; subst ht_
             refine sq_pure (.int .u8 a2) rfl (fun w'_ => ex_mv (.tmp 2) (.inl rfl) _ rfl) rfl rfl ?_
             intro ts_ ht_; simp only [List.setIfInBounds_toArray, List.set_cons_zero, List.set_cons_succ] at ht_; subst ht_
             refine sq_pure (.int .u8 (Int.tmod a2 6)) rfl (fun w'_ => by go_simp) rfl rfl ?_
             intro ts_ ht_; simp only [List.setIfInBounds_toArray, List.set_cons_zero, List.set_cons_succ] at ht_; subst ht_
             refine sq_pure (.int .u8 a2) rfl (fun w'_ => ex_mv (.tmp 2) (.inl rfl) _ rfl) rfl rfl ?_
             intro ts_ ht_; simp only [List.setIfInBounds_toArray, List.set_cons_zero, List.set_cons_succ] at ht_; subst ht_
             refine sq_pure (.int .u8 (Int.tmod a2 6)) rfl (fun w'_ => by go_simp) rfl rfl ?_
             intro ts_ ht_; simp only [List.setIfInBounds_toArray, List.set_cons_zero, List.set_cons_succ] at ht_; subst ht_
             refine sq_pure (.int .u8 (((Int.tmod a2 6) + 1) % 256)) rfl (fun w'_ => by go_simp) rfl rfl ?_
             intro ts_ ht_; simp only [List.setIfInBounds_toArray, List.set_cons_zero, List.set_cons_succ] at ht_; subst ht_
             refine sq_pure (.string s6) rfl (fun w'_ => (ex_cut_lhK 9 und_txt (⟨#[80, 78, 66, 82, 81, 75]⟩ : ByteArray) (Int.tmod a2 6) (((Int.tmod a2 6) + 1) % 256) hc21.out hc22.out hc23.out _ _ _ rfl rfl rfl rfl).trans (by rw [Option.some.inj A24.out])) rfl rfl ?_
             intro ts_ ht_; simp only [List.setIfInBounds_toArray, List.set_cons_zero, List.set_cons_succ] at ht_; subst ht_
             refine sq_pure (.string s7) rfl (fun w'_ => (ex_cat 9 s5 s6 hc25.out _ _ _ rfl rfl rfl).trans (by rw [Option.some.inj A26.out])) rfl rfl ?_
             intro ts_ ht_; simp only [List.setIfInBounds_toArray, List.set_cons_zero, List.set_cons_succ] at ht_; subst ht_
             refine sq_pure (.int .i64 (Int.tmod (wrap64 (a1)) 64)) rfl (fun w'_ => ex_mv (.tmp 9) (.inl rfl) _ rfl) rfl rfl ?_
             intro ts_ ht_; simp only [List.setIfInBounds_toArray, List.set_cons_zero, List.set_cons_succ] at ht_; subst ht_
             refine sq_pure (.int .i64 (Int.tmod (wrap64 (a1)) 8)) rfl (fun w'_ => by go_simp) rfl rfl ?_
             intro ts_ ht_; simp only [List.setIfInBounds_toArray, List.set_cons_zero, List.set_cons_succ] at ht_; subst ht_
             refine sq_pure (.int .u8 ((Int.tmod (wrap64 (a1)) 8) % 256)) rfl (fun w'_ => by go_simp) rfl rfl ?_
             intro ts_ ht_; simp only [List.setIfInBounds_toArray, List.set_cons_zero, List.set_cons_succ] at ht_; subst ht_
             refine sq_pure (.int .u8 ((97 + (Int.tmod (wrap64 (a1)) 8)) % 256)) rfl (fun w'_ => by go_simp) rfl rfl ?_
             intro ts_ ht_; simp only [List.setIfInBounds_toArray, List.set_cons_zero, List.set_cons_succ] at ht_; subst ht_
             refine sq_pure (.int .i64 (Int.tmod (wrap64 (a1)) 64)) rfl (fun w'_ => ex_mv (.tmp 9) (.inl rfl) _ rfl) rfl rfl ?_
             intro ts_ ht_; simp only [List.setIfInBounds_toArray, List.set_cons_zero, List.set_cons_succ] at ht_; subst ht_
             refine sq_pure (.int .i64 (wrap64 (Int.tdiv (Int.tmod (wrap64 (a1)) 64) 8))) rfl (fun w'_ => by go_simp) rfl rfl ?_
             intro ts_ ht_; simp only [List.setIfInBounds_toArray, List.set_cons_zero, List.set_cons_succ] at ht_; subst ht_
             refine sq_pure (.int .u8 ((wrap64 (Int.tdiv (Int.tmod (wrap64 (a1)) 64) 8)) % 256)) rfl (fun w'_ => by go_simp) rfl rfl ?_
             intro ts_ ht_; simp only [List.setIfInBounds_toArray, List.set_cons_zero, List.set_cons_succ] at ht_; subst ht_
             refine sq_pure (.int .u8 ((49 + (wrap64 (Int.tdiv (Int.tmod (wrap64 (a1)) 64) 8))) % 256)) rfl (fun w'_ => by go_simp) rfl rfl ?_
             intro ts_ ht_; simp only [List.setIfInBounds_toArray, List.set_cons_zero, List.set_cons_succ] at ht_; subst ht_
             refine sq_act rfl (fun Q'_ hQ_ => ?_)
             (with_reducible refine gate_d (N := 46) rfl ?_)
             obtain ⟨go8, hgo8⟩ : ∃ g_, w121.heap.size = g_ := ⟨_, rfl⟩
             refine ag_litn (e := 5) 2 #[.int .u8 ((97 + (Int.tmod (wrap64 (a1)) 8)) % 256), .int .u8 ((49 + (wrap64 (Int.tdiv (Int.tmod (wrap64 (a1)) 64) 8))) % 256)] go8 hgo8 rfl _ rfl (fun w_ => by (try simp only [List.map_toArray, List.map_cons, List.map_nil]); kernel_rfl) ?_
             intro w122 hb_ hB_ hs_
             have GEo8 : Hid (w.heap.size ≤ go8) := hid (by have := HL.out.size; omega)
             have NBb1_o8 : Hid (gb1 ≠ go8) := hid (by have := BKb1.out.lt; omega)
             have NBo8_b1 : Hid (go8 ≠ gb1) := hid (by have := NBb1_o8.out; omega)
             replace BKb1 := hid (BKb1.out.below hb_ (by rw [← hgo8]; exact BKb1.out.lt))
             replace HL := hid (HL.out.trans (hb_.mono GEo8.out))
             have BKo8 := hid hB_
             clear hb_ hB_ hs_ hgo8
             obtain ⟨uo8, hu_⟩ : ∃ u_, u_ = (Value.slice (some ⟨go8, 0, none⟩) 2 2) := ⟨_, rfl⟩
             have SWo8 : Hid (Own w122 w.heap.size 5 (uo8) ([(97 + (Int.tmod (wrap64 (a1)) 8)) % 256, (49 + (wrap64 (Int.tdiv (Int.tmod (wrap64 (a1)) 64) 8))) % 256].map (Value.int .u8))) := hid (by rw [hu_]; exact Own.lit GEo8.out BKo8.out rfl (by simp [maxLen]))
             rw [← hu_]
             clear hu_ BKo8
             refine act_end ?_
             refine hQ_ _ _ (fun h_ => absurd h_ (by decide)) ?_
             clear hQ_ Q'_
             simp only [Act.put, List.setIfInBounds_toArray, List.set_cons_zero, List.set_cons_succ]
             refine sq_act rfl (fun Q'_ hQ_ => ?_)
             (with_reducible refine gate_d (N := 47) rfl ?_)
             refine ag_fix (.string (strOfNums [(97 + (Int.tmod (wrap64 (a1)) 8)) % 256, (49 + (wrap64 (Int.tdiv (Int.tmod (wrap64 (a1)) 64) 8))) % 256])) (ex_bstr SWo8.out (by simp) 57 9 5 us57 ub5 und_txt _ rfl rfl) rfl ?_
             refine act_end ?_
             refine hQ_ _ _ (fun h_ => absurd h_ (by decide)) ?_
             clear hQ_ Q'_
             simp only [Act.put, List.setIfInBounds_toArray, List.set_cons_zero, List.set_cons_succ]
             refine sq_pure (.string s9) rfl (fun w'_ => (ex_cat 9 s7 (strOfNums [(97 + (Int.tmod (wrap64 (a1)) 8)) % 256, (49 + (wrap64 (Int.tdiv (Int.tmod (wrap64 (a1)) 64) 8))) % 256]) hc27.out _ _ _ rfl rfl rfl).trans (by rw [Option.some.inj A28.out])) rfl rfl ?_
             intro ts_ ht_; simp only [List.setIfInBounds_toArray, List.set_cons_zero, List.set_cons_succ] at ht_; subst ht_
             refine sq_pure (.string s9) rfl (fun w'_ => ex_mv (.tmp 48) (.inr rfl) _ rfl) rfl rfl ?_
             intro ts_ ht_; simp only [List.setIfInBounds_toArray, List.set_cons_zero, List.set_cons_succ] at ht_; subst ht_
             refine sq_end ?_
             clear WR64 WR32 WR8 WRU
             have k123 := True.intro
             go_wp2_with (first
              | (go_at_call 44; clear k123; refine (i_roll_Read.calls k s9 t10 t11 t12 _ A29.out).mono ?_; rintro e_ w124 ⟨rfl, ln_t10, hb_⟩; have LN_t10 := hid ln_t10; clear ln_t10; replace BKb1 := hid (BKb1.out.below hb_ BKb1.out.lt); replace SWo8 := hid (SWo8.out.below hb_); replace HL := hid (HL.out.trans (hb_.mono HL.out.size)); clear hb_)
              | ((with_reducible refine gate_d (N := 11) rfl ?_); obtain ⟨gb13, hgb13⟩ : ∃ g_, w124.heap.size = g_ := ⟨_, rfl⟩; refine ag_alloc boardT gb13 hgb13 rfl rfl ?_; intro w125 hb_ hB_ hs_; have GEb13 : Hid (w.heap.size ≤ gb13) := hid (by have := HL.out.size; omega); have NBb1_b13 : Hid (gb1 ≠ gb13) := hid (by have := BKb1.out.lt; omega); have NBb13_b1 : Hid (gb13 ≠ gb1) := hid (by have := NBb1_b13.out; omega); replace BKb1 := hid (BKb1.out.below hb_ (by rw [← hgb13]; exact BKb1.out.lt)); replace SWo8 := hid (SWo8.out.below (by rw [hgb13]; exact hb_)); replace HL := hid (HL.out.trans (hb_.mono GEb13.out)); have BKb13 := hid hB_; clear hb_ hB_ hs_ hgb13)
              | ((with_reducible refine gate_s (t := 24) (p := 11) rfl ?_); refine ag_store boardT gb13 0 (bv zL) (bv t10) (bv t10) BKb13.out (by rw [show (bv t10) = av (Value.int .i8) t10 from rfl, av_size]; exact (by first | rfl | (simp only [List.length_set, List.length_replicate, zL_len, List.length_cons, List.length_nil, LN_a0.out, LN_t10.out]; done) | (simp [zL_len, LN_a0.out, LN_t10.out]; done))) (av_le (by first | rfl | (simp only [List.length_set, List.length_replicate, zL_len, List.length_cons, List.length_nil, LN_a0.out, LN_t10.out]; done) | (simp [zL_len, LN_a0.out, LN_t10.out]; done))) (av_one (fun _ => rfl)) (av_put (by first | rfl | (simp only [List.length_set, List.length_replicate, zL_len, List.length_cons, List.length_nil, LN_a0.out, LN_t10.out]; done) | (simp [zL_len, LN_a0.out, LN_t10.out]; done)) (by first | rfl | (simp only [List.length_set, List.length_replicate, zL_len, List.length_cons, List.length_nil, LN_a0.out, LN_t10.out]; done) | (simp [zL_len, LN_a0.out, LN_t10.out]; done))) rfl _ _ rfl rfl rfl ?_; intro w126 ho_ hB_; replace BKb1 := hid (BKb1.out.off ho_ NBb1_b13.out); replace SWo8 := hid (SWo8.out.off ho_ BKb13.out (by decide)); replace HL := hid (ho_.below HL.out GEb13.out); replace BKb13 := hid hB_; clear ho_ hB_)
              | ((with_reducible refine gate_d (N := 56) rfl ?_); refine ag_fix (.pointer (some ⟨gb1, (Int.tmod (wrap64 (a1)) 64).toNat, none⟩)) (ex_at 24 (.pointer (some ⟨gb1, 0, none⟩)) (.int .i64 (Int.tmod (wrap64 (a1)) 64)) (.pointer (some ⟨gb1, (Int.tmod (wrap64 (a1)) 64).toNat, none⟩)) (fun w_ => (run_atv 22 uT24 sT22.size gb1 0 (Int.tmod (wrap64 (a1)) 64) hc30.out hc31.out w_).trans (by simp)) _ _ rfl rfl rfl) rfl ?_)
              | ((with_reducible refine gate_d (N := 57) rfl ?_); refine ag_fix (.int .i8 (nt a0 ((Int.tmod (wrap64 (a1)) 64).toNat) 0)) (ex_get sT22 gb1 ((Int.tmod (wrap64 (a1)) 64).toNat) (.int .i8 (nt a0 ((Int.tmod (wrap64 (a1)) 64).toNat) 0)) ((bv a0)) BKb1.out (av_get 0 (by have h_ : a0.length = 64 := (by first | rfl | (simp only [List.length_set, List.length_replicate, zL_len, List.length_cons, List.length_nil, LN_a0.out, LN_t10.out]; done) | (simp [zL_len, LN_a0.out, LN_t10.out]; done)); have h1_ := hc30.out; have h2_ := hc31.out; omega)) _ rfl rfl) rfl ?_)
              | ((with_reducible refine gate_d (N := 59) rfl ?_); refine ag_fix (.agg (bv t10)) (ex_load boardT gb13 0 (bv t10) (bv t10) BKb13.out (av_le (by first | rfl | (simp only [List.length_set, List.length_replicate, zL_len, List.length_cons, List.length_nil, LN_a0.out, LN_t10.out]; done) | (simp [zL_len, LN_a0.out, LN_t10.out]; done))) (av_ex (by first | rfl | (simp only [List.length_set, List.length_replicate, zL_len, List.length_cons, List.length_nil, LN_a0.out, LN_t10.out]; done) | (simp [zL_len, LN_a0.out, LN_t10.out]; done))) _ rfl rfl) rfl ?_)
              | ((with_reducible refine gate_d (N := 60) rfl ?_); refine ag_build (.agg (bv zL)) _ rfl rfl ?_ ?_; (intro ww_; kernel_rfl))
              | ((with_reducible refine gate_d (N := 61) rfl ?_); refine ag_fix (.bool false) (ex_eq .eql 24 (.agg (bv t10)) (.agg (bv zL)) (.bool false) (fun x_ y_ w_ => run_guard _ x_ y_ _ _ w_) (fun w_ => (eql_board t10 zL (by first | rfl | (simp only [List.length_set, List.length_replicate, zL_len, List.length_cons, List.length_nil, LN_a0.out, LN_t10.out]; done) | (simp [zL_len, LN_a0.out, LN_t10.out]; done)) (by first | rfl | (simp only [List.length_set, List.length_replicate, zL_len, List.length_cons, List.length_nil, LN_a0.out, LN_t10.out]; done) | (simp [zL_len, LN_a0.out, LN_t10.out]; done)) w_).trans (by first | (rw [decide_eq_false hc92.out]; done) | (rw [decide_eq_false hc92.out]; rfl))) _ _ _ rfl rfl rfl) rfl ?_))
             (try simp only [Act.put, List.setIfInBounds_toArray, List.set_cons_zero, List.set_cons_succ])
             go_ret
             exact ⟨by first | rfl | (simp; done) | (simp [*]; done), HL.out⟩
          ·
           rw [if_neg c31] at H
           exact absurd H (by simp)
         ·
          rw [if_neg c30] at H
          exact absurd H (by simp)
        ·
         rw [if_neg c27] at H
         exact absurd H (by simp)
       ·
        rw [if_neg c25] at H
        exact absurd H (by simp)
      ·
       rw [if_neg c23] at H
       exact absurd H (by simp)
     ·
      rw [if_neg c22] at H
      exact absurd H (by simp)
    ·
     rw [if_neg c21] at H
     exact absurd H (by simp)
   ·
    rw [if_neg c19] at H
    exact absurd H (by simp)
  ·
   rw [if_neg c18] at H
   have c18b0 : (t4 == 0) = false := beq_eq_false_iff_ne.mpr c18
   have c18b1 : (t4 != 0) = true := bne_iff_ne.mpr c18
   have hc18 := hid c18
   clear c18
   obtain rfl := Option.some.inj H
   clear H
   go_enter Try.func13, Try.ntmps13
   have k128 := True.intro
   have k130 := True.intro
   go_wp2_with (first
    | ((with_reducible refine gate_d (N := 3) rfl ?_); obtain ⟨gb1, hgb1⟩ : ∃ g_, w.heap.size = g_ := ⟨_, rfl⟩; refine ag_box (bv a0) gb1 hgb1 rfl _ rfl rfl ?_; intro w127 hb_ hB_ hs_; have GEb1 : Hid (w.heap.size ≤ gb1) := hid (by have := HL.out.size; omega); replace HL := hid (HL.out.trans (hb_.mono GEb1.out)); have BKb1 := hid hB_; clear hb_ hB_ hs_ hgb1)
    | (go_at_call 41; clear k128; refine (i_alfillaw05_wakes.calls k true _ A15.out).mono ?_; rintro e_ w129 ⟨rfl, hb_⟩; replace BKb1 := hid (BKb1.out.below hb_ BKb1.out.lt); replace HL := hid (HL.out.trans (hb_.mono HL.out.size)); clear hb_)
    | ((with_reducible refine gate_d (N := 18) rfl ?_); refine ag_fix (.agg (bv a0)) (ex_load boardT gb1 0 (bv a0) (bv a0) BKb1.out (av_le (by first | rfl | (simp only [List.length_set, List.length_replicate, zL_len, List.length_cons, List.length_nil, LN_a0.out]; done) | (simp [zL_len, LN_a0.out]; done))) (av_ex (by first | rfl | (simp only [List.length_set, List.length_replicate, zL_len, List.length_cons, List.length_nil, LN_a0.out]; done) | (simp [zL_len, LN_a0.out]; done))) _ rfl rfl) rfl ?_)
    | (go_at_call 42; clear k130; refine (i_roll_Write.calls k a0 (by first | rfl | (simp only [List.length_set, List.length_replicate, zL_len, List.length_cons, List.length_nil, LN_a0.out]; done) | (simp [zL_len, LN_a0.out]; done)) t3 t4 _ A17.out).mono ?_; rintro e_ w131 ⟨rfl, hb_⟩; replace BKb1 := hid (BKb1.out.below hb_ BKb1.out.lt); replace HL := hid (HL.out.trans (hb_.mono HL.out.size)); clear hb_))
   (try simp only [Act.put, List.setIfInBounds_toArray, List.set_cons_zero, List.set_cons_succ])
   go_ret
   exact ⟨by first | rfl | (simp; done) | (simp [*]; done), HL.out⟩
 | false =>
  rw [if_neg (show ¬ (false = true) by decide)] at H
  obtain rfl := Option.some.inj H
  clear H
  go_enter Try.func13, Try.ntmps13
  have k133 := True.intro
  go_wp2_with (first
   | ((with_reducible refine gate_d (N := 3) rfl ?_); obtain ⟨gb1, hgb1⟩ : ∃ g_, w.heap.size = g_ := ⟨_, rfl⟩; refine ag_box (bv a0) gb1 hgb1 rfl _ rfl rfl ?_; intro w132 hb_ hB_ hs_; have GEb1 : Hid (w.heap.size ≤ gb1) := hid (by have := HL.out.size; omega); replace HL := hid (HL.out.trans (hb_.mono GEb1.out)); have BKb1 := hid hB_; clear hb_ hB_ hs_ hgb1)
   | (go_at_call 41; clear k133; refine (i_alfillaw05_wakes.calls k false _ A15.out).mono ?_; rintro e_ w134 ⟨rfl, hb_⟩; replace BKb1 := hid (BKb1.out.below hb_ BKb1.out.lt); replace HL := hid (HL.out.trans (hb_.mono HL.out.size)); clear hb_))
  (try simp only [Act.put, List.setIfInBounds_toArray, List.set_cons_zero, List.set_cons_succ])
  go_ret
  exact ⟨by first | rfl | (simp; done) | (simp [*]; done), HL.out⟩
end Go.Proofs.Ytpgdcpkggmkooaa
