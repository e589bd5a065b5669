import Derived.Test.YtaipghemddjecaaGreatDoorMiy
import Derived.Test.YtaipghemddjecaaGreatDoorProg
import Derived.Test.YtaipghemddjecaaGreatDoorFwy
import Derived.Test.YtaipghemddjecaaGreatDoorRgy
namespace Go.Proofs.YtaipghemddjecaaGreatDoor
set_option maxHeartbeats 40000000
set_option maxRecDepth 100000
open Go.RowKit
set_option linter.unusedVariables false
set_option linter.unusedSimpArgs false
theorem Zm(g:Nat)(w:World):(Instr.fieldAt 108 (Pg g 0) 3).run Tryz.prog w=.ok (Pg g 66) w:=by kernel_rfl
theorem Ju(g:Nat)(w:World):(Instr.fieldAt 108 (Pg g 0) 1).run Tryz.prog w=.ok (Pg g 64) w:=by kernel_rfl
theorem XC:ScT Tryz.prog 106:=⟨fun w=>by kernel_rfl,fun w=>by kernel_rfl⟩
theorem ZN(g:Nat)(w:World):(Instr.fieldAt 108 (Pg g 0) 2).run Tryz.prog w=.ok (Pg g 65) w:=by kernel_rfl
theorem Kj(g:Nat)(w:World):(Instr.fieldAt 108 (Pg g 0) 4).run Tryz.prog w=.ok (Pg g 67) w:=by kernel_rfl
theorem Vc(g:Nat)(w:World):(Instr.fieldAt 108 (Pg g 0) 5).run Tryz.prog w=.ok (Pg g 68) w:=by kernel_rfl
theorem VO(g:Nat)(w:World):(Instr.fieldAt 108 (Pg g 0) 0).run Tryz.prog w=.ok (Pg g 0) w:=by kernel_rfl
def JW.f(a0 a1:Int):Option (Int):=if a0<1 then (some 0) else (if a0>6 then (some 0) else (if a1=0 then (some a0) else (if a1=1 then (some (wrap64 (-a0))) else (some 0))))
theorem JW.c(a0 a1 r1:Int)(w:World)(h:JW.f a0 a1=some r1):
 Calls Tryz.prog 122 #[Ii a0,Ii a1] w fun e w'=>e=.returned (Ii r1)∧w=w':=by
 have H:(if a0<1 then (some 0) else (if a0>6 then (some 0) else (if a1=0 then (some a0) else (if a1=1 then (some (wrap64 (-a0))) else (some 0)))))=some r1:=h
 clear h
 by_cases c1:a0<1
 ·
  rw [if_pos c1] at H
  have c1b0:decide (a0<1)=true:=decide_eq_true c1
  have hc1:=hid c1
  clear c1
  obtain rfl:=Option.some.inj H
  clear H
  go_enter Tryz.func122,Tryz.ntmps122
  go_wp2_with fail
  (try simp only [Act.put,sI,sZ,sS])
  go_ret
  exact ⟨by first|rfl|(simp;done)|(simp [*];done),rfl⟩
 ·
  rw [if_neg c1] at H
  have c1b0:decide (a0<1)=false:=decide_eq_false c1
  have hc1:=hid c1
  clear c1
  by_cases c2:a0>6
  ·
   rw [if_pos c2] at H
   have c2b0:decide (6<a0)=true:=decide_eq_true c2
   have hc2:=hid c2
   clear c2
   obtain rfl:=Option.some.inj H
   clear H
   go_enter Tryz.func122,Tryz.ntmps122
   go_wp2_with fail
   (try simp only [Act.put,sI,sZ,sS])
   go_ret
   exact ⟨by first|rfl|(simp;done)|(simp [*];done),rfl⟩
  ·
   rw [if_neg c2] at H
   have c2b0:decide (6<a0)=false:=decide_eq_false c2
   have hc2:=hid c2
   clear c2
   by_cases c3:a1=0
   ·
    rw [if_pos c3] at H
    have c3b0:(a1==0)=true:=beq_iff_eq.mpr c3
    have c3b1:(a1 != 0)=false:=bne_eq_false_iff_eq.mpr c3
    have hc3:=hid c3
    clear c3
    obtain rfl:=Option.some.inj H
    clear H
    go_enter Tryz.func122,Tryz.ntmps122
    go_wp2_with fail
    (try simp only [Act.put,sI,sZ,sS])
    go_ret
    exact ⟨by first|rfl|(simp;done)|(simp [*];done),rfl⟩
   ·
    rw [if_neg c3] at H
    have c3b0:(a1==0)=false:=beq_eq_false_iff_ne.mpr c3
    have c3b1:(a1 != 0)=true:=bne_iff_ne.mpr c3
    have hc3:=hid c3
    clear c3
    by_cases c4:a1=1
    ·
     rw [if_pos c4] at H
     have c4b0:(a1==1)=true:=beq_iff_eq.mpr c4
     have c4b1:(a1 != 1)=false:=bne_eq_false_iff_eq.mpr c4
     have hc4:=hid c4
     clear c4
     obtain rfl:=Option.some.inj H
     clear H
     go_enter Tryz.func122,Tryz.ntmps122
     go_wp2_with fail
     (try simp only [Act.put,sI,sZ,sS])
     go_ret
     exact ⟨by first|rfl|(simp;done)|(simp [*];done),rfl⟩
    ·
     rw [if_neg c4] at H
     have c4b0:(a1==1)=false:=beq_eq_false_iff_ne.mpr c4
     have c4b1:(a1 != 1)=true:=bne_iff_ne.mpr c4
     have hc4:=hid c4
     clear c4
     obtain rfl:=Option.some.inj H
     clear H
     go_enter Tryz.func122,Tryz.ntmps122
     go_wp2_with fail
     (try simp only [Act.put,sI,sZ,sS])
     go_ret
     exact ⟨by first|rfl|(simp;done)|(simp [*];done),rfl⟩
def Xc.f(s0:List Int)(s1 s2:Int)(s3:ByteArray)(s4:Int)(s5:ByteArray)(a1:Int):Option (Bool×(List Int)×Int×Int×ByteArray×Int×ByteArray):=if 1≤(s3.size:Int) then (if (Utf8.encode a1).toList=(s3.extract 0 1).toList then (if (s3.extract 1 s3.size).toList=([]:List UInt8) then (some (true,s0,91,s2,s3.extract 1 s3.size,s4,s5)) else (some (true,s0,s1,s2,s3.extract 1 s3.size,s4,s5))) else (some (false,s0,s1,s2,s3,s4,s5))) else (none)
theorem Xc.c(s0:List Int)(s1 s2:Int)(s3:ByteArray)(s4:Int)(s5:ByteArray)(a1:Int)(hls0:s0.length=64)(r1:Bool)(q0:List Int)(q1 q2:Int)(q3:ByteArray)(q4:Int)(q5:ByteArray)(g:Nat)(w:World)(hB:Blk w g 108 (xv (Value.int .i8) s0 [(fnv s1),Ii s2,.string s3,Ii s4,.string s5]))(h:Xc.f s0 s1 s2 s3 s4 s5 a1=some (r1,q0,q1,q2,q3,q4,q5)):
 Calls Tryz.prog 72 #[Pg g 0,.int .i32 a1] w fun e w'=>e=.returned (.bool r1)∧q0.length=64∧Blk w' g 108 (xv (Value.int .i8) q0 [(fnv q1),Ii q2,.string q3,Ii q4,.string q5])∧Bex g w.heap.size w w':=by
 have LN_s0:=hid hls0
 clear hls0
 have BKr:=hid hB
 clear hB
 have HL:=hid (Bex.refl g w.heap.size w)
 have H:(if 1≤(s3.size:Int) then (if (Utf8.encode a1).toList=(s3.extract 0 1).toList then (if (s3.extract 1 s3.size).toList=([]:List UInt8) then (some (true,s0,91,s2,s3.extract 1 s3.size,s4,s5)) else (some (true,s0,s1,s2,s3.extract 1 s3.size,s4,s5))) else (some (false,s0,s1,s2,s3,s4,s5))) else (none))=some (r1,q0,q1,q2,q3,q4,q5):=h
 clear h
 by_cases c1:1≤(s3.size:Int)
 ·
  rw [if_pos c1] at H
  have c1b0:decide (1≤(s3.size:Int))=true:=decide_eq_true c1
  have c1b1:decide (1≤s3.size)=true:=decide_eq_true (by omega)
  have hc1:=hid c1
  clear c1
  by_cases c2:(Utf8.encode a1).toList=(s3.extract 0 1).toList
  ·
   rw [if_pos c2] at H
   have c2b0:((Utf8.encode a1).toList==(s3.extract 0 1).toList)=true:=beq_iff_eq.mpr c2
   have c2b1:((Utf8.encode a1).toList != (s3.extract 0 1).toList)=false:=bne_eq_false_iff_eq.mpr c2
   have hc2:=hid c2
   clear c2
   by_cases c3:(s3.extract 1 s3.size).toList=([]:List UInt8)
   ·
    rw [if_pos c3] at H
    have c3b0:((s3.extract 1 s3.size).toList==([]:List UInt8))=true:=beq_iff_eq.mpr c3
    have c3b1:((s3.extract 1 s3.size).toList != ([]:List UInt8))=false:=bne_eq_false_iff_eq.mpr c3
    have hc3:=hid c3
    clear c3
    simp only [Option.some.injEq,Prod.mk.injEq] at H
    obtain ⟨rfl,rfl,rfl,rfl,rfl,rfl,rfl⟩:=H
    go_enter Tryz.func72,Tryz.ntmps72
    go_wp2_with (first
     |((with_reducible refine Qa (N:=9) rfl ?_);refine Qb (Pg g 66) (Qc 108 3 (Pg g 0) (Pg g 66) (Zm g) _ rfl rfl) rfl ?_)
     |((with_reducible refine Qa (N:=10) rfl ?_);refine Qb (.string s3) (Qd sT9 g (66) (.string s3) ((xv (Value.int .i8) s0 [(fnv s1),Ii s2,.string s3,Ii s4,.string s5])) BKr.out ((Qi (n:=64) LN_s0.out 2 66 (by omega)).trans rfl) _ rfl rfl) rfl ?_)
     |((with_reducible refine Qa (N:=11) rfl ?_);refine Qb (.string (s3.extract 0 1)) (VD 9 JV s3 1 (by first|omega|decide) hc1.out _ _ rfl rfl rfl) rfl ?_)
     |((with_reducible refine Qa (N:=16) rfl ?_);refine Qb (Pg g 66) (Qc 108 3 (Pg g 0) (Pg g 66) (Zm g) _ rfl rfl) rfl ?_)
     |((with_reducible refine Qa (N:=17) rfl ?_);refine Qb (.string s3) (Qd sT9 g (66) (.string s3) ((xv (Value.int .i8) s0 [(fnv s1),Ii s2,.string s3,Ii s4,.string s5])) BKr.out ((Qi (n:=64) LN_s0.out 2 66 (by omega)).trans rfl) _ rfl rfl) rfl ?_)
     |((with_reducible refine Qa (N:=18) rfl ?_);refine Qb (.string (s3.extract 1 s3.size)) (Kn 9 JV s3 1 (by first|omega|decide) hc1.out _ _ rfl rfl rfl) rfl ?_)
     |((with_reducible refine Qa (N:=20) rfl ?_);refine Qb (Pg g 66) (Qc 108 3 (Pg g 0) (Pg g 66) (Zm g) _ rfl rfl) rfl ?_)
     |((with_reducible refine Qf (t:=9) (p:=20) rfl ?_);refine QH sT9 g (66) (.string (s3.extract 1 s3.size)) (xv (Value.int .i8) s0 [(fnv s1),Ii s2,.string s3,Ii s4,.string s5]) (xv (Value.int .i8) s0 [(fnv s1),Ii s2,.string (s3.extract 1 s3.size),Ii s4,.string s5]) BKr.out (by rw [show (xv (Value.int .i8) s0 [(fnv s1),Ii s2,.string s3,Ii s4,.string s5])=xv (Value.int .i8) s0 [(fnv s1),Ii s2,.string s3,Ii s4,.string s5] from rfl,QE,show s0.length=64 from LN_s0.out];simp) rfl rfl ((JB (n:=64) LN_s0.out 2 66 (by omega) _).trans rfl) rfl _ _ rfl rfl rfl ?_;intro w4 ho_ hB_;replace HL:=hid (HL.out.off ho_ (.inl rfl));replace BKr:=hid hB_;clear ho_ hB_)
     |((with_reducible refine Qa (N:=23) rfl ?_);refine Qb (Pg g 66) (Qc 108 3 (Pg g 0) (Pg g 66) (Zm g) _ rfl rfl) rfl ?_)
     |((with_reducible refine Qa (N:=24) rfl ?_);refine Qb (.string (s3.extract 1 s3.size)) (Qd sT9 g (66) (.string (s3.extract 1 s3.size)) ((xv (Value.int .i8) s0 [(fnv s1),Ii s2,.string (s3.extract 1 s3.size),Ii s4,.string s5])) BKr.out ((Qi (n:=64) LN_s0.out 2 66 (by omega)).trans rfl) _ rfl rfl) rfl ?_)
     |((with_reducible refine Qa (N:=28) rfl ?_);refine Qb (Pg g 64) (Qc 108 1 (Pg g 0) (Pg g 64) (Ju g) _ rfl rfl) rfl ?_)
     |((with_reducible refine Qf (t:=106) (p:=28) rfl ?_);refine QH XC g (64) (.func (.func 91) #[] #[]) (xv (Value.int .i8) s0 [(fnv s1),Ii s2,.string (s3.extract 1 s3.size),Ii s4,.string s5]) (xv (Value.int .i8) s0 [.func (.func 91) #[] #[],Ii s2,.string (s3.extract 1 s3.size),Ii s4,.string s5]) BKr.out (by rw [show (xv (Value.int .i8) s0 [(fnv s1),Ii s2,.string (s3.extract 1 s3.size),Ii s4,.string s5])=xv (Value.int .i8) s0 [(fnv s1),Ii s2,.string (s3.extract 1 s3.size),Ii s4,.string s5] from rfl,QE,show s0.length=64 from LN_s0.out];simp) rfl rfl ((JB (n:=64) LN_s0.out 0 64 (by omega) _).trans rfl) rfl _ _ rfl rfl rfl ?_;intro w5 ho_ hB_;replace HL:=hid (HL.out.off ho_ (.inl rfl));replace BKr:=hid hB_;clear ho_ hB_))
    (try simp only [Act.put,sI,sZ,sS])
    go_ret
    exact ⟨by first|rfl|(simp;done)|(simp [*];done),LN_s0.out,(by exact BKr.out),HL.out⟩
   ·
    rw [if_neg c3] at H
    have c3b0:((s3.extract 1 s3.size).toList==([]:List UInt8))=false:=beq_eq_false_iff_ne.mpr c3
    have c3b1:((s3.extract 1 s3.size).toList != ([]:List UInt8))=true:=bne_iff_ne.mpr c3
    have hc3:=hid c3
    clear c3
    simp only [Option.some.injEq,Prod.mk.injEq] at H
    obtain ⟨rfl,rfl,rfl,rfl,rfl,rfl,rfl⟩:=H
    go_enter Tryz.func72,Tryz.ntmps72
    go_wp2_with (first
     |((with_reducible refine Qa (N:=9) rfl ?_);refine Qb (Pg g 66) (Qc 108 3 (Pg g 0) (Pg g 66) (Zm g) _ rfl rfl) rfl ?_)
     |((with_reducible refine Qa (N:=10) rfl ?_);refine Qb (.string s3) (Qd sT9 g (66) (.string s3) ((xv (Value.int .i8) s0 [(fnv s1),Ii s2,.string s3,Ii s4,.string s5])) BKr.out ((Qi (n:=64) LN_s0.out 2 66 (by omega)).trans rfl) _ rfl rfl) rfl ?_)
     |((with_reducible refine Qa (N:=11) rfl ?_);refine Qb (.string (s3.extract 0 1)) (VD 9 JV s3 1 (by first|omega|decide) hc1.out _ _ rfl rfl rfl) rfl ?_)
     |((with_reducible refine Qa (N:=16) rfl ?_);refine Qb (Pg g 66) (Qc 108 3 (Pg g 0) (Pg g 66) (Zm g) _ rfl rfl) rfl ?_)
     |((with_reducible refine Qa (N:=17) rfl ?_);refine Qb (.string s3) (Qd sT9 g (66) (.string s3) ((xv (Value.int .i8) s0 [(fnv s1),Ii s2,.string s3,Ii s4,.string s5])) BKr.out ((Qi (n:=64) LN_s0.out 2 66 (by omega)).trans rfl) _ rfl rfl) rfl ?_)
     |((with_reducible refine Qa (N:=18) rfl ?_);refine Qb (.string (s3.extract 1 s3.size)) (Kn 9 JV s3 1 (by first|omega|decide) hc1.out _ _ rfl rfl rfl) rfl ?_)
     |((with_reducible refine Qa (N:=20) rfl ?_);refine Qb (Pg g 66) (Qc 108 3 (Pg g 0) (Pg g 66) (Zm g) _ rfl rfl) rfl ?_)
     |((with_reducible refine Qf (t:=9) (p:=20) rfl ?_);refine QH sT9 g (66) (.string (s3.extract 1 s3.size)) (xv (Value.int .i8) s0 [(fnv s1),Ii s2,.string s3,Ii s4,.string s5]) (xv (Value.int .i8) s0 [(fnv s1),Ii s2,.string (s3.extract 1 s3.size),Ii s4,.string s5]) BKr.out (by rw [show (xv (Value.int .i8) s0 [(fnv s1),Ii s2,.string s3,Ii s4,.string s5])=xv (Value.int .i8) s0 [(fnv s1),Ii s2,.string s3,Ii s4,.string s5] from rfl,QE,show s0.length=64 from LN_s0.out];simp) rfl rfl ((JB (n:=64) LN_s0.out 2 66 (by omega) _).trans rfl) rfl _ _ rfl rfl rfl ?_;intro w6 ho_ hB_;replace HL:=hid (HL.out.off ho_ (.inl rfl));replace BKr:=hid hB_;clear ho_ hB_)
     |((with_reducible refine Qa (N:=23) rfl ?_);refine Qb (Pg g 66) (Qc 108 3 (Pg g 0) (Pg g 66) (Zm g) _ rfl rfl) rfl ?_)
     |((with_reducible refine Qa (N:=24) rfl ?_);refine Qb (.string (s3.extract 1 s3.size)) (Qd sT9 g (66) (.string (s3.extract 1 s3.size)) ((xv (Value.int .i8) s0 [(fnv s1),Ii s2,.string (s3.extract 1 s3.size),Ii s4,.string s5])) BKr.out ((Qi (n:=64) LN_s0.out 2 66 (by omega)).trans rfl) _ rfl rfl) rfl ?_))
    (try simp only [Act.put,sI,sZ,sS])
    go_ret
    exact ⟨by first|rfl|(simp;done)|(simp [*];done),LN_s0.out,(by exact BKr.out),HL.out⟩
  ·
   rw [if_neg c2] at H
   have c2b0:((Utf8.encode a1).toList==(s3.extract 0 1).toList)=false:=beq_eq_false_iff_ne.mpr c2
   have c2b1:((Utf8.encode a1).toList != (s3.extract 0 1).toList)=true:=bne_iff_ne.mpr c2
   have hc2:=hid c2
   clear c2
   simp only [Option.some.injEq,Prod.mk.injEq] at H
   obtain ⟨rfl,rfl,rfl,rfl,rfl,rfl,rfl⟩:=H
   go_enter Tryz.func72,Tryz.ntmps72
   go_wp2_with (first
    |((with_reducible refine Qa (N:=9) rfl ?_);refine Qb (Pg g 66) (Qc 108 3 (Pg g 0) (Pg g 66) (Zm g) _ rfl rfl) rfl ?_)
    |((with_reducible refine Qa (N:=10) rfl ?_);refine Qb (.string s3) (Qd sT9 g (66) (.string s3) ((xv (Value.int .i8) s0 [(fnv s1),Ii s2,.string s3,Ii s4,.string s5])) BKr.out ((Qi (n:=64) LN_s0.out 2 66 (by omega)).trans rfl) _ rfl rfl) rfl ?_)
    |((with_reducible refine Qa (N:=11) rfl ?_);refine Qb (.string (s3.extract 0 1)) (VD 9 JV s3 1 (by first|omega|decide) hc1.out _ _ rfl rfl rfl) rfl ?_))
   (try simp only [Act.put,sI,sZ,sS])
   go_ret
   exact ⟨by first|rfl|(simp;done)|(simp [*];done),LN_s0.out,(by exact BKr.out),HL.out⟩
 ·
  rw [if_neg c1] at H
  exact absurd H (by simp)
def Xd.f(s0:List Int)(s1 s2:Int)(s3:ByteArray)(s4:Int)(s5:ByteArray)(a1:Int):Option (Bool×(List Int)×Int×Int×ByteArray×Int×ByteArray):=some ((a1==32),s0,106,s2,s3,s4,s5)
theorem Xd.c(s0:List Int)(s1 s2:Int)(s3:ByteArray)(s4:Int)(s5:ByteArray)(a1:Int)(hls0:s0.length=64)(r1:Bool)(q0:List Int)(q1 q2:Int)(q3:ByteArray)(q4:Int)(q5:ByteArray)(g:Nat)(w:World)(hB:Blk w g 108 (xv (Value.int .i8) s0 [(fnv s1),Ii s2,.string s3,Ii s4,.string s5]))(h:Xd.f s0 s1 s2 s3 s4 s5 a1=some (r1,q0,q1,q2,q3,q4,q5)):
 Calls Tryz.prog 91 #[Pg g 0,.int .i32 a1] w fun e w'=>e=.returned (.bool r1)∧q0.length=64∧Blk w' g 108 (xv (Value.int .i8) q0 [(fnv q1),Ii q2,.string q3,Ii q4,.string q5])∧Bex g w.heap.size w w':=by
 have LN_s0:=hid hls0
 clear hls0
 have BKr:=hid hB
 clear hB
 have HL:=hid (Bex.refl g w.heap.size w)
 have H:(some ((a1==32),s0,106,s2,s3,s4,s5))=some (r1,q0,q1,q2,q3,q4,q5):=h
 clear h
 simp only [Option.some.injEq,Prod.mk.injEq] at H
 obtain ⟨rfl,rfl,rfl,rfl,rfl,rfl,rfl⟩:=H
 go_enter Tryz.func91,Tryz.ntmps91
 go_wp2_with (first
  |((with_reducible refine Qa (N:=7) rfl ?_);refine Qb (Pg g 64) (Qc 108 1 (Pg g 0) (Pg g 64) (Ju g) _ rfl rfl) rfl ?_)
  |((with_reducible refine Qf (t:=106) (p:=7) rfl ?_);refine QH XC g (64) (.func (.func 106) #[] #[]) (xv (Value.int .i8) s0 [(fnv s1),Ii s2,.string s3,Ii s4,.string s5]) (xv (Value.int .i8) s0 [.func (.func 106) #[] #[],Ii s2,.string s3,Ii s4,.string s5]) BKr.out (by rw [show (xv (Value.int .i8) s0 [(fnv s1),Ii s2,.string s3,Ii s4,.string s5])=xv (Value.int .i8) s0 [(fnv s1),Ii s2,.string s3,Ii s4,.string s5] from rfl,QE,show s0.length=64 from LN_s0.out];simp) rfl rfl ((JB (n:=64) LN_s0.out 0 64 (by omega) _).trans rfl) rfl _ _ rfl rfl rfl ?_;intro w1 ho_ hB_;replace HL:=hid (HL.out.off ho_ (.inl rfl));replace BKr:=hid hB_;clear ho_ hB_))
 (try simp only [Act.put,sI,sZ,sS])
 go_ret
 exact ⟨by first|rfl|(simp;done)|(simp [*];done),LN_s0.out,(by exact BKr.out),HL.out⟩
def ZI.f(s0:List Int)(s1 s2:Int)(s3:ByteArray)(s4:Int)(s5:ByteArray)(a1:Int):Option (Bool×(List Int)×Int×Int×ByteArray×Int×ByteArray):=if s2=0 then (if a1=98 then (some (true,s0,72,1,(⟨#[98,108,97,99,107]⟩:ByteArray).extract 1 (⟨#[98,108,97,99,107]⟩:ByteArray).size,s4,s5)) else ((JW.f (ofZ (Utf8.encode a1)) s2).bind fun t1=>(if (ofZ (Utf8.encode a1) != 0)=true then (if (ofZ (Utf8.encode a1))>0 then (some (decide (a1≤90),s0,123,s2,s3,t1,s5)) else (some (false,s0,123,s2,s3,t1,s5))) else (some (false,s0,123,s2,s3,t1,s5))))) else ((JW.f (ofZ (Utf8.encode a1)) s2).bind fun t2=>(if (ofZ (Utf8.encode a1) != 0)=true then (if (ofZ (Utf8.encode a1))>0 then (some (decide (a1≤90),s0,123,s2,s3,t2,s5)) else (some (false,s0,123,s2,s3,t2,s5))) else (some (false,s0,123,s2,s3,t2,s5))))
theorem ZI.c(s0:List Int)(s1 s2:Int)(s3:ByteArray)(s4:Int)(s5:ByteArray)(a1:Int)(hls0:s0.length=64)(r1:Bool)(q0:List Int)(q1 q2:Int)(q3:ByteArray)(q4:Int)(q5:ByteArray)(g:Nat)(w:World)(hB:Blk w g 108 (xv (Value.int .i8) s0 [(fnv s1),Ii s2,.string s3,Ii s4,.string s5]))(h:ZI.f s0 s1 s2 s3 s4 s5 a1=some (r1,q0,q1,q2,q3,q4,q5)):
 Calls Tryz.prog 106 #[Pg g 0,.int .i32 a1] w fun e w'=>e=.returned (.bool r1)∧q0.length=64∧Blk w' g 108 (xv (Value.int .i8) q0 [(fnv q1),Ii q2,.string q3,Ii q4,.string q5])∧Bex g w.heap.size w w':=by
 have LN_s0:=hid hls0
 clear hls0
 have BKr:=hid hB
 clear hB
 have HL:=hid (Bex.refl g w.heap.size w)
 have H:(if s2=0 then (if a1=98 then (some (true,s0,72,1,(⟨#[98,108,97,99,107]⟩:ByteArray).extract 1 (⟨#[98,108,97,99,107]⟩:ByteArray).size,s4,s5)) else ((JW.f (ofZ (Utf8.encode a1)) s2).bind fun t1=>(if (ofZ (Utf8.encode a1) != 0)=true then (if (ofZ (Utf8.encode a1))>0 then (some (decide (a1≤90),s0,123,s2,s3,t1,s5)) else (some (false,s0,123,s2,s3,t1,s5))) else (some (false,s0,123,s2,s3,t1,s5))))) else ((JW.f (ofZ (Utf8.encode a1)) s2).bind fun t2=>(if (ofZ (Utf8.encode a1) != 0)=true then (if (ofZ (Utf8.encode a1))>0 then (some (decide (a1≤90),s0,123,s2,s3,t2,s5)) else (some (false,s0,123,s2,s3,t2,s5))) else (some (false,s0,123,s2,s3,t2,s5)))))=some (r1,q0,q1,q2,q3,q4,q5):=h
 clear h
 by_cases c3:s2=0
 ·
  rw [if_pos c3] at H
  have c3b0:(s2==0)=true:=beq_iff_eq.mpr c3
  have c3b1:(s2 != 0)=false:=bne_eq_false_iff_eq.mpr c3
  have hc3:=hid c3
  clear c3
  by_cases c4:a1=98
  ·
   rw [if_pos c4] at H
   have c4b0:(a1==98)=true:=beq_iff_eq.mpr c4
   have c4b1:(a1 != 98)=false:=bne_eq_false_iff_eq.mpr c4
   have hc4:=hid c4
   clear c4
   simp only [Option.some.injEq,Prod.mk.injEq] at H
   obtain ⟨rfl,rfl,rfl,rfl,rfl,rfl,rfl⟩:=H
   go_enter Tryz.func106,Tryz.ntmps106
   go_wp2_with (first
    |((with_reducible refine Qa (N:=9) rfl ?_);refine Qb (Pg g 65) (Qc 108 2 (Pg g 0) (Pg g 65) (ZN g) _ rfl rfl) rfl ?_)
    |((with_reducible refine Qa (N:=10) rfl ?_);refine Qb (Ii s2) (Qd sT3 g (65) (Ii s2) ((xv (Value.int .i8) s0 [(fnv s1),Ii s2,.string s3,Ii s4,.string s5])) BKr.out ((Qi (n:=64) LN_s0.out 1 65 (by omega)).trans rfl) _ rfl rfl) rfl ?_))
   (try simp only [Act.put,sI,sZ,sS])
   have WR64:=Zs
   have WR32:=ZA
   have WR8:=Ko
   have WRU:=ZY
   refine QL (fun z_=>Bex g w.heap.size w z_∧Blk z_ g 108 (xv (Value.int .i8) s0 [(fnv s1),Ii s2,.string s3,Ii s4,.string s5])∧True) [6,9,12] [(0,2),(1,2),(2,2),(3,2),(4,2),(5,2),(6,0),(7,2),(8,2),(9,0),(10,2),(11,2),(12,0)] (by kernel_rfl) (by kernel_rfl) (by kernel_rfl) rfl ?_
   intro w5 hb_
   replace BKr:=hid (BKr.out.below hb_ BKr.out.lt)
   replace HL:=hid (HL.out.below hb_ HL.out.size)
   clear hb_
   refine Qe (Pg g 0) rfl (fun z_=>Qo (.tmp 0) (.inl rfl) _ rfl) rfl rfl ?_
   intro t_ k_;simp only [sI,sZ,sS] at k_;subst k_
   refine Qe (Pg g 0) rfl (fun z_=>Qo (.tmp 0) (.inl rfl) _ rfl) rfl rfl ?_
   intro t_ k_;simp only [sI,sZ,sS] at k_;subst k_
   refine Qe (Pg g 0) rfl (fun z_=>Qo (.tmp 0) (.inl rfl) _ rfl) rfl rfl ?_
   intro t_ k_;simp only [sI,sZ,sS] at k_;subst k_
   refine Qe (.string ((⟨#[98,108,97,99,107]⟩:ByteArray).extract 1 (⟨#[98,108,97,99,107]⟩:ByteArray).size)) rfl (fun z_=>Kn 9 JV (⟨#[98,108,97,99,107]⟩:ByteArray) 1 (by first|omega|decide) (by first|omega|decide) _ _ rfl rfl rfl) rfl rfl ?_
   intro t_ k_;simp only [sI,sZ,sS] at k_;subst k_
   refine Qe (Pg g 0) rfl (fun z_=>by go_simp <;> (unfold wrap64;omega)) rfl rfl ?_
   intro t_ k_;simp only [sI,sZ,sS] at k_;subst k_
   refine Qe (Pg g 65) rfl (fun z_=>Qc 108 2 (Pg g 0) (Pg g 65) (ZN g) _ rfl rfl) rfl rfl ?_
   intro t_ k_;simp only [sI,sZ,sS] at k_;subst k_
   refine QV rfl (fun Q'_ hQ_=>?_)
   (with_reducible refine Qf (t:=3) (p:=21) rfl ?_)
   refine QH sT3 g (65) (Ii 1) (xv (Value.int .i8) s0 [(fnv s1),Ii s2,.string s3,Ii s4,.string s5]) (xv (Value.int .i8) s0 [(fnv s1),Ii 1,.string s3,Ii s4,.string s5]) BKr.out (by rw [show (xv (Value.int .i8) s0 [(fnv s1),Ii s2,.string s3,Ii s4,.string s5])=xv (Value.int .i8) s0 [(fnv s1),Ii s2,.string s3,Ii s4,.string s5] from rfl,QE,show s0.length=64 from LN_s0.out];simp) rfl rfl ((JB (n:=64) LN_s0.out 1 65 (by omega) _).trans rfl) rfl _ _ rfl rfl rfl ?_
   intro w6 ho_ hB_
   replace HL:=hid (HL.out.off ho_ (.inl rfl))
   replace BKr:=hid hB_
   clear ho_ hB_
   refine Qz ?_
   refine hQ_ _ _ (fun h_=>absurd h_ (by decide)) ?_
   clear hQ_ Q'_
   simp only [Act.put]
   refine Qe (Pg g 0) rfl (fun z_=>by go_simp <;> (unfold wrap64;omega)) rfl rfl ?_
   intro t_ k_;simp only [sI,sZ,sS] at k_;subst k_
   refine Qe (Pg g 66) rfl (fun z_=>Qc 108 3 (Pg g 0) (Pg g 66) (Zm g) _ rfl rfl) rfl rfl ?_
   intro t_ k_;simp only [sI,sZ,sS] at k_;subst k_
   refine QV rfl (fun Q'_ hQ_=>?_)
   (with_reducible refine Qf (t:=9) (p:=23) rfl ?_)
   refine QH sT9 g (66) (.string ((⟨#[98,108,97,99,107]⟩:ByteArray).extract 1 (⟨#[98,108,97,99,107]⟩:ByteArray).size)) (xv (Value.int .i8) s0 [(fnv s1),Ii 1,.string s3,Ii s4,.string s5]) (xv (Value.int .i8) s0 [(fnv s1),Ii 1,.string ((⟨#[98,108,97,99,107]⟩:ByteArray).extract 1 (⟨#[98,108,97,99,107]⟩:ByteArray).size),Ii s4,.string s5]) BKr.out (by rw [show (xv (Value.int .i8) s0 [(fnv s1),Ii 1,.string s3,Ii s4,.string s5])=xv (Value.int .i8) s0 [(fnv s1),Ii 1,.string s3,Ii s4,.string s5] from rfl,QE,show s0.length=64 from LN_s0.out];simp) rfl rfl ((JB (n:=64) LN_s0.out 2 66 (by omega) _).trans rfl) rfl _ _ rfl rfl rfl ?_
   intro w7 ho_ hB_
   replace HL:=hid (HL.out.off ho_ (.inl rfl))
   replace BKr:=hid hB_
   clear ho_ hB_
   refine Qz ?_
   refine hQ_ _ _ (fun h_=>absurd h_ (by decide)) ?_
   clear hQ_ Q'_
   simp only [Act.put]
   refine Qe (Pg g 0) rfl (fun z_=>by go_simp <;> (unfold wrap64;omega)) rfl rfl ?_
   intro t_ k_;simp only [sI,sZ,sS] at k_;subst k_
   refine Qe (Pg g 64) rfl (fun z_=>Qc 108 1 (Pg g 0) (Pg g 64) (Ju g) _ rfl rfl) rfl rfl ?_
   intro t_ k_;simp only [sI,sZ,sS] at k_;subst k_
   refine QV rfl (fun Q'_ hQ_=>?_)
   (with_reducible refine Qf (t:=106) (p:=25) rfl ?_)
   refine QH XC g (64) (.func (.func 72) #[] #[]) (xv (Value.int .i8) s0 [(fnv s1),Ii 1,.string ((⟨#[98,108,97,99,107]⟩:ByteArray).extract 1 (⟨#[98,108,97,99,107]⟩:ByteArray).size),Ii s4,.string s5]) (xv (Value.int .i8) s0 [.func (.func 72) #[] #[],Ii 1,.string ((⟨#[98,108,97,99,107]⟩:ByteArray).extract 1 (⟨#[98,108,97,99,107]⟩:ByteArray).size),Ii s4,.string s5]) BKr.out (by rw [show (xv (Value.int .i8) s0 [(fnv s1),Ii 1,.string ((⟨#[98,108,97,99,107]⟩:ByteArray).extract 1 (⟨#[98,108,97,99,107]⟩:ByteArray).size),Ii s4,.string s5])=xv (Value.int .i8) s0 [(fnv s1),Ii 1,.string ((⟨#[98,108,97,99,107]⟩:ByteArray).extract 1 (⟨#[98,108,97,99,107]⟩:ByteArray).size),Ii s4,.string s5] from rfl,QE,show s0.length=64 from LN_s0.out];simp) rfl rfl ((JB (n:=64) LN_s0.out 0 64 (by omega) _).trans rfl) rfl _ _ rfl rfl rfl ?_
   intro w8 ho_ hB_
   replace HL:=hid (HL.out.off ho_ (.inl rfl))
   replace BKr:=hid hB_
   clear ho_ hB_
   refine Qz ?_
   refine hQ_ _ _ (fun h_=>absurd h_ (by decide)) ?_
   clear hQ_ Q'_
   simp only [Act.put]
   refine JH ?_
   clear WR64 WR32 WR8 WRU
   go_wp2_with fail
   (try simp only [Act.put,sI,sZ,sS])
   go_ret
   exact ⟨by first|rfl|(simp;done)|(simp [*];done),LN_s0.out,(by exact BKr.out),HL.out⟩
  ·
   rw [if_neg c4] at H
   have c4b0:(a1==98)=false:=beq_eq_false_iff_ne.mpr c4
   have c4b1:(a1 != 98)=true:=bne_iff_ne.mpr c4
   have hc4:=hid c4
   clear c4
   have H':=hid H
   clear H
   go_enter Tryz.func106,Tryz.ntmps106
   have k10:=True.intro
   go_wp2_with (first
    |((with_reducible refine Qa (N:=9) rfl ?_);refine Qb (Pg g 65) (Qc 108 2 (Pg g 0) (Pg g 65) (ZN g) _ rfl rfl) rfl ?_)
    |((with_reducible refine Qa (N:=10) rfl ?_);refine Qb (Ii s2) (Qd sT3 g (65) (Ii s2) ((xv (Value.int .i8) s0 [(fnv s1),Ii s2,.string s3,Ii s4,.string s5])) BKr.out ((Qi (n:=64) LN_s0.out 1 65 (by omega)).trans rfl) _ rfl rfl) rfl ?_)
    |(go_at_call 105;clear k10;refine (Qay (Utf8.encode a1) (qy _) _).mono ?_;rintro e_ w11 ⟨rfl,hb_⟩;replace BKr:=hid (BKr.out.below hb_ BKr.out.lt);replace HL:=hid (HL.out.below hb_ HL.out.size);clear hb_)
    |((with_reducible refine Qa (N:=37) rfl ?_);refine Qb (Pg g 65) (Qc 108 2 (Pg g 0) (Pg g 65) (ZN g) _ rfl rfl) rfl ?_)
    |((with_reducible refine Qa (N:=38) rfl ?_);refine Qb (Ii s2) (Qd sT3 g (65) (Ii s2) ((xv (Value.int .i8) s0 [(fnv s1),Ii s2,.string s3,Ii s4,.string s5])) BKr.out ((Qi (n:=64) LN_s0.out 1 65 (by omega)).trans rfl) _ rfl rfl) rfl ?_))
   (try simp only [Act.put,sI,sZ,sS])
   have H:=H'.out
   clear H'
   replace H:=Ia H
   obtain ⟨t1,A9_,H⟩:=H
   have A9:=hid A9_
   clear A9_
   by_cases c12:(ofZ (Utf8.encode a1) != 0)=true
   ·
    rw [if_pos c12] at H
    have c12b0:(ofZ (Utf8.encode a1) != 0)=true:=c12
    (try have c12b1:decide (ofZ (Utf8.encode a1)=0)=false:=by simpa using c12)
    (try have c12b2:(ofZ (Utf8.encode a1)==0)=false:=by simpa using c12)
    (try have c12b3:¬ (ofZ (Utf8.encode a1)=0):=by simpa using c12)
    have hc12:=hid c12
    clear c12
    by_cases c13:(ofZ (Utf8.encode a1))>0
    ·
     rw [if_pos c13] at H
     have c13b0:decide (0<(ofZ (Utf8.encode a1)))=true:=decide_eq_true c13
     have hc13:=hid c13
     clear c13
     simp only [Option.some.injEq,Prod.mk.injEq] at H
     obtain ⟨rfl,rfl,rfl,rfl,rfl,rfl,rfl⟩:=H
     have k14:=True.intro
     go_wp2_with (first
      |(go_at_call 122;clear k14;refine (JW.c (ofZ (Utf8.encode a1)) s2 t1 _ A9.out).mono ?_;rintro e_ w' ⟨rfl,rfl⟩)
      |((with_reducible refine Qa (N:=41) rfl ?_);refine Qb (Pg g 67) (Qc 108 4 (Pg g 0) (Pg g 67) (Kj g) _ rfl rfl) rfl ?_)
      |((with_reducible refine Qf (t:=3) (p:=41) rfl ?_);refine QH sT3 g (67) (Ii t1) (xv (Value.int .i8) s0 [(fnv s1),Ii s2,.string s3,Ii s4,.string s5]) (xv (Value.int .i8) s0 [(fnv s1),Ii s2,.string s3,Ii t1,.string s5]) BKr.out (by rw [show (xv (Value.int .i8) s0 [(fnv s1),Ii s2,.string s3,Ii s4,.string s5])=xv (Value.int .i8) s0 [(fnv s1),Ii s2,.string s3,Ii s4,.string s5] from rfl,QE,show s0.length=64 from LN_s0.out];simp) rfl rfl ((JB (n:=64) LN_s0.out 3 67 (by omega) _).trans rfl) rfl _ _ rfl rfl rfl ?_;intro w15 ho_ hB_;replace HL:=hid (HL.out.off ho_ (.inl rfl));replace BKr:=hid hB_;clear ho_ hB_)
      |((with_reducible refine Qa (N:=43) rfl ?_);refine Qb (Pg g 64) (Qc 108 1 (Pg g 0) (Pg g 64) (Ju g) _ rfl rfl) rfl ?_)
      |((with_reducible refine Qf (t:=106) (p:=43) rfl ?_);refine QH XC g (64) (.func (.func 123) #[] #[]) (xv (Value.int .i8) s0 [(fnv s1),Ii s2,.string s3,Ii t1,.string s5]) (xv (Value.int .i8) s0 [.func (.func 123) #[] #[],Ii s2,.string s3,Ii t1,.string s5]) BKr.out (by rw [show (xv (Value.int .i8) s0 [(fnv s1),Ii s2,.string s3,Ii t1,.string s5])=xv (Value.int .i8) s0 [(fnv s1),Ii s2,.string s3,Ii t1,.string s5] from rfl,QE,show s0.length=64 from LN_s0.out];simp) rfl rfl ((JB (n:=64) LN_s0.out 0 64 (by omega) _).trans rfl) rfl _ _ rfl rfl rfl ?_;intro w16 ho_ hB_;replace HL:=hid (HL.out.off ho_ (.inl rfl));replace BKr:=hid hB_;clear ho_ hB_))
     (try simp only [Act.put,sI,sZ,sS])
     go_ret
     exact ⟨by first|rfl|(simp;done)|(simp [*];done),LN_s0.out,(by exact BKr.out),HL.out⟩
    ·
     rw [if_neg c13] at H
     have c13b0:decide (0<(ofZ (Utf8.encode a1)))=false:=decide_eq_false c13
     have hc13:=hid c13
     clear c13
     simp only [Option.some.injEq,Prod.mk.injEq] at H
     obtain ⟨rfl,rfl,rfl,rfl,rfl,rfl,rfl⟩:=H
     have k17:=True.intro
     go_wp2_with (first
      |(go_at_call 122;clear k17;refine (JW.c (ofZ (Utf8.encode a1)) s2 t1 _ A9.out).mono ?_;rintro e_ w' ⟨rfl,rfl⟩)
      |((with_reducible refine Qa (N:=41) rfl ?_);refine Qb (Pg g 67) (Qc 108 4 (Pg g 0) (Pg g 67) (Kj g) _ rfl rfl) rfl ?_)
      |((with_reducible refine Qf (t:=3) (p:=41) rfl ?_);refine QH sT3 g (67) (Ii t1) (xv (Value.int .i8) s0 [(fnv s1),Ii s2,.string s3,Ii s4,.string s5]) (xv (Value.int .i8) s0 [(fnv s1),Ii s2,.string s3,Ii t1,.string s5]) BKr.out (by rw [show (xv (Value.int .i8) s0 [(fnv s1),Ii s2,.string s3,Ii s4,.string s5])=xv (Value.int .i8) s0 [(fnv s1),Ii s2,.string s3,Ii s4,.string s5] from rfl,QE,show s0.length=64 from LN_s0.out];simp) rfl rfl ((JB (n:=64) LN_s0.out 3 67 (by omega) _).trans rfl) rfl _ _ rfl rfl rfl ?_;intro w18 ho_ hB_;replace HL:=hid (HL.out.off ho_ (.inl rfl));replace BKr:=hid hB_;clear ho_ hB_)
      |((with_reducible refine Qa (N:=43) rfl ?_);refine Qb (Pg g 64) (Qc 108 1 (Pg g 0) (Pg g 64) (Ju g) _ rfl rfl) rfl ?_)
      |((with_reducible refine Qf (t:=106) (p:=43) rfl ?_);refine QH XC g (64) (.func (.func 123) #[] #[]) (xv (Value.int .i8) s0 [(fnv s1),Ii s2,.string s3,Ii t1,.string s5]) (xv (Value.int .i8) s0 [.func (.func 123) #[] #[],Ii s2,.string s3,Ii t1,.string s5]) BKr.out (by rw [show (xv (Value.int .i8) s0 [(fnv s1),Ii s2,.string s3,Ii t1,.string s5])=xv (Value.int .i8) s0 [(fnv s1),Ii s2,.string s3,Ii t1,.string s5] from rfl,QE,show s0.length=64 from LN_s0.out];simp) rfl rfl ((JB (n:=64) LN_s0.out 0 64 (by omega) _).trans rfl) rfl _ _ rfl rfl rfl ?_;intro w19 ho_ hB_;replace HL:=hid (HL.out.off ho_ (.inl rfl));replace BKr:=hid hB_;clear ho_ hB_))
     (try simp only [Act.put,sI,sZ,sS])
     go_ret
     exact ⟨by first|rfl|(simp;done)|(simp [*];done),LN_s0.out,(by exact BKr.out),HL.out⟩
   ·
    rw [if_neg c12] at H
    have c12b0:(ofZ (Utf8.encode a1) != 0)=false:=by simpa using c12
    (try have c12b1:decide (ofZ (Utf8.encode a1)=0)=true:=by simpa using c12)
    (try have c12b2:(ofZ (Utf8.encode a1)==0)=true:=by simpa using c12)
    have hc12:=hid c12
    clear c12
    simp only [Option.some.injEq,Prod.mk.injEq] at H
    obtain ⟨rfl,rfl,rfl,rfl,rfl,rfl,rfl⟩:=H
    have k20:=True.intro
    go_wp2_with (first
     |(go_at_call 122;clear k20;refine (JW.c (ofZ (Utf8.encode a1)) s2 t1 _ A9.out).mono ?_;rintro e_ w' ⟨rfl,rfl⟩)
     |((with_reducible refine Qa (N:=41) rfl ?_);refine Qb (Pg g 67) (Qc 108 4 (Pg g 0) (Pg g 67) (Kj g) _ rfl rfl) rfl ?_)
     |((with_reducible refine Qf (t:=3) (p:=41) rfl ?_);refine QH sT3 g (67) (Ii t1) (xv (Value.int .i8) s0 [(fnv s1),Ii s2,.string s3,Ii s4,.string s5]) (xv (Value.int .i8) s0 [(fnv s1),Ii s2,.string s3,Ii t1,.string s5]) BKr.out (by rw [show (xv (Value.int .i8) s0 [(fnv s1),Ii s2,.string s3,Ii s4,.string s5])=xv (Value.int .i8) s0 [(fnv s1),Ii s2,.string s3,Ii s4,.string s5] from rfl,QE,show s0.length=64 from LN_s0.out];simp) rfl rfl ((JB (n:=64) LN_s0.out 3 67 (by omega) _).trans rfl) rfl _ _ rfl rfl rfl ?_;intro w21 ho_ hB_;replace HL:=hid (HL.out.off ho_ (.inl rfl));replace BKr:=hid hB_;clear ho_ hB_)
     |((with_reducible refine Qa (N:=43) rfl ?_);refine Qb (Pg g 64) (Qc 108 1 (Pg g 0) (Pg g 64) (Ju g) _ rfl rfl) rfl ?_)
     |((with_reducible refine Qf (t:=106) (p:=43) rfl ?_);refine QH XC g (64) (.func (.func 123) #[] #[]) (xv (Value.int .i8) s0 [(fnv s1),Ii s2,.string s3,Ii t1,.string s5]) (xv (Value.int .i8) s0 [.func (.func 123) #[] #[],Ii s2,.string s3,Ii t1,.string s5]) BKr.out (by rw [show (xv (Value.int .i8) s0 [(fnv s1),Ii s2,.string s3,Ii t1,.string s5])=xv (Value.int .i8) s0 [(fnv s1),Ii s2,.string s3,Ii t1,.string s5] from rfl,QE,show s0.length=64 from LN_s0.out];simp) rfl rfl ((JB (n:=64) LN_s0.out 0 64 (by omega) _).trans rfl) rfl _ _ rfl rfl rfl ?_;intro w22 ho_ hB_;replace HL:=hid (HL.out.off ho_ (.inl rfl));replace BKr:=hid hB_;clear ho_ hB_))
    (try simp only [Act.put,sI,sZ,sS])
    go_ret
    exact ⟨by first|rfl|(simp;done)|(simp [*];done),LN_s0.out,(by exact BKr.out),HL.out⟩
 ·
  rw [if_neg c3] at H
  have c3b0:(s2==0)=false:=beq_eq_false_iff_ne.mpr c3
  have c3b1:(s2 != 0)=true:=bne_iff_ne.mpr c3
  have hc3:=hid c3
  clear c3
  have H':=hid H
  clear H
  go_enter Tryz.func106,Tryz.ntmps106
  have k24:=True.intro
  go_wp2_with (first
   |((with_reducible refine Qa (N:=9) rfl ?_);refine Qb (Pg g 65) (Qc 108 2 (Pg g 0) (Pg g 65) (ZN g) _ rfl rfl) rfl ?_)
   |((with_reducible refine Qa (N:=10) rfl ?_);refine Qb (Ii s2) (Qd sT3 g (65) (Ii s2) ((xv (Value.int .i8) s0 [(fnv s1),Ii s2,.string s3,Ii s4,.string s5])) BKr.out ((Qi (n:=64) LN_s0.out 1 65 (by omega)).trans rfl) _ rfl rfl) rfl ?_)
   |(go_at_call 105;clear k24;refine (Qay (Utf8.encode a1) (qy _) _).mono ?_;rintro e_ w25 ⟨rfl,hb_⟩;replace BKr:=hid (BKr.out.below hb_ BKr.out.lt);replace HL:=hid (HL.out.below hb_ HL.out.size);clear hb_)
   |((with_reducible refine Qa (N:=37) rfl ?_);refine Qb (Pg g 65) (Qc 108 2 (Pg g 0) (Pg g 65) (ZN g) _ rfl rfl) rfl ?_)
   |((with_reducible refine Qa (N:=38) rfl ?_);refine Qb (Ii s2) (Qd sT3 g (65) (Ii s2) ((xv (Value.int .i8) s0 [(fnv s1),Ii s2,.string s3,Ii s4,.string s5])) BKr.out ((Qi (n:=64) LN_s0.out 1 65 (by omega)).trans rfl) _ rfl rfl) rfl ?_))
  (try simp only [Act.put,sI,sZ,sS])
  have H:=H'.out
  clear H'
  replace H:=Ia H
  obtain ⟨t2,A23_,H⟩:=H
  have A23:=hid A23_
  clear A23_
  by_cases c26:(ofZ (Utf8.encode a1) != 0)=true
  ·
   rw [if_pos c26] at H
   have c26b0:(ofZ (Utf8.encode a1) != 0)=true:=c26
   (try have c26b1:decide (ofZ (Utf8.encode a1)=0)=false:=by simpa using c26)
   (try have c26b2:(ofZ (Utf8.encode a1)==0)=false:=by simpa using c26)
   (try have c26b3:¬ (ofZ (Utf8.encode a1)=0):=by simpa using c26)
   have hc26:=hid c26
   clear c26
   by_cases c27:(ofZ (Utf8.encode a1))>0
   ·
    rw [if_pos c27] at H
    have c27b0:decide (0<(ofZ (Utf8.encode a1)))=true:=decide_eq_true c27
    have hc27:=hid c27
    clear c27
    simp only [Option.some.injEq,Prod.mk.injEq] at H
    obtain ⟨rfl,rfl,rfl,rfl,rfl,rfl,rfl⟩:=H
    have k28:=True.intro
    go_wp2_with (first
     |(go_at_call 122;clear k28;refine (JW.c (ofZ (Utf8.encode a1)) s2 t2 _ A23.out).mono ?_;rintro e_ w' ⟨rfl,rfl⟩)
     |((with_reducible refine Qa (N:=41) rfl ?_);refine Qb (Pg g 67) (Qc 108 4 (Pg g 0) (Pg g 67) (Kj g) _ rfl rfl) rfl ?_)
     |((with_reducible refine Qf (t:=3) (p:=41) rfl ?_);refine QH sT3 g (67) (Ii t2) (xv (Value.int .i8) s0 [(fnv s1),Ii s2,.string s3,Ii s4,.string s5]) (xv (Value.int .i8) s0 [(fnv s1),Ii s2,.string s3,Ii t2,.string s5]) BKr.out (by rw [show (xv (Value.int .i8) s0 [(fnv s1),Ii s2,.string s3,Ii s4,.string s5])=xv (Value.int .i8) s0 [(fnv s1),Ii s2,.string s3,Ii s4,.string s5] from rfl,QE,show s0.length=64 from LN_s0.out];simp) rfl rfl ((JB (n:=64) LN_s0.out 3 67 (by omega) _).trans rfl) rfl _ _ rfl rfl rfl ?_;intro w29 ho_ hB_;replace HL:=hid (HL.out.off ho_ (.inl rfl));replace BKr:=hid hB_;clear ho_ hB_)
     |((with_reducible refine Qa (N:=43) rfl ?_);refine Qb (Pg g 64) (Qc 108 1 (Pg g 0) (Pg g 64) (Ju g) _ rfl rfl) rfl ?_)
     |((with_reducible refine Qf (t:=106) (p:=43) rfl ?_);refine QH XC g (64) (.func (.func 123) #[] #[]) (xv (Value.int .i8) s0 [(fnv s1),Ii s2,.string s3,Ii t2,.string s5]) (xv (Value.int .i8) s0 [.func (.func 123) #[] #[],Ii s2,.string s3,Ii t2,.string s5]) BKr.out (by rw [show (xv (Value.int .i8) s0 [(fnv s1),Ii s2,.string s3,Ii t2,.string s5])=xv (Value.int .i8) s0 [(fnv s1),Ii s2,.string s3,Ii t2,.string s5] from rfl,QE,show s0.length=64 from LN_s0.out];simp) rfl rfl ((JB (n:=64) LN_s0.out 0 64 (by omega) _).trans rfl) rfl _ _ rfl rfl rfl ?_;intro w30 ho_ hB_;replace HL:=hid (HL.out.off ho_ (.inl rfl));replace BKr:=hid hB_;clear ho_ hB_))
    (try simp only [Act.put,sI,sZ,sS])
    go_ret
    exact ⟨by first|rfl|(simp;done)|(simp [*];done),LN_s0.out,(by exact BKr.out),HL.out⟩
   ·
    rw [if_neg c27] at H
    have c27b0:decide (0<(ofZ (Utf8.encode a1)))=false:=decide_eq_false c27
    have hc27:=hid c27
    clear c27
    simp only [Option.some.injEq,Prod.mk.injEq] at H
    obtain ⟨rfl,rfl,rfl,rfl,rfl,rfl,rfl⟩:=H
    have k31:=True.intro
    go_wp2_with (first
     |(go_at_call 122;clear k31;refine (JW.c (ofZ (Utf8.encode a1)) s2 t2 _ A23.out).mono ?_;rintro e_ w' ⟨rfl,rfl⟩)
     |((with_reducible refine Qa (N:=41) rfl ?_);refine Qb (Pg g 67) (Qc 108 4 (Pg g 0) (Pg g 67) (Kj g) _ rfl rfl) rfl ?_)
     |((with_reducible refine Qf (t:=3) (p:=41) rfl ?_);refine QH sT3 g (67) (Ii t2) (xv (Value.int .i8) s0 [(fnv s1),Ii s2,.string s3,Ii s4,.string s5]) (xv (Value.int .i8) s0 [(fnv s1),Ii s2,.string s3,Ii t2,.string s5]) BKr.out (by rw [show (xv (Value.int .i8) s0 [(fnv s1),Ii s2,.string s3,Ii s4,.string s5])=xv (Value.int .i8) s0 [(fnv s1),Ii s2,.string s3,Ii s4,.string s5] from rfl,QE,show s0.length=64 from LN_s0.out];simp) rfl rfl ((JB (n:=64) LN_s0.out 3 67 (by omega) _).trans rfl) rfl _ _ rfl rfl rfl ?_;intro w32 ho_ hB_;replace HL:=hid (HL.out.off ho_ (.inl rfl));replace BKr:=hid hB_;clear ho_ hB_)
     |((with_reducible refine Qa (N:=43) rfl ?_);refine Qb (Pg g 64) (Qc 108 1 (Pg g 0) (Pg g 64) (Ju g) _ rfl rfl) rfl ?_)
     |((with_reducible refine Qf (t:=106) (p:=43) rfl ?_);refine QH XC g (64) (.func (.func 123) #[] #[]) (xv (Value.int .i8) s0 [(fnv s1),Ii s2,.string s3,Ii t2,.string s5]) (xv (Value.int .i8) s0 [.func (.func 123) #[] #[],Ii s2,.string s3,Ii t2,.string s5]) BKr.out (by rw [show (xv (Value.int .i8) s0 [(fnv s1),Ii s2,.string s3,Ii t2,.string s5])=xv (Value.int .i8) s0 [(fnv s1),Ii s2,.string s3,Ii t2,.string s5] from rfl,QE,show s0.length=64 from LN_s0.out];simp) rfl rfl ((JB (n:=64) LN_s0.out 0 64 (by omega) _).trans rfl) rfl _ _ rfl rfl rfl ?_;intro w33 ho_ hB_;replace HL:=hid (HL.out.off ho_ (.inl rfl));replace BKr:=hid hB_;clear ho_ hB_))
    (try simp only [Act.put,sI,sZ,sS])
    go_ret
    exact ⟨by first|rfl|(simp;done)|(simp [*];done),LN_s0.out,(by exact BKr.out),HL.out⟩
  ·
   rw [if_neg c26] at H
   have c26b0:(ofZ (Utf8.encode a1) != 0)=false:=by simpa using c26
   (try have c26b1:decide (ofZ (Utf8.encode a1)=0)=true:=by simpa using c26)
   (try have c26b2:(ofZ (Utf8.encode a1)==0)=true:=by simpa using c26)
   have hc26:=hid c26
   clear c26
   simp only [Option.some.injEq,Prod.mk.injEq] at H
   obtain ⟨rfl,rfl,rfl,rfl,rfl,rfl,rfl⟩:=H
   have k34:=True.intro
   go_wp2_with (first
    |(go_at_call 122;clear k34;refine (JW.c (ofZ (Utf8.encode a1)) s2 t2 _ A23.out).mono ?_;rintro e_ w' ⟨rfl,rfl⟩)
    |((with_reducible refine Qa (N:=41) rfl ?_);refine Qb (Pg g 67) (Qc 108 4 (Pg g 0) (Pg g 67) (Kj g) _ rfl rfl) rfl ?_)
    |((with_reducible refine Qf (t:=3) (p:=41) rfl ?_);refine QH sT3 g (67) (Ii t2) (xv (Value.int .i8) s0 [(fnv s1),Ii s2,.string s3,Ii s4,.string s5]) (xv (Value.int .i8) s0 [(fnv s1),Ii s2,.string s3,Ii t2,.string s5]) BKr.out (by rw [show (xv (Value.int .i8) s0 [(fnv s1),Ii s2,.string s3,Ii s4,.string s5])=xv (Value.int .i8) s0 [(fnv s1),Ii s2,.string s3,Ii s4,.string s5] from rfl,QE,show s0.length=64 from LN_s0.out];simp) rfl rfl ((JB (n:=64) LN_s0.out 3 67 (by omega) _).trans rfl) rfl _ _ rfl rfl rfl ?_;intro w35 ho_ hB_;replace HL:=hid (HL.out.off ho_ (.inl rfl));replace BKr:=hid hB_;clear ho_ hB_)
    |((with_reducible refine Qa (N:=43) rfl ?_);refine Qb (Pg g 64) (Qc 108 1 (Pg g 0) (Pg g 64) (Ju g) _ rfl rfl) rfl ?_)
    |((with_reducible refine Qf (t:=106) (p:=43) rfl ?_);refine QH XC g (64) (.func (.func 123) #[] #[]) (xv (Value.int .i8) s0 [(fnv s1),Ii s2,.string s3,Ii t2,.string s5]) (xv (Value.int .i8) s0 [.func (.func 123) #[] #[],Ii s2,.string s3,Ii t2,.string s5]) BKr.out (by rw [show (xv (Value.int .i8) s0 [(fnv s1),Ii s2,.string s3,Ii t2,.string s5])=xv (Value.int .i8) s0 [(fnv s1),Ii s2,.string s3,Ii t2,.string s5] from rfl,QE,show s0.length=64 from LN_s0.out];simp) rfl rfl ((JB (n:=64) LN_s0.out 0 64 (by omega) _).trans rfl) rfl _ _ rfl rfl rfl ?_;intro w36 ho_ hB_;replace HL:=hid (HL.out.off ho_ (.inl rfl));replace BKr:=hid hB_;clear ho_ hB_))
   (try simp only [Act.put,sI,sZ,sS])
   go_ret
   exact ⟨by first|rfl|(simp;done)|(simp [*];done),LN_s0.out,(by exact BKr.out),HL.out⟩
def Xt.f(s0:List Int)(s1 s2:Int)(s3:ByteArray)(s4:Int)(s5:ByteArray)(a1:Int):Option (Bool×(List Int)×Int×Int×ByteArray×Int×ByteArray):=if a1≥97 then (some (decide (a1≤104),s0,130,s2,s3,s4,Utf8.encode a1)) else (some (false,s0,130,s2,s3,s4,Utf8.encode a1))
theorem Xt.c(s0:List Int)(s1 s2:Int)(s3:ByteArray)(s4:Int)(s5:ByteArray)(a1:Int)(hls0:s0.length=64)(r1:Bool)(q0:List Int)(q1 q2:Int)(q3:ByteArray)(q4:Int)(q5:ByteArray)(g:Nat)(w:World)(hB:Blk w g 108 (xv (Value.int .i8) s0 [(fnv s1),Ii s2,.string s3,Ii s4,.string s5]))(h:Xt.f s0 s1 s2 s3 s4 s5 a1=some (r1,q0,q1,q2,q3,q4,q5)):
 Calls Tryz.prog 123 #[Pg g 0,.int .i32 a1] w fun e w'=>e=.returned (.bool r1)∧q0.length=64∧Blk w' g 108 (xv (Value.int .i8) q0 [(fnv q1),Ii q2,.string q3,Ii q4,.string q5])∧Bex g w.heap.size w w':=by
 have LN_s0:=hid hls0
 clear hls0
 have BKr:=hid hB
 clear hB
 have HL:=hid (Bex.refl g w.heap.size w)
 have H:(if a1≥97 then (some (decide (a1≤104),s0,130,s2,s3,s4,Utf8.encode a1)) else (some (false,s0,130,s2,s3,s4,Utf8.encode a1)))=some (r1,q0,q1,q2,q3,q4,q5):=h
 clear h
 by_cases c1:a1≥97
 ·
  rw [if_pos c1] at H
  have c1b0:decide (97≤a1)=true:=decide_eq_true c1
  have hc1:=hid c1
  clear c1
  simp only [Option.some.injEq,Prod.mk.injEq] at H
  obtain ⟨rfl,rfl,rfl,rfl,rfl,rfl,rfl⟩:=H
  go_enter Tryz.func123,Tryz.ntmps123
  go_wp2_with (first
   |((with_reducible refine Qa (N:=10) rfl ?_);refine Qb (Pg g 68) (Qc 108 5 (Pg g 0) (Pg g 68) (Vc g) _ rfl rfl) rfl ?_)
   |((with_reducible refine Qf (t:=9) (p:=10) rfl ?_);refine QH sT9 g (68) (.string (Utf8.encode a1)) (xv (Value.int .i8) s0 [(fnv s1),Ii s2,.string s3,Ii s4,.string s5]) (xv (Value.int .i8) s0 [(fnv s1),Ii s2,.string s3,Ii s4,.string (Utf8.encode a1)]) BKr.out (by rw [show (xv (Value.int .i8) s0 [(fnv s1),Ii s2,.string s3,Ii s4,.string s5])=xv (Value.int .i8) s0 [(fnv s1),Ii s2,.string s3,Ii s4,.string s5] from rfl,QE,show s0.length=64 from LN_s0.out];simp) rfl rfl ((JB (n:=64) LN_s0.out 4 68 (by omega) _).trans rfl) rfl _ _ rfl rfl rfl ?_;intro w2 ho_ hB_;replace HL:=hid (HL.out.off ho_ (.inl rfl));replace BKr:=hid hB_;clear ho_ hB_)
   |((with_reducible refine Qa (N:=12) rfl ?_);refine Qb (Pg g 64) (Qc 108 1 (Pg g 0) (Pg g 64) (Ju g) _ rfl rfl) rfl ?_)
   |((with_reducible refine Qf (t:=106) (p:=12) rfl ?_);refine QH XC g (64) (.func (.func 130) #[] #[]) (xv (Value.int .i8) s0 [(fnv s1),Ii s2,.string s3,Ii s4,.string (Utf8.encode a1)]) (xv (Value.int .i8) s0 [.func (.func 130) #[] #[],Ii s2,.string s3,Ii s4,.string (Utf8.encode a1)]) BKr.out (by rw [show (xv (Value.int .i8) s0 [(fnv s1),Ii s2,.string s3,Ii s4,.string (Utf8.encode a1)])=xv (Value.int .i8) s0 [(fnv s1),Ii s2,.string s3,Ii s4,.string (Utf8.encode a1)] from rfl,QE,show s0.length=64 from LN_s0.out];simp) rfl rfl ((JB (n:=64) LN_s0.out 0 64 (by omega) _).trans rfl) rfl _ _ rfl rfl rfl ?_;intro w3 ho_ hB_;replace HL:=hid (HL.out.off ho_ (.inl rfl));replace BKr:=hid hB_;clear ho_ hB_))
  (try simp only [Act.put,sI,sZ,sS])
  go_ret
  exact ⟨by first|rfl|(simp;done)|(simp [*];done),LN_s0.out,(by exact BKr.out),HL.out⟩
 ·
  rw [if_neg c1] at H
  have c1b0:decide (97≤a1)=false:=decide_eq_false c1
  have hc1:=hid c1
  clear c1
  simp only [Option.some.injEq,Prod.mk.injEq] at H
  obtain ⟨rfl,rfl,rfl,rfl,rfl,rfl,rfl⟩:=H
  go_enter Tryz.func123,Tryz.ntmps123
  go_wp2_with (first
   |((with_reducible refine Qa (N:=10) rfl ?_);refine Qb (Pg g 68) (Qc 108 5 (Pg g 0) (Pg g 68) (Vc g) _ rfl rfl) rfl ?_)
   |((with_reducible refine Qf (t:=9) (p:=10) rfl ?_);refine QH sT9 g (68) (.string (Utf8.encode a1)) (xv (Value.int .i8) s0 [(fnv s1),Ii s2,.string s3,Ii s4,.string s5]) (xv (Value.int .i8) s0 [(fnv s1),Ii s2,.string s3,Ii s4,.string (Utf8.encode a1)]) BKr.out (by rw [show (xv (Value.int .i8) s0 [(fnv s1),Ii s2,.string s3,Ii s4,.string s5])=xv (Value.int .i8) s0 [(fnv s1),Ii s2,.string s3,Ii s4,.string s5] from rfl,QE,show s0.length=64 from LN_s0.out];simp) rfl rfl ((JB (n:=64) LN_s0.out 4 68 (by omega) _).trans rfl) rfl _ _ rfl rfl rfl ?_;intro w4 ho_ hB_;replace HL:=hid (HL.out.off ho_ (.inl rfl));replace BKr:=hid hB_;clear ho_ hB_)
   |((with_reducible refine Qa (N:=12) rfl ?_);refine Qb (Pg g 64) (Qc 108 1 (Pg g 0) (Pg g 64) (Ju g) _ rfl rfl) rfl ?_)
   |((with_reducible refine Qf (t:=106) (p:=12) rfl ?_);refine QH XC g (64) (.func (.func 130) #[] #[]) (xv (Value.int .i8) s0 [(fnv s1),Ii s2,.string s3,Ii s4,.string (Utf8.encode a1)]) (xv (Value.int .i8) s0 [.func (.func 130) #[] #[],Ii s2,.string s3,Ii s4,.string (Utf8.encode a1)]) BKr.out (by rw [show (xv (Value.int .i8) s0 [(fnv s1),Ii s2,.string s3,Ii s4,.string (Utf8.encode a1)])=xv (Value.int .i8) s0 [(fnv s1),Ii s2,.string s3,Ii s4,.string (Utf8.encode a1)] from rfl,QE,show s0.length=64 from LN_s0.out];simp) rfl rfl ((JB (n:=64) LN_s0.out 0 64 (by omega) _).trans rfl) rfl _ _ rfl rfl rfl ?_;intro w5 ho_ hB_;replace HL:=hid (HL.out.off ho_ (.inl rfl));replace BKr:=hid hB_;clear ho_ hB_))
  (try simp only [Act.put,sI,sZ,sS])
  go_ret
  exact ⟨by first|rfl|(simp;done)|(simp [*];done),LN_s0.out,(by exact BKr.out),HL.out⟩
def Xu.f(k:Nat)(s0:List Int)(s1 s2:Int)(s3:ByteArray)(s4:Int)(s5:ByteArray)(a1:Int):Option (Bool×(List Int)×Int×Int×ByteArray×Int×ByteArray):=if s5.size+(Utf8.encode a1).size≤9223372036854775807 then ((Qm.f k (s5++(Utf8.encode a1))).bind fun bt1=>(if bt1.2=true then (if 0≤bt1.1 then (if bt1.1<64 then (if (nt s0 bt1.1.toNat 0)=0 then (some (true,s0.set bt1.1.toNat (IntKind.i8.wrap (s4)),91,s2,s3,s4,s5)) else (some (false,s0,s1,s2,s3,s4,s5))) else (none)) else (none)) else (some (false,s0,s1,s2,s3,s4,s5)))) else (none)
theorem Xu.c(k:Nat)(s0:List Int)(s1 s2:Int)(s3:ByteArray)(s4:Int)(s5:ByteArray)(a1:Int)(hls0:s0.length=64)(r1:Bool)(q0:List Int)(q1 q2:Int)(q3:ByteArray)(q4:Int)(q5:ByteArray)(g:Nat)(w:World)(hB:Blk w g 108 (xv (Value.int .i8) s0 [(fnv s1),Ii s2,.string s3,Ii s4,.string s5]))(h:Xu.f k s0 s1 s2 s3 s4 s5 a1=some (r1,q0,q1,q2,q3,q4,q5)):
 Calls Tryz.prog 130 #[Pg g 0,.int .i32 a1] w fun e w'=>e=.returned (.bool r1)∧q0.length=64∧Blk w' g 108 (xv (Value.int .i8) q0 [(fnv q1),Ii q2,.string q3,Ii q4,.string q5])∧Bex g w.heap.size w w':=by
 have LN_s0:=hid hls0
 clear hls0
 have BKr:=hid hB
 clear hB
 have HL:=hid (Bex.refl g w.heap.size w)
 have H:(if s5.size+(Utf8.encode a1).size≤9223372036854775807 then ((Qm.f k (s5++(Utf8.encode a1))).bind fun bt1=>(if bt1.2=true then (if 0≤bt1.1 then (if bt1.1<64 then (if (nt s0 bt1.1.toNat 0)=0 then (some (true,s0.set bt1.1.toNat (IntKind.i8.wrap (s4)),91,s2,s3,s4,s5)) else (some (false,s0,s1,s2,s3,s4,s5))) else (none)) else (none)) else (some (false,s0,s1,s2,s3,s4,s5)))) else (none))=some (r1,q0,q1,q2,q3,q4,q5):=h
 clear h
 by_cases c3:s5.size+(Utf8.encode a1).size≤9223372036854775807
 ·
  rw [if_pos c3] at H
  have hc3:=hid c3
  clear c3
  replace H:=Ia H
  obtain ⟨⟨t1,t2⟩,A4_,H⟩:=H
  dsimp only at H
  have A4:=hid A4_
  clear A4_
  cases t2 with
  |true=>
   rw [if_pos rfl] at H
   by_cases c6:0≤t1
   ·
    rw [if_pos c6] at H
    have c6b0:decide (0≤t1)=true:=decide_eq_true c6
    have hc6:=hid c6
    clear c6
    by_cases c7:t1<64
    ·
     rw [if_pos c7] at H
     have c7b0:decide (t1<64)=true:=decide_eq_true c7
     have hc7:=hid c7
     clear c7
     by_cases c8:(nt s0 t1.toNat 0)=0
     ·
      rw [if_pos c8] at H
      have c8b0:((nt s0 t1.toNat 0)==0)=true:=beq_iff_eq.mpr c8
      have c8b1:((nt s0 t1.toNat 0) != 0)=false:=bne_eq_false_iff_eq.mpr c8
      have hc8:=hid c8
      clear c8
      simp only [Option.some.injEq,Prod.mk.injEq] at H
      obtain ⟨rfl,rfl,rfl,rfl,rfl,rfl,rfl⟩:=H
      go_enter Tryz.func130,Tryz.ntmps130
      have k9:=True.intro
      go_wp2_with (first
       |((with_reducible refine Qa (N:=10) rfl ?_);refine Qb (Pg g 68) (Qc 108 5 (Pg g 0) (Pg g 68) (Vc g) _ rfl rfl) rfl ?_)
       |((with_reducible refine Qa (N:=11) rfl ?_);refine Qb (.string s5) (Qd sT9 g (68) (.string s5) ((xv (Value.int .i8) s0 [(fnv s1),Ii s2,.string s3,Ii s4,.string s5])) BKr.out ((Qi (n:=64) LN_s0.out 4 68 (by omega)).trans rfl) _ rfl rfl) rfl ?_)
       |((with_reducible refine Qa (N:=14) rfl ?_);refine Qb (.string (s5++(Utf8.encode a1))) (Jy 9 s5 (Utf8.encode a1) hc3.out _ _ _ rfl rfl rfl) rfl ?_)
       |(go_at_call 68;clear k9;refine (Qm.c k (s5++(Utf8.encode a1)) t1 true _ A4.out).mono ?_;rintro e_ w10 ⟨rfl,hb_⟩;replace BKr:=hid (BKr.out.below hb_ BKr.out.lt);replace HL:=hid (HL.out.below hb_ HL.out.size);clear hb_)
       |((with_reducible refine Qa (N:=24) rfl ?_);refine Qb (Pg g 0) (Qc 108 0 (Pg g 0) (Pg g 0) (VO g) _ rfl rfl) rfl ?_)
       |((with_reducible refine Qa (N:=25) rfl ?_);refine Qb (.pointer (some ⟨g,t1.toNat,none⟩)) (KZ 24 (Pg g 0) (Ii t1) (.pointer (some ⟨g,t1.toNat,none⟩)) (fun w_=>(Xy 22 qX KQ.size g 0 t1 hc6.out hc7.out w_).trans (by simp)) _ _ rfl rfl rfl) rfl ?_)
       |((with_reducible refine Qa (N:=26) rfl ?_);refine Qb (.int .i8 (nt s0 t1.toNat 0)) (Qd KQ g (t1.toNat) (.int .i8 (nt s0 t1.toNat 0)) ((xv (Value.int .i8) s0 [(fnv s1),Ii s2,.string s3,Ii s4,.string s5])) BKr.out (vG 0 (by have h_:s0.length=64:=LN_s0.out;have h1_:=hc6.out;have h2_:=hc7.out;omega)) _ rfl rfl) rfl ?_))
      (try simp only [Act.put,sI,sZ,sS])
      have WR64:=Zs
      have WR32:=ZA
      have WR8:=Ko
      have WRU:=ZY
      refine QL (fun z_=>Bex g w.heap.size w z_∧Blk z_ g 108 (xv (Value.int .i8) s0 [(fnv s1),Ii s2,.string s3,Ii s4,.string s5])∧True) [11,14] [(0,2),(1,2),(2,2),(3,2),(4,2),(5,2),(6,1),(7,2),(8,2),(9,2),(10,2),(11,0),(12,2),(13,2),(14,0)] (by kernel_rfl) (by kernel_rfl) (by kernel_rfl) rfl ?_
      intro w11 hb_
      replace BKr:=hid (BKr.out.below hb_ BKr.out.lt)
      replace HL:=hid (HL.out.below hb_ HL.out.size)
      clear hb_
      refine Qe (Pg g 0) rfl (fun z_=>Qo (.tmp 0) (.inl rfl) _ rfl) rfl rfl ?_
      intro t_ k_;simp only [sI,sZ,sS] at k_;subst k_
      refine Qe (Ii t1) rfl (fun z_=>Qo (.tmp 5) (.inl rfl) _ rfl) rfl rfl ?_
      intro t_ k_;simp only [sI,sZ,sS] at k_;subst k_
      refine Qe (Pg g 0) rfl (fun z_=>Qo (.tmp 0) (.inl rfl) _ rfl) rfl rfl ?_
      intro t_ k_;simp only [sI,sZ,sS] at k_;subst k_
      refine Qe (Pg g 0) rfl (fun z_=>Qo (.tmp 0) (.inl rfl) _ rfl) rfl rfl ?_
      intro t_ k_;simp only [sI,sZ,sS] at k_;subst k_
      refine Qe (Pg g 0) rfl (fun z_=>by go_simp <;> (unfold wrap64;omega)) rfl rfl ?_
      intro t_ k_;simp only [sI,sZ,sS] at k_;subst k_
      refine Qe (Pg g 67) rfl (fun z_=>Qc 108 4 (Pg g 0) (Pg g 67) (Kj g) _ rfl rfl) rfl rfl ?_
      intro t_ k_;simp only [sI,sZ,sS] at k_;subst k_
      refine QA (Ii s4) ⟨HL.out,BKr.out,trivial⟩ rfl (fun z_ hS_=>Qd sT3 g (67) (Ii s4) ((xv (Value.int .i8) s0 [(fnv s1),Ii s2,.string s3,Ii s4,.string s5])) hS_.2.1 ((Qi (n:=64) LN_s0.out 3 67 (by omega)).trans rfl) _ rfl rfl) rfl rfl ?_
      intro t_ k_;simp only [sI,sZ,sS] at k_;subst k_
      refine Qe (.int .i8 (IntKind.i8.wrap (s4))) rfl (fun z_=>by go_simp <;> (unfold wrap64;omega)) rfl rfl ?_
      intro t_ k_;simp only [sI,sZ,sS] at k_;subst k_
      refine Qe (Pg g 0) rfl (fun z_=>by go_simp <;> (unfold wrap64;omega)) rfl rfl ?_
      intro t_ k_;simp only [sI,sZ,sS] at k_;subst k_
      refine Qe (Pg g 0) rfl (fun z_=>Qc 108 0 (Pg g 0) (Pg g 0) (VO g) _ rfl rfl) rfl rfl ?_
      intro t_ k_;simp only [sI,sZ,sS] at k_;subst k_
      refine Qe (.pointer (some ⟨g,t1.toNat,none⟩)) rfl (fun z_=>KZ 24 (Pg g 0) (Ii t1) (.pointer (some ⟨g,t1.toNat,none⟩)) (fun w_=>(Xy 22 qX KQ.size g 0 t1 hc6.out hc7.out w_).trans (by simp)) _ _ rfl rfl rfl) rfl rfl ?_
      intro t_ k_;simp only [sI,sZ,sS] at k_;subst k_
      refine QV rfl (fun Q'_ hQ_=>?_)
      (with_reducible refine Qf (t:=22) (p:=39) rfl ?_)
      refine QH KQ g (t1.toNat) (.int .i8 (IntKind.i8.wrap (s4))) (xv (Value.int .i8) s0 [(fnv s1),Ii s2,.string s3,Ii s4,.string s5]) (xv (Value.int .i8) (s0.set t1.toNat (IntKind.i8.wrap (s4))) [(fnv s1),Ii s2,.string s3,Ii s4,.string s5]) BKr.out (by rw [show (xv (Value.int .i8) s0 [(fnv s1),Ii s2,.string s3,Ii s4,.string s5])=xv (Value.int .i8) s0 [(fnv s1),Ii s2,.string s3,Ii s4,.string s5] from rfl,QE];have hlt_:t1.toNat<s0.length:=(by have h_:s0.length=64:=LN_s0.out;have h1_:=hc6.out;have h2_:=hc7.out;omega);simp;omega) rfl rfl (vF (by have h_:s0.length=64:=LN_s0.out;have h1_:=hc6.out;have h2_:=hc7.out;omega) _) rfl _ _ rfl rfl rfl ?_
      intro w12 ho_ hB_
      replace HL:=hid (HL.out.off ho_ (.inl rfl))
      replace BKr:=hid hB_
      clear ho_ hB_
      refine Qz ?_
      refine hQ_ _ _ (fun h_=>absurd h_ (by decide)) ?_
      clear hQ_ Q'_
      simp only [Act.put]
      refine Qe (Pg g 0) rfl (fun z_=>by go_simp <;> (unfold wrap64;omega)) rfl rfl ?_
      intro t_ k_;simp only [sI,sZ,sS] at k_;subst k_
      refine Qe (Pg g 64) rfl (fun z_=>Qc 108 1 (Pg g 0) (Pg g 64) (Ju g) _ rfl rfl) rfl rfl ?_
      intro t_ k_;simp only [sI,sZ,sS] at k_;subst k_
      refine QV rfl (fun Q'_ hQ_=>?_)
      (with_reducible refine Qf (t:=106) (p:=41) rfl ?_)
      refine QH XC g (64) (.func (.func 91) #[] #[]) (xv (Value.int .i8) (s0.set t1.toNat (IntKind.i8.wrap (s4))) [(fnv s1),Ii s2,.string s3,Ii s4,.string s5]) (xv (Value.int .i8) (s0.set t1.toNat (IntKind.i8.wrap (s4))) [.func (.func 91) #[] #[],Ii s2,.string s3,Ii s4,.string s5]) BKr.out (by rw [show (xv (Value.int .i8) (s0.set t1.toNat (IntKind.i8.wrap (s4))) [(fnv s1),Ii s2,.string s3,Ii s4,.string s5])=xv (Value.int .i8) (s0.set t1.toNat (IntKind.i8.wrap (s4))) [(fnv s1),Ii s2,.string s3,Ii s4,.string s5] from rfl,QE,show (s0.set t1.toNat (IntKind.i8.wrap (s4))).length=64 from (by first|rfl|(simp only [List.length_set,List.length_replicate,Qh,List.length_cons,List.length_nil,LN_s0.out];done)|(simp [Qh,LN_s0.out];done))];simp) rfl rfl ((JB (n:=64) (by first|rfl|(simp only [List.length_set,List.length_replicate,Qh,List.length_cons,List.length_nil,LN_s0.out];done)|(simp [Qh,LN_s0.out];done)) 0 64 (by omega) _).trans rfl) rfl _ _ rfl rfl rfl ?_
      intro w13 ho_ hB_
      replace HL:=hid (HL.out.off ho_ (.inl rfl))
      replace BKr:=hid hB_
      clear ho_ hB_
      refine Qz ?_
      refine hQ_ _ _ (fun h_=>absurd h_ (by decide)) ?_
      clear hQ_ Q'_
      simp only [Act.put]
      refine JH ?_
      clear WR64 WR32 WR8 WRU
      go_wp2_with fail
      (try simp only [Act.put,sI,sZ,sS])
      go_ret
      exact ⟨by first|rfl|(simp;done)|(simp [*];done),(by first|rfl|(simp only [List.length_set,List.length_replicate,Qh,List.length_cons,List.length_nil,LN_s0.out];done)|(simp [Qh,LN_s0.out];done)),(by exact BKr.out),HL.out⟩
     ·
      rw [if_neg c8] at H
      have c8b0:((nt s0 t1.toNat 0)==0)=false:=beq_eq_false_iff_ne.mpr c8
      have c8b1:((nt s0 t1.toNat 0) != 0)=true:=bne_iff_ne.mpr c8
      have hc8:=hid c8
      clear c8
      simp only [Option.some.injEq,Prod.mk.injEq] at H
      obtain ⟨rfl,rfl,rfl,rfl,rfl,rfl,rfl⟩:=H
      go_enter Tryz.func130,Tryz.ntmps130
      have k14:=True.intro
      go_wp2_with (first
       |((with_reducible refine Qa (N:=10) rfl ?_);refine Qb (Pg g 68) (Qc 108 5 (Pg g 0) (Pg g 68) (Vc g) _ rfl rfl) rfl ?_)
       |((with_reducible refine Qa (N:=11) rfl ?_);refine Qb (.string s5) (Qd sT9 g (68) (.string s5) ((xv (Value.int .i8) s0 [(fnv s1),Ii s2,.string s3,Ii s4,.string s5])) BKr.out ((Qi (n:=64) LN_s0.out 4 68 (by omega)).trans rfl) _ rfl rfl) rfl ?_)
       |((with_reducible refine Qa (N:=14) rfl ?_);refine Qb (.string (s5++(Utf8.encode a1))) (Jy 9 s5 (Utf8.encode a1) hc3.out _ _ _ rfl rfl rfl) rfl ?_)
       |(go_at_call 68;clear k14;refine (Qm.c k (s5++(Utf8.encode a1)) t1 true _ A4.out).mono ?_;rintro e_ w15 ⟨rfl,hb_⟩;replace BKr:=hid (BKr.out.below hb_ BKr.out.lt);replace HL:=hid (HL.out.below hb_ HL.out.size);clear hb_)
       |((with_reducible refine Qa (N:=24) rfl ?_);refine Qb (Pg g 0) (Qc 108 0 (Pg g 0) (Pg g 0) (VO g) _ rfl rfl) rfl ?_)
       |((with_reducible refine Qa (N:=25) rfl ?_);refine Qb (.pointer (some ⟨g,t1.toNat,none⟩)) (KZ 24 (Pg g 0) (Ii t1) (.pointer (some ⟨g,t1.toNat,none⟩)) (fun w_=>(Xy 22 qX KQ.size g 0 t1 hc6.out hc7.out w_).trans (by simp)) _ _ rfl rfl rfl) rfl ?_)
       |((with_reducible refine Qa (N:=26) rfl ?_);refine Qb (.int .i8 (nt s0 t1.toNat 0)) (Qd KQ g (t1.toNat) (.int .i8 (nt s0 t1.toNat 0)) ((xv (Value.int .i8) s0 [(fnv s1),Ii s2,.string s3,Ii s4,.string s5])) BKr.out (vG 0 (by have h_:s0.length=64:=LN_s0.out;have h1_:=hc6.out;have h2_:=hc7.out;omega)) _ rfl rfl) rfl ?_))
      (try simp only [Act.put,sI,sZ,sS])
      go_ret
      exact ⟨by first|rfl|(simp;done)|(simp [*];done),LN_s0.out,(by exact BKr.out),HL.out⟩
    ·
     rw [if_neg c7] at H
     exact absurd H (by simp)
   ·
    rw [if_neg c6] at H
    exact absurd H (by simp)
  |false=>
   rw [if_neg (show ¬ (false=true) by decide)] at H
   simp only [Option.some.injEq,Prod.mk.injEq] at H
   obtain ⟨rfl,rfl,rfl,rfl,rfl,rfl,rfl⟩:=H
   go_enter Tryz.func130,Tryz.ntmps130
   have k16:=True.intro
   go_wp2_with (first
    |((with_reducible refine Qa (N:=10) rfl ?_);refine Qb (Pg g 68) (Qc 108 5 (Pg g 0) (Pg g 68) (Vc g) _ rfl rfl) rfl ?_)
    |((with_reducible refine Qa (N:=11) rfl ?_);refine Qb (.string s5) (Qd sT9 g (68) (.string s5) ((xv (Value.int .i8) s0 [(fnv s1),Ii s2,.string s3,Ii s4,.string s5])) BKr.out ((Qi (n:=64) LN_s0.out 4 68 (by omega)).trans rfl) _ rfl rfl) rfl ?_)
    |((with_reducible refine Qa (N:=14) rfl ?_);refine Qb (.string (s5++(Utf8.encode a1))) (Jy 9 s5 (Utf8.encode a1) hc3.out _ _ _ rfl rfl rfl) rfl ?_)
    |(go_at_call 68;clear k16;refine (Qm.c k (s5++(Utf8.encode a1)) t1 false _ A4.out).mono ?_;rintro e_ w17 ⟨rfl,hb_⟩;replace BKr:=hid (BKr.out.below hb_ BKr.out.lt);replace HL:=hid (HL.out.below hb_ HL.out.size);clear hb_))
   (try simp only [Act.put,sI,sZ,sS])
   go_ret
   exact ⟨by first|rfl|(simp;done)|(simp [*];done),LN_s0.out,(by exact BKr.out),HL.out⟩
 ·
  rw [if_neg c3] at H
  exact absurd H (by simp)
def Zd.f(s0:List Int)(s1 s2:Int)(s3:ByteArray)(s4:Int)(s5 a1:ByteArray):Option (Bool):=if s2=1 then (if s3.toList=([]:List UInt8) then (if 0≤(wrap64 ((a1.size:Int)-1)) then (if (wrap64 ((a1.size:Int)-1))<(a1.size:Int) then (if (bt a1 (wrap64 ((a1.size:Int)-1)).toNat)=107 then (some true) else (if (bt a1 (wrap64 ((a1.size:Int)-1)).toNat)≥49 then (some (decide ((bt a1 (wrap64 ((a1.size:Int)-1)).toNat)≤56))) else (some false))) else (none)) else (none)) else (some false)) else (some false)
theorem Zd.c(s0:List Int)(s1 s2:Int)(s3:ByteArray)(s4:Int)(s5 a1:ByteArray)(hls0:s0.length=64)(r1:Bool)(g:Nat)(w:World)(hB:Blk w g 108 (xv (Value.int .i8) s0 [(fnv s1),Ii s2,.string s3,Ii s4,.string s5]))(h:Zd.f s0 s1 s2 s3 s4 s5 a1=some r1):
 Calls Tryz.prog 73 #[Pg g 0,.string a1] w fun e w'=>e=.returned (.bool r1)∧w=w':=by
 have LN_s0:=hid hls0
 clear hls0
 have BKr:=hid hB
 clear hB
 have H:(if s2=1 then (if s3.toList=([]:List UInt8) then (if 0≤(wrap64 ((a1.size:Int)-1)) then (if (wrap64 ((a1.size:Int)-1))<(a1.size:Int) then (if (bt a1 (wrap64 ((a1.size:Int)-1)).toNat)=107 then (some true) else (if (bt a1 (wrap64 ((a1.size:Int)-1)).toNat)≥49 then (some (decide ((bt a1 (wrap64 ((a1.size:Int)-1)).toNat)≤56))) else (some false))) else (none)) else (none)) else (some false)) else (some false))=some r1:=h
 clear h
 by_cases c1:s2=1
 ·
  rw [if_pos c1] at H
  have c1b0:(s2==1)=true:=beq_iff_eq.mpr c1
  have c1b1:(s2 != 1)=false:=bne_eq_false_iff_eq.mpr c1
  have hc1:=hid c1
  clear c1
  by_cases c2:s3.toList=([]:List UInt8)
  ·
   rw [if_pos c2] at H
   have c2b0:(s3.toList==([]:List UInt8))=true:=beq_iff_eq.mpr c2
   have c2b1:(s3.toList != ([]:List UInt8))=false:=bne_eq_false_iff_eq.mpr c2
   have hc2:=hid c2
   clear c2
   by_cases c3:0≤(wrap64 ((a1.size:Int)-1))
   ·
    rw [if_pos c3] at H
    have c3b0:decide (0≤(wrap64 ((a1.size:Int)-1)))=true:=decide_eq_true c3
    have hc3:=hid c3
    clear c3
    by_cases c4:(wrap64 ((a1.size:Int)-1))<(a1.size:Int)
    ·
     rw [if_pos c4] at H
     have c4b0:decide ((wrap64 ((a1.size:Int)-1))<(a1.size:Int))=true:=decide_eq_true c4
     have hc4:=hid c4
     clear c4
     by_cases c5:(bt a1 (wrap64 ((a1.size:Int)-1)).toNat)=107
     ·
      rw [if_pos c5] at H
      have c5b0:((bt a1 (wrap64 ((a1.size:Int)-1)).toNat)==107)=true:=beq_iff_eq.mpr c5
      have c5b1:((bt a1 (wrap64 ((a1.size:Int)-1)).toNat) != 107)=false:=bne_eq_false_iff_eq.mpr c5
      have hc5:=hid c5
      clear c5
      obtain rfl:=Option.some.inj H
      clear H
      go_enter Tryz.func73,Tryz.ntmps73
      go_wp2_with (first
       |((with_reducible refine Qa (N:=8) rfl ?_);refine Qb (Pg g 65) (Qc 108 2 (Pg g 0) (Pg g 65) (ZN g) _ rfl rfl) rfl ?_)
       |((with_reducible refine Qa (N:=9) rfl ?_);refine Qb (Ii s2) (Qd sT3 g (65) (Ii s2) ((xv (Value.int .i8) s0 [(fnv s1),Ii s2,.string s3,Ii s4,.string s5])) BKr.out ((Qi (n:=64) LN_s0.out 1 65 (by omega)).trans rfl) _ rfl rfl) rfl ?_)
       |((with_reducible refine Qa (N:=14) rfl ?_);refine Qb (Pg g 66) (Qc 108 3 (Pg g 0) (Pg g 66) (Zm g) _ rfl rfl) rfl ?_)
       |((with_reducible refine Qa (N:=15) rfl ?_);refine Qb (.string s3) (Qd sT9 g (66) (.string s3) ((xv (Value.int .i8) s0 [(fnv s1),Ii s2,.string s3,Ii s4,.string s5])) BKr.out ((Qi (n:=64) LN_s0.out 2 66 (by omega)).trans rfl) _ rfl rfl) rfl ?_)
       |((with_reducible refine Qa (N:=22) rfl ?_);refine Qb (.int .u8 (bt a1 (wrap64 ((a1.size:Int)-1)).toNat)) (XW 9 (.string a1) (Ii (wrap64 ((a1.size:Int)-1))) (.int .u8 (bt a1 (wrap64 ((a1.size:Int)-1)).toNat)) (KD a1 (wrap64 ((a1.size:Int)-1)) hc3.out hc4.out) _ _ rfl rfl rfl) rfl ?_))
      (try simp only [Act.put,sI,sZ,sS])
      go_ret
      exact ⟨by first|rfl|(simp;done)|(simp [*];done),rfl⟩
     ·
      rw [if_neg c5] at H
      have c5b0:((bt a1 (wrap64 ((a1.size:Int)-1)).toNat)==107)=false:=beq_eq_false_iff_ne.mpr c5
      have c5b1:((bt a1 (wrap64 ((a1.size:Int)-1)).toNat) != 107)=true:=bne_iff_ne.mpr c5
      have hc5:=hid c5
      clear c5
      by_cases c6:(bt a1 (wrap64 ((a1.size:Int)-1)).toNat)≥49
      ·
       rw [if_pos c6] at H
       have c6b0:decide (49≤(bt a1 (wrap64 ((a1.size:Int)-1)).toNat))=true:=decide_eq_true c6
       have hc6:=hid c6
       clear c6
       obtain rfl:=Option.some.inj H
       clear H
       go_enter Tryz.func73,Tryz.ntmps73
       go_wp2_with (first
        |((with_reducible refine Qa (N:=8) rfl ?_);refine Qb (Pg g 65) (Qc 108 2 (Pg g 0) (Pg g 65) (ZN g) _ rfl rfl) rfl ?_)
        |((with_reducible refine Qa (N:=9) rfl ?_);refine Qb (Ii s2) (Qd sT3 g (65) (Ii s2) ((xv (Value.int .i8) s0 [(fnv s1),Ii s2,.string s3,Ii s4,.string s5])) BKr.out ((Qi (n:=64) LN_s0.out 1 65 (by omega)).trans rfl) _ rfl rfl) rfl ?_)
        |((with_reducible refine Qa (N:=14) rfl ?_);refine Qb (Pg g 66) (Qc 108 3 (Pg g 0) (Pg g 66) (Zm g) _ rfl rfl) rfl ?_)
        |((with_reducible refine Qa (N:=15) rfl ?_);refine Qb (.string s3) (Qd sT9 g (66) (.string s3) ((xv (Value.int .i8) s0 [(fnv s1),Ii s2,.string s3,Ii s4,.string s5])) BKr.out ((Qi (n:=64) LN_s0.out 2 66 (by omega)).trans rfl) _ rfl rfl) rfl ?_)
        |((with_reducible refine Qa (N:=22) rfl ?_);refine Qb (.int .u8 (bt a1 (wrap64 ((a1.size:Int)-1)).toNat)) (XW 9 (.string a1) (Ii (wrap64 ((a1.size:Int)-1))) (.int .u8 (bt a1 (wrap64 ((a1.size:Int)-1)).toNat)) (KD a1 (wrap64 ((a1.size:Int)-1)) hc3.out hc4.out) _ _ rfl rfl rfl) rfl ?_))
       (try simp only [Act.put,sI,sZ,sS])
       go_ret
       exact ⟨by first|rfl|(simp;done)|(simp [*];done),rfl⟩
      ·
       rw [if_neg c6] at H
       have c6b0:decide (49≤(bt a1 (wrap64 ((a1.size:Int)-1)).toNat))=false:=decide_eq_false c6
       have hc6:=hid c6
       clear c6
       obtain rfl:=Option.some.inj H
       clear H
       go_enter Tryz.func73,Tryz.ntmps73
       go_wp2_with (first
        |((with_reducible refine Qa (N:=8) rfl ?_);refine Qb (Pg g 65) (Qc 108 2 (Pg g 0) (Pg g 65) (ZN g) _ rfl rfl) rfl ?_)
        |((with_reducible refine Qa (N:=9) rfl ?_);refine Qb (Ii s2) (Qd sT3 g (65) (Ii s2) ((xv (Value.int .i8) s0 [(fnv s1),Ii s2,.string s3,Ii s4,.string s5])) BKr.out ((Qi (n:=64) LN_s0.out 1 65 (by omega)).trans rfl) _ rfl rfl) rfl ?_)
        |((with_reducible refine Qa (N:=14) rfl ?_);refine Qb (Pg g 66) (Qc 108 3 (Pg g 0) (Pg g 66) (Zm g) _ rfl rfl) rfl ?_)
        |((with_reducible refine Qa (N:=15) rfl ?_);refine Qb (.string s3) (Qd sT9 g (66) (.string s3) ((xv (Value.int .i8) s0 [(fnv s1),Ii s2,.string s3,Ii s4,.string s5])) BKr.out ((Qi (n:=64) LN_s0.out 2 66 (by omega)).trans rfl) _ rfl rfl) rfl ?_)
        |((with_reducible refine Qa (N:=22) rfl ?_);refine Qb (.int .u8 (bt a1 (wrap64 ((a1.size:Int)-1)).toNat)) (XW 9 (.string a1) (Ii (wrap64 ((a1.size:Int)-1))) (.int .u8 (bt a1 (wrap64 ((a1.size:Int)-1)).toNat)) (KD a1 (wrap64 ((a1.size:Int)-1)) hc3.out hc4.out) _ _ rfl rfl rfl) rfl ?_))
       (try simp only [Act.put,sI,sZ,sS])
       go_ret
       exact ⟨by first|rfl|(simp;done)|(simp [*];done),rfl⟩
    ·
     rw [if_neg c4] at H
     exact absurd H (by simp)
   ·
    rw [if_neg c3] at H
    exact absurd H (by simp)
  ·
   rw [if_neg c2] at H
   have c2b0:(s3.toList==([]:List UInt8))=false:=beq_eq_false_iff_ne.mpr c2
   have c2b1:(s3.toList != ([]:List UInt8))=true:=bne_iff_ne.mpr c2
   have hc2:=hid c2
   clear c2
   obtain rfl:=Option.some.inj H
   clear H
   go_enter Tryz.func73,Tryz.ntmps73
   go_wp2_with (first
    |((with_reducible refine Qa (N:=8) rfl ?_);refine Qb (Pg g 65) (Qc 108 2 (Pg g 0) (Pg g 65) (ZN g) _ rfl rfl) rfl ?_)
    |((with_reducible refine Qa (N:=9) rfl ?_);refine Qb (Ii s2) (Qd sT3 g (65) (Ii s2) ((xv (Value.int .i8) s0 [(fnv s1),Ii s2,.string s3,Ii s4,.string s5])) BKr.out ((Qi (n:=64) LN_s0.out 1 65 (by omega)).trans rfl) _ rfl rfl) rfl ?_)
    |((with_reducible refine Qa (N:=14) rfl ?_);refine Qb (Pg g 66) (Qc 108 3 (Pg g 0) (Pg g 66) (Zm g) _ rfl rfl) rfl ?_)
    |((with_reducible refine Qa (N:=15) rfl ?_);refine Qb (.string s3) (Qd sT9 g (66) (.string s3) ((xv (Value.int .i8) s0 [(fnv s1),Ii s2,.string s3,Ii s4,.string s5])) BKr.out ((Qi (n:=64) LN_s0.out 2 66 (by omega)).trans rfl) _ rfl rfl) rfl ?_))
   (try simp only [Act.put,sI,sZ,sS])
   go_ret
   exact ⟨by first|rfl|(simp;done)|(simp [*];done),rfl⟩
 ·
  rw [if_neg c1] at H
  have c1b0:(s2==1)=false:=beq_eq_false_iff_ne.mpr c1
  have c1b1:(s2 != 1)=true:=bne_iff_ne.mpr c1
  have hc1:=hid c1
  clear c1
  obtain rfl:=Option.some.inj H
  clear H
  go_enter Tryz.func73,Tryz.ntmps73
  go_wp2_with (first
   |((with_reducible refine Qa (N:=8) rfl ?_);refine Qb (Pg g 65) (Qc 108 2 (Pg g 0) (Pg g 65) (ZN g) _ rfl rfl) rfl ?_)
   |((with_reducible refine Qa (N:=9) rfl ?_);refine Qb (Ii s2) (Qd sT3 g (65) (Ii s2) ((xv (Value.int .i8) s0 [(fnv s1),Ii s2,.string s3,Ii s4,.string s5])) BKr.out ((Qi (n:=64) LN_s0.out 1 65 (by omega)).trans rfl) _ rfl rfl) rfl ?_))
  (try simp only [Act.put,sI,sZ,sS])
  go_ret
  exact ⟨by first|rfl|(simp;done)|(simp [*];done),rfl⟩
def QW.l0:Nat→ByteArray→List Int→Int→Int→ByteArray→Int→ByteArray→Nat→Option ((List Int)×Int×Int)
 |0,_,_,_,_,_,_,_,_=>none
 |k+1,a0,yb2_0_0,yb2_1_0,yb2_2_0,yb2_3_0,yb2_4_0,yb2_5_0,yb3_0_0=>if yb3_0_0<a0.size then (if yb2_1_0=72 then ((Xc.f yb2_0_0 yb2_1_0 yb2_2_0 yb2_3_0 yb2_4_0 yb2_5_0 ((Utf8.decode a0 yb3_0_0).1:Int)).bind fun bt40=>(if bt40.1=true then (QW.l0 k a0 bt40.2.1 bt40.2.2.1 bt40.2.2.2.1 bt40.2.2.2.2.1 bt40.2.2.2.2.2.1 bt40.2.2.2.2.2.2 (yb3_0_0+(Utf8.decode a0 yb3_0_0).2)) else (some (zL,(yb3_0_0:Int),2)))) else (if yb2_1_0=91 then ((Xd.f yb2_0_0 yb2_1_0 yb2_2_0 yb2_3_0 yb2_4_0 yb2_5_0 ((Utf8.decode a0 yb3_0_0).1:Int)).bind fun bt47=>(if bt47.1=true then (QW.l0 k a0 bt47.2.1 bt47.2.2.1 bt47.2.2.2.1 bt47.2.2.2.2.1 bt47.2.2.2.2.2.1 bt47.2.2.2.2.2.2 (yb3_0_0+(Utf8.decode a0 yb3_0_0).2)) else (some (zL,(yb3_0_0:Int),2)))) else (if yb2_1_0=106 then ((ZI.f yb2_0_0 yb2_1_0 yb2_2_0 yb2_3_0 yb2_4_0 yb2_5_0 ((Utf8.decode a0 yb3_0_0).1:Int)).bind fun bt54=>(if bt54.1=true then (QW.l0 k a0 bt54.2.1 bt54.2.2.1 bt54.2.2.2.1 bt54.2.2.2.2.1 bt54.2.2.2.2.2.1 bt54.2.2.2.2.2.2 (yb3_0_0+(Utf8.decode a0 yb3_0_0).2)) else (some (zL,(yb3_0_0:Int),2)))) else (if yb2_1_0=123 then ((Xt.f yb2_0_0 yb2_1_0 yb2_2_0 yb2_3_0 yb2_4_0 yb2_5_0 ((Utf8.decode a0 yb3_0_0).1:Int)).bind fun bt61=>(if bt61.1=true then (QW.l0 k a0 bt61.2.1 bt61.2.2.1 bt61.2.2.2.1 bt61.2.2.2.2.1 bt61.2.2.2.2.2.1 bt61.2.2.2.2.2.2 (yb3_0_0+(Utf8.decode a0 yb3_0_0).2)) else (some (zL,(yb3_0_0:Int),2)))) else (if yb2_1_0=130 then ((Xu.f k yb2_0_0 yb2_1_0 yb2_2_0 yb2_3_0 yb2_4_0 yb2_5_0 ((Utf8.decode a0 yb3_0_0).1:Int)).bind fun bt68=>(if bt68.1=true then (QW.l0 k a0 bt68.2.1 bt68.2.2.1 bt68.2.2.2.1 bt68.2.2.2.2.1 bt68.2.2.2.2.2.1 bt68.2.2.2.2.2.2 (yb3_0_0+(Utf8.decode a0 yb3_0_0).2)) else (some (zL,(yb3_0_0:Int),2)))) else (none)))))) else ((Zd.f yb2_0_0 yb2_1_0 yb2_2_0 yb2_3_0 yb2_4_0 yb2_5_0 a0).bind fun t75=>(if t75=true then (some (yb2_0_0,(a0.size:Int),0)) else (some (zL,(a0.size:Int),1))))
def QW.f(k:Nat)(a0:ByteArray):Option ((List Int)×Int×Int):=QW.l0 k a0 zL 72 0 (⟨#[119,104,105,116,101]⟩:ByteArray) 0 (⟨#[]⟩:ByteArray) 0
theorem QW.c(k:Nat)(a0:ByteArray)(r1:List Int)(r2 r3:Int)(w:World)(h:QW.f k a0=some (r1,r2,r3)):
 Calls Tryz.prog 49 #[.string a0] w fun e w'=>e=.returned (.tuple #[.agg (bv r1),Ii r2,Ii r3])∧r1.length=64∧Below w.heap.size w w':=by
 have HL:=hid (Below.refl w.heap.size w)
 have H:(QW.l0 k a0 zL 72 0 (⟨#[119,104,105,116,101]⟩:ByteArray) 0 (⟨#[]⟩:ByteArray) 0)=some (r1,r2,r3):=h
 clear h
 have H':=hid H
 clear H
 go_enter Tryz.func49,Tryz.ntmps49
 go_wp2_with (first
  |((with_reducible refine Qa (N:=2) rfl ?_);obtain ⟨gb1,hgb1⟩:∃ g_,w.heap.size=g_:=⟨_,rfl⟩;refine Qq Jc gb1 hgb1 rfl rfl ?_;intro w76 hb_ hB_ hs_;have GEb1:Hid (w.heap.size≤gb1):=hid (by have:=HL.out.size;omega);replace HL:=hid (HL.out.trans (hb_.mono GEb1.out));have BKb1:=hid hB_;clear hb_ hB_ hs_ hgb1)
  |((with_reducible refine Qa (N:=8) rfl ?_);refine Qr (.agg (xv (Value.int .i8) zL [.func (.func 72) #[] #[],Ii 0,.string (⟨#[119,104,105,116,101]⟩:ByteArray),Ii 0,.string (⟨#[]⟩:ByteArray)])) _ rfl rfl ?_ ?_;(intro ww_;simp only [List.map_toArray,List.map_cons,List.map_nil];kernel_rfl))
  |((with_reducible refine Qa (N:=9) rfl ?_);obtain ⟨gb2,hgb2⟩:∃ g_,w76.heap.size=g_:=⟨_,rfl⟩;refine Jx (xv (Value.int .i8) zL [.func (.func 72) #[] #[],Ii 0,.string (⟨#[119,104,105,116,101]⟩:ByteArray),Ii 0,.string (⟨#[]⟩:ByteArray)]) gb2 hgb2 rfl _ rfl rfl ?_;intro w77 hb_ hB_ hs_;have GEb2:Hid (w.heap.size≤gb2):=hid (by have:=HL.out.size;omega);have NBb1_b2:Hid (gb1≠gb2):=hid (by have:=BKb1.out.lt;omega);have NBb2_b1:Hid (gb2≠gb1):=hid (by have:=NBb1_b2.out;omega);replace BKb1:=hid (BKb1.out.below hb_ (by rw [← hgb2];exact BKb1.out.lt));replace HL:=hid (HL.out.trans (hb_.mono GEb2.out));have BKb2:=hid hB_;clear hb_ hB_ hs_ hgb2)
  |((with_reducible refine Qa (N:=11) rfl ?_);obtain ⟨gb3,hgb3⟩:∃ g_,w77.heap.size=g_:=⟨_,rfl⟩;refine Vy a0 gb3 hgb3 JV rfl _ rfl rfl ?_;intro w78 hb_ hB_ hs_;have GEb3:Hid (w.heap.size≤gb3):=hid (by have:=HL.out.size;omega);have NBb1_b3:Hid (gb1≠gb3):=hid (by have:=BKb1.out.lt;omega);have NBb3_b1:Hid (gb3≠gb1):=hid (by have:=NBb1_b3.out;omega);replace BKb1:=hid (BKb1.out.below hb_ (by rw [← hgb3];exact BKb1.out.lt));have NBb2_b3:Hid (gb2≠gb3):=hid (by have:=BKb2.out.lt;omega);have NBb3_b2:Hid (gb3≠gb2):=hid (by have:=NBb2_b3.out;omega);replace BKb2:=hid (BKb2.out.below hb_ (by rw [← hgb3];exact BKb2.out.lt));replace HL:=hid (HL.out.trans (hb_.mono GEb3.out));have BKb3:=hid hB_;clear hb_ hB_ hs_ hgb3))
 (try simp only [Act.put,sI,sZ,sS])
 go_loopg [] k (fun kq w'=>∃ (yb2_0_0:List Int) (yb2_1_0:Int) (yb2_2_0:Int) (yb2_3_0:ByteArray) (yb2_4_0:Int) (yb2_5_0:ByteArray) (yb3_0_0:Nat),Hid (QW.l0 kq a0 yb2_0_0 yb2_1_0 yb2_2_0 yb2_3_0 yb2_4_0 yb2_5_0 yb3_0_0=some (r1,r2,r3))∧Hid (kq≤k)∧Hid (yb2_0_0.length=64)∧Hid (Blk w' gb1 24 (bv zL))∧Hid (Blk w' gb2 108 (xv (Value.int .i8) yb2_0_0 [(fnv yb2_1_0),Ii yb2_2_0,.string yb2_3_0,Ii yb2_4_0,.string yb2_5_0]))∧Hid (Itr w' gb3 a0 yb3_0_0)∧Hid (Below w.heap.size w w'))
 case atStart=>exact ⟨zL,(72:Int),(0:Int),(⟨#[119,104,105,116,101]⟩:ByteArray),(0:Int),(⟨#[]⟩:ByteArray),(0:Nat),H',(hid (by first|omega|(omega))),(hid (by first|rfl|(simp only [List.length_set,List.length_replicate,Qh,List.length_cons,List.length_nil];done)|(simp [Qh];done))),(hid (by exact BKb1.out)),(hid (by exact BKb2.out)),(hid (by exact BKb3.out)),HL⟩
 case round=>
  clear H'
  clear HL BKb1 BKb2 BKb3
  obtain ⟨yb2_0_0,yb2_1_0,yb2_2_0,yb2_3_0,yb2_4_0,yb2_5_0,yb3_0_0,HA,HK79,LN_yb2_0_0,BKb1,BKb2,BKb3,HL⟩:=hrel
  cases gk with
  |zero=>exact absurd HA.out (by simp [QW.l0])
  |succ k80=>
   have H:=HA.out
   clear HA
   simp only [QW.l0] at H
   by_cases c81:yb3_0_0<a0.size
   ·
    rw [if_pos c81] at H
    have hc81:=hid c81
    clear c81
    by_cases c82:yb2_1_0=72
    ·
     rw [if_pos c82] at H
     have c82b0:(yb2_1_0==72)=true:=beq_iff_eq.mpr c82
     have c82b1:(yb2_1_0 != 72)=false:=bne_eq_false_iff_eq.mpr c82
     have hc82:=hid c82
     clear c82
     replace H:=Ia H
     obtain ⟨⟨t40,t41,t42,t43,t44,t45,t46⟩,A83_,H⟩:=H
     dsimp only at H
     have A83:=hid A83_
     clear A83_
     cases t40 with
     |true=>
      rw [if_pos rfl] at H
      have H':=hid H
      clear H
      have k86:=True.intro
      go_wp2_with (first
       |((with_reducible refine Qa (N:=12) rfl ?_);refine Qu a0 gb3 yb3_0_0 BKb3.out hc81.out rfl _ rfl rfl ?_;intro w85 ho_ hB_;replace BKb1:=hid (BKb1.out.off ho_ NBb1_b3.out);replace BKb2:=hid (BKb2.out.off ho_ NBb2_b3.out);replace HL:=hid (ho_.below HL.out GEb3.out);replace BKb3:=hid hB_;clear ho_ hB_)
       |((with_reducible refine Qa (N:=18) rfl ?_);refine Qb (Pg gb2 64) (Qc 108 1 (Pg gb2 0) (Pg gb2 64) (Ju gb2) _ rfl rfl) rfl ?_)
       |((with_reducible refine Qa (N:=19) rfl ?_);refine Qb ((fnv yb2_1_0)) (Qd XC gb2 (64) ((fnv yb2_1_0)) ((xv (Value.int .i8) yb2_0_0 [(fnv yb2_1_0),Ii yb2_2_0,.string yb2_3_0,Ii yb2_4_0,.string yb2_5_0])) BKb2.out ((Qi (n:=64) LN_yb2_0_0.out 0 64 (by omega)).trans rfl) _ rfl rfl) rfl ?_)
       |((with_reducible refine Qa (N:=22) rfl ?_);clear k86;refine Xp 72 #[Pg gb2 0,.int .i32 ((Utf8.decode a0 yb3_0_0).1:Int)] (Xe Tryz.func72 (by kernel_rfl) (by kernel_rfl) ((fnv yb2_1_0)) (by rw [hc82.out];first|done|rfl) _ _ _ rfl rfl (by simp only [List.map_toArray,List.map_cons,List.map_nil];rfl)) rfl ((Xc.c yb2_0_0 yb2_1_0 yb2_2_0 yb2_3_0 yb2_4_0 yb2_5_0 ((Utf8.decode a0 yb3_0_0).1:Int) LN_yb2_0_0.out true t41 t42 t43 t44 t45 t46 gb2 _ BKb2.out A83.out).mono ?_);rintro e_ w87 ⟨rfl,ln_t41,hB_,hx_⟩;have LN_t41:=hid ln_t41;clear ln_t41;replace BKb1:=hid (BKb1.out.bex hx_ BKb1.out.lt NBb1_b2.out);replace BKb3:=hid (BKb3.out.bex hx_ BKb3.out.lt NBb3_b2.out);replace HL:=hid (Jm HL.out hx_ HL.out.size GEb2.out);replace BKb2:=hid hB_;clear hx_ hB_))
      (try simp only [Act.put,sI,sZ,sS])
      go_roundg k80
      case measure=>have:=HK79.out;omega
      case rel=>exact ⟨t41,t42,t43,t44,t45,t46,(yb3_0_0+(Utf8.decode a0 yb3_0_0).2),H',(hid (by first|omega|(have:=HK79.out;omega))),(hid (by first|rfl|(simp only [List.length_set,List.length_replicate,Qh,List.length_cons,List.length_nil,LN_yb2_0_0.out,LN_t41.out];done)|(simp [Qh,LN_yb2_0_0.out,LN_t41.out];done))),(hid (by exact BKb1.out)),(hid (by exact BKb2.out)),(hid (by exact BKb3.out)),HL⟩
     |false=>
      rw [if_neg (show ¬ (false=true) by decide)] at H
      simp only [Option.some.injEq,Prod.mk.injEq] at H
      obtain ⟨rfl,rfl,rfl⟩:=H
      have k89:=True.intro
      go_wp2_with (first
       |((with_reducible refine Qa (N:=12) rfl ?_);refine Qu a0 gb3 yb3_0_0 BKb3.out hc81.out rfl _ rfl rfl ?_;intro w88 ho_ hB_;replace BKb1:=hid (BKb1.out.off ho_ NBb1_b3.out);replace BKb2:=hid (BKb2.out.off ho_ NBb2_b3.out);replace HL:=hid (ho_.below HL.out GEb3.out);replace BKb3:=hid hB_;clear ho_ hB_)
       |((with_reducible refine Qa (N:=18) rfl ?_);refine Qb (Pg gb2 64) (Qc 108 1 (Pg gb2 0) (Pg gb2 64) (Ju gb2) _ rfl rfl) rfl ?_)
       |((with_reducible refine Qa (N:=19) rfl ?_);refine Qb ((fnv yb2_1_0)) (Qd XC gb2 (64) ((fnv yb2_1_0)) ((xv (Value.int .i8) yb2_0_0 [(fnv yb2_1_0),Ii yb2_2_0,.string yb2_3_0,Ii yb2_4_0,.string yb2_5_0])) BKb2.out ((Qi (n:=64) LN_yb2_0_0.out 0 64 (by omega)).trans rfl) _ rfl rfl) rfl ?_)
       |((with_reducible refine Qa (N:=22) rfl ?_);clear k89;refine Xp 72 #[Pg gb2 0,.int .i32 ((Utf8.decode a0 yb3_0_0).1:Int)] (Xe Tryz.func72 (by kernel_rfl) (by kernel_rfl) ((fnv yb2_1_0)) (by rw [hc82.out];first|done|rfl) _ _ _ rfl rfl (by simp only [List.map_toArray,List.map_cons,List.map_nil];rfl)) rfl ((Xc.c yb2_0_0 yb2_1_0 yb2_2_0 yb2_3_0 yb2_4_0 yb2_5_0 ((Utf8.decode a0 yb3_0_0).1:Int) LN_yb2_0_0.out false t41 t42 t43 t44 t45 t46 gb2 _ BKb2.out A83.out).mono ?_);rintro e_ w90 ⟨rfl,ln_t41,hB_,hx_⟩;have LN_t41:=hid ln_t41;clear ln_t41;replace BKb1:=hid (BKb1.out.bex hx_ BKb1.out.lt NBb1_b2.out);replace BKb3:=hid (BKb3.out.bex hx_ BKb3.out.lt NBb3_b2.out);replace HL:=hid (Jm HL.out hx_ HL.out.size GEb2.out);replace BKb2:=hid hB_;clear hx_ hB_)
       |((with_reducible refine Qa (N:=24) rfl ?_);refine Qr (.agg (bv zL)) _ rfl rfl ?_ ?_;(intro ww_;kernel_rfl))
       |((with_reducible refine Qf (t:=24) (p:=2) rfl ?_);refine Qg Jc gb1 0 (bv zL) (bv zL) (bv zL) BKb1.out (by rw [show (bv zL)=av (Value.int .i8) zL from rfl,Jh];exact Qh) (ZX Qh) (ZE (fun _=>rfl)) (ZL Qh Qh) rfl _ _ rfl rfl rfl ?_;intro w91 ho_ hB_;replace BKb2:=hid (BKb2.out.off ho_ NBb2_b1.out);replace BKb3:=hid (BKb3.out.off ho_ NBb3_b1.out);replace HL:=hid (ho_.below HL.out GEb1.out);replace BKb1:=hid hB_;clear ho_ hB_))
      (try simp only [Act.put,sI,sZ,sS])
      refine bodyPost_ret (v:=.tuple #[.agg (bv zL),Ii (yb3_0_0:Int),Ii 2]) (Xx Jc rfl _ gb1 (bv zL) (Ii (yb3_0_0:Int)) (Ii 2) BKb1.out (by rw [show (bv zL)=av (Value.int .i8) zL from rfl,Jh];exact Qh) rfl rfl rfl) rfl ?_
      exact ⟨by first|rfl|(simp;done)|(simp [*];done),Qh,HL.out⟩
    ·
     rw [if_neg c82] at H
     have c82b0:(yb2_1_0==72)=false:=beq_eq_false_iff_ne.mpr c82
     have c82b1:(yb2_1_0 != 72)=true:=bne_iff_ne.mpr c82
     have hc82:=hid c82
     clear c82
     by_cases c92:yb2_1_0=91
     ·
      rw [if_pos c92] at H
      have c92b0:(yb2_1_0==91)=true:=beq_iff_eq.mpr c92
      have c92b1:(yb2_1_0 != 91)=false:=bne_eq_false_iff_eq.mpr c92
      have hc92:=hid c92
      clear c92
      replace H:=Ia H
      obtain ⟨⟨t47,t48,t49,t50,t51,t52,t53⟩,A93_,H⟩:=H
      dsimp only at H
      have A93:=hid A93_
      clear A93_
      cases t47 with
      |true=>
       rw [if_pos rfl] at H
       have H':=hid H
       clear H
       have k96:=True.intro
       go_wp2_with (first
        |((with_reducible refine Qa (N:=12) rfl ?_);refine Qu a0 gb3 yb3_0_0 BKb3.out hc81.out rfl _ rfl rfl ?_;intro w95 ho_ hB_;replace BKb1:=hid (BKb1.out.off ho_ NBb1_b3.out);replace BKb2:=hid (BKb2.out.off ho_ NBb2_b3.out);replace HL:=hid (ho_.below HL.out GEb3.out);replace BKb3:=hid hB_;clear ho_ hB_)
        |((with_reducible refine Qa (N:=18) rfl ?_);refine Qb (Pg gb2 64) (Qc 108 1 (Pg gb2 0) (Pg gb2 64) (Ju gb2) _ rfl rfl) rfl ?_)
        |((with_reducible refine Qa (N:=19) rfl ?_);refine Qb ((fnv yb2_1_0)) (Qd XC gb2 (64) ((fnv yb2_1_0)) ((xv (Value.int .i8) yb2_0_0 [(fnv yb2_1_0),Ii yb2_2_0,.string yb2_3_0,Ii yb2_4_0,.string yb2_5_0])) BKb2.out ((Qi (n:=64) LN_yb2_0_0.out 0 64 (by omega)).trans rfl) _ rfl rfl) rfl ?_)
        |((with_reducible refine Qa (N:=22) rfl ?_);clear k96;refine Xp 91 #[Pg gb2 0,.int .i32 ((Utf8.decode a0 yb3_0_0).1:Int)] (Xe Tryz.func91 (by kernel_rfl) (by kernel_rfl) ((fnv yb2_1_0)) (by rw [hc92.out];first|done|rfl) _ _ _ rfl rfl (by simp only [List.map_toArray,List.map_cons,List.map_nil];rfl)) rfl ((Xd.c yb2_0_0 yb2_1_0 yb2_2_0 yb2_3_0 yb2_4_0 yb2_5_0 ((Utf8.decode a0 yb3_0_0).1:Int) LN_yb2_0_0.out true t48 t49 t50 t51 t52 t53 gb2 _ BKb2.out A93.out).mono ?_);rintro e_ w97 ⟨rfl,ln_t48,hB_,hx_⟩;have LN_t48:=hid ln_t48;clear ln_t48;replace BKb1:=hid (BKb1.out.bex hx_ BKb1.out.lt NBb1_b2.out);replace BKb3:=hid (BKb3.out.bex hx_ BKb3.out.lt NBb3_b2.out);replace HL:=hid (Jm HL.out hx_ HL.out.size GEb2.out);replace BKb2:=hid hB_;clear hx_ hB_))
       (try simp only [Act.put,sI,sZ,sS])
       go_roundg k80
       case measure=>have:=HK79.out;omega
       case rel=>exact ⟨t48,t49,t50,t51,t52,t53,(yb3_0_0+(Utf8.decode a0 yb3_0_0).2),H',(hid (by first|omega|(have:=HK79.out;omega))),(hid (by first|rfl|(simp only [List.length_set,List.length_replicate,Qh,List.length_cons,List.length_nil,LN_yb2_0_0.out,LN_t48.out];done)|(simp [Qh,LN_yb2_0_0.out,LN_t48.out];done))),(hid (by exact BKb1.out)),(hid (by exact BKb2.out)),(hid (by exact BKb3.out)),HL⟩
      |false=>
       rw [if_neg (show ¬ (false=true) by decide)] at H
       simp only [Option.some.injEq,Prod.mk.injEq] at H
       obtain ⟨rfl,rfl,rfl⟩:=H
       have k99:=True.intro
       go_wp2_with (first
        |((with_reducible refine Qa (N:=12) rfl ?_);refine Qu a0 gb3 yb3_0_0 BKb3.out hc81.out rfl _ rfl rfl ?_;intro w98 ho_ hB_;replace BKb1:=hid (BKb1.out.off ho_ NBb1_b3.out);replace BKb2:=hid (BKb2.out.off ho_ NBb2_b3.out);replace HL:=hid (ho_.below HL.out GEb3.out);replace BKb3:=hid hB_;clear ho_ hB_)
        |((with_reducible refine Qa (N:=18) rfl ?_);refine Qb (Pg gb2 64) (Qc 108 1 (Pg gb2 0) (Pg gb2 64) (Ju gb2) _ rfl rfl) rfl ?_)
        |((with_reducible refine Qa (N:=19) rfl ?_);refine Qb ((fnv yb2_1_0)) (Qd XC gb2 (64) ((fnv yb2_1_0)) ((xv (Value.int .i8) yb2_0_0 [(fnv yb2_1_0),Ii yb2_2_0,.string yb2_3_0,Ii yb2_4_0,.string yb2_5_0])) BKb2.out ((Qi (n:=64) LN_yb2_0_0.out 0 64 (by omega)).trans rfl) _ rfl rfl) rfl ?_)
        |((with_reducible refine Qa (N:=22) rfl ?_);clear k99;refine Xp 91 #[Pg gb2 0,.int .i32 ((Utf8.decode a0 yb3_0_0).1:Int)] (Xe Tryz.func91 (by kernel_rfl) (by kernel_rfl) ((fnv yb2_1_0)) (by rw [hc92.out];first|done|rfl) _ _ _ rfl rfl (by simp only [List.map_toArray,List.map_cons,List.map_nil];rfl)) rfl ((Xd.c yb2_0_0 yb2_1_0 yb2_2_0 yb2_3_0 yb2_4_0 yb2_5_0 ((Utf8.decode a0 yb3_0_0).1:Int) LN_yb2_0_0.out false t48 t49 t50 t51 t52 t53 gb2 _ BKb2.out A93.out).mono ?_);rintro e_ w100 ⟨rfl,ln_t48,hB_,hx_⟩;have LN_t48:=hid ln_t48;clear ln_t48;replace BKb1:=hid (BKb1.out.bex hx_ BKb1.out.lt NBb1_b2.out);replace BKb3:=hid (BKb3.out.bex hx_ BKb3.out.lt NBb3_b2.out);replace HL:=hid (Jm HL.out hx_ HL.out.size GEb2.out);replace BKb2:=hid hB_;clear hx_ hB_)
        |((with_reducible refine Qa (N:=24) rfl ?_);refine Qr (.agg (bv zL)) _ rfl rfl ?_ ?_;(intro ww_;kernel_rfl))
        |((with_reducible refine Qf (t:=24) (p:=2) rfl ?_);refine Qg Jc gb1 0 (bv zL) (bv zL) (bv zL) BKb1.out (by rw [show (bv zL)=av (Value.int .i8) zL from rfl,Jh];exact Qh) (ZX Qh) (ZE (fun _=>rfl)) (ZL Qh Qh) rfl _ _ rfl rfl rfl ?_;intro w101 ho_ hB_;replace BKb2:=hid (BKb2.out.off ho_ NBb2_b1.out);replace BKb3:=hid (BKb3.out.off ho_ NBb3_b1.out);replace HL:=hid (ho_.below HL.out GEb1.out);replace BKb1:=hid hB_;clear ho_ hB_))
       (try simp only [Act.put,sI,sZ,sS])
       refine bodyPost_ret (v:=.tuple #[.agg (bv zL),Ii (yb3_0_0:Int),Ii 2]) (Xx Jc rfl _ gb1 (bv zL) (Ii (yb3_0_0:Int)) (Ii 2) BKb1.out (by rw [show (bv zL)=av (Value.int .i8) zL from rfl,Jh];exact Qh) rfl rfl rfl) rfl ?_
       exact ⟨by first|rfl|(simp;done)|(simp [*];done),Qh,HL.out⟩
     ·
      rw [if_neg c92] at H
      have c92b0:(yb2_1_0==91)=false:=beq_eq_false_iff_ne.mpr c92
      have c92b1:(yb2_1_0 != 91)=true:=bne_iff_ne.mpr c92
      have hc92:=hid c92
      clear c92
      by_cases c102:yb2_1_0=106
      ·
       rw [if_pos c102] at H
       have c102b0:(yb2_1_0==106)=true:=beq_iff_eq.mpr c102
       have c102b1:(yb2_1_0 != 106)=false:=bne_eq_false_iff_eq.mpr c102
       have hc102:=hid c102
       clear c102
       replace H:=Ia H
       obtain ⟨⟨t54,t55,t56,t57,t58,t59,t60⟩,A103_,H⟩:=H
       dsimp only at H
       have A103:=hid A103_
       clear A103_
       cases t54 with
       |true=>
        rw [if_pos rfl] at H
        have H':=hid H
        clear H
        have k106:=True.intro
        go_wp2_with (first
         |((with_reducible refine Qa (N:=12) rfl ?_);refine Qu a0 gb3 yb3_0_0 BKb3.out hc81.out rfl _ rfl rfl ?_;intro w105 ho_ hB_;replace BKb1:=hid (BKb1.out.off ho_ NBb1_b3.out);replace BKb2:=hid (BKb2.out.off ho_ NBb2_b3.out);replace HL:=hid (ho_.below HL.out GEb3.out);replace BKb3:=hid hB_;clear ho_ hB_)
         |((with_reducible refine Qa (N:=18) rfl ?_);refine Qb (Pg gb2 64) (Qc 108 1 (Pg gb2 0) (Pg gb2 64) (Ju gb2) _ rfl rfl) rfl ?_)
         |((with_reducible refine Qa (N:=19) rfl ?_);refine Qb ((fnv yb2_1_0)) (Qd XC gb2 (64) ((fnv yb2_1_0)) ((xv (Value.int .i8) yb2_0_0 [(fnv yb2_1_0),Ii yb2_2_0,.string yb2_3_0,Ii yb2_4_0,.string yb2_5_0])) BKb2.out ((Qi (n:=64) LN_yb2_0_0.out 0 64 (by omega)).trans rfl) _ rfl rfl) rfl ?_)
         |((with_reducible refine Qa (N:=22) rfl ?_);clear k106;refine Xp 106 #[Pg gb2 0,.int .i32 ((Utf8.decode a0 yb3_0_0).1:Int)] (Xe Tryz.func106 (by kernel_rfl) (by kernel_rfl) ((fnv yb2_1_0)) (by rw [hc102.out];first|done|rfl) _ _ _ rfl rfl (by simp only [List.map_toArray,List.map_cons,List.map_nil];rfl)) rfl ((ZI.c yb2_0_0 yb2_1_0 yb2_2_0 yb2_3_0 yb2_4_0 yb2_5_0 ((Utf8.decode a0 yb3_0_0).1:Int) LN_yb2_0_0.out true t55 t56 t57 t58 t59 t60 gb2 _ BKb2.out A103.out).mono ?_);rintro e_ w107 ⟨rfl,ln_t55,hB_,hx_⟩;have LN_t55:=hid ln_t55;clear ln_t55;replace BKb1:=hid (BKb1.out.bex hx_ BKb1.out.lt NBb1_b2.out);replace BKb3:=hid (BKb3.out.bex hx_ BKb3.out.lt NBb3_b2.out);replace HL:=hid (Jm HL.out hx_ HL.out.size GEb2.out);replace BKb2:=hid hB_;clear hx_ hB_))
        (try simp only [Act.put,sI,sZ,sS])
        go_roundg k80
        case measure=>have:=HK79.out;omega
        case rel=>exact ⟨t55,t56,t57,t58,t59,t60,(yb3_0_0+(Utf8.decode a0 yb3_0_0).2),H',(hid (by first|omega|(have:=HK79.out;omega))),(hid (by first|rfl|(simp only [List.length_set,List.length_replicate,Qh,List.length_cons,List.length_nil,LN_yb2_0_0.out,LN_t55.out];done)|(simp [Qh,LN_yb2_0_0.out,LN_t55.out];done))),(hid (by exact BKb1.out)),(hid (by exact BKb2.out)),(hid (by exact BKb3.out)),HL⟩
       |false=>
        rw [if_neg (show ¬ (false=true) by decide)] at H
        simp only [Option.some.injEq,Prod.mk.injEq] at H
        obtain ⟨rfl,rfl,rfl⟩:=H
        have k109:=True.intro
        go_wp2_with (first
         |((with_reducible refine Qa (N:=12) rfl ?_);refine Qu a0 gb3 yb3_0_0 BKb3.out hc81.out rfl _ rfl rfl ?_;intro w108 ho_ hB_;replace BKb1:=hid (BKb1.out.off ho_ NBb1_b3.out);replace BKb2:=hid (BKb2.out.off ho_ NBb2_b3.out);replace HL:=hid (ho_.below HL.out GEb3.out);replace BKb3:=hid hB_;clear ho_ hB_)
         |((with_reducible refine Qa (N:=18) rfl ?_);refine Qb (Pg gb2 64) (Qc 108 1 (Pg gb2 0) (Pg gb2 64) (Ju gb2) _ rfl rfl) rfl ?_)
         |((with_reducible refine Qa (N:=19) rfl ?_);refine Qb ((fnv yb2_1_0)) (Qd XC gb2 (64) ((fnv yb2_1_0)) ((xv (Value.int .i8) yb2_0_0 [(fnv yb2_1_0),Ii yb2_2_0,.string yb2_3_0,Ii yb2_4_0,.string yb2_5_0])) BKb2.out ((Qi (n:=64) LN_yb2_0_0.out 0 64 (by omega)).trans rfl) _ rfl rfl) rfl ?_)
         |((with_reducible refine Qa (N:=22) rfl ?_);clear k109;refine Xp 106 #[Pg gb2 0,.int .i32 ((Utf8.decode a0 yb3_0_0).1:Int)] (Xe Tryz.func106 (by kernel_rfl) (by kernel_rfl) ((fnv yb2_1_0)) (by rw [hc102.out];first|done|rfl) _ _ _ rfl rfl (by simp only [List.map_toArray,List.map_cons,List.map_nil];rfl)) rfl ((ZI.c yb2_0_0 yb2_1_0 yb2_2_0 yb2_3_0 yb2_4_0 yb2_5_0 ((Utf8.decode a0 yb3_0_0).1:Int) LN_yb2_0_0.out false t55 t56 t57 t58 t59 t60 gb2 _ BKb2.out A103.out).mono ?_);rintro e_ w110 ⟨rfl,ln_t55,hB_,hx_⟩;have LN_t55:=hid ln_t55;clear ln_t55;replace BKb1:=hid (BKb1.out.bex hx_ BKb1.out.lt NBb1_b2.out);replace BKb3:=hid (BKb3.out.bex hx_ BKb3.out.lt NBb3_b2.out);replace HL:=hid (Jm HL.out hx_ HL.out.size GEb2.out);replace BKb2:=hid hB_;clear hx_ hB_)
         |((with_reducible refine Qa (N:=24) rfl ?_);refine Qr (.agg (bv zL)) _ rfl rfl ?_ ?_;(intro ww_;kernel_rfl))
         |((with_reducible refine Qf (t:=24) (p:=2) rfl ?_);refine Qg Jc gb1 0 (bv zL) (bv zL) (bv zL) BKb1.out (by rw [show (bv zL)=av (Value.int .i8) zL from rfl,Jh];exact Qh) (ZX Qh) (ZE (fun _=>rfl)) (ZL Qh Qh) rfl _ _ rfl rfl rfl ?_;intro w111 ho_ hB_;replace BKb2:=hid (BKb2.out.off ho_ NBb2_b1.out);replace BKb3:=hid (BKb3.out.off ho_ NBb3_b1.out);replace HL:=hid (ho_.below HL.out GEb1.out);replace BKb1:=hid hB_;clear ho_ hB_))
        (try simp only [Act.put,sI,sZ,sS])
        refine bodyPost_ret (v:=.tuple #[.agg (bv zL),Ii (yb3_0_0:Int),Ii 2]) (Xx Jc rfl _ gb1 (bv zL) (Ii (yb3_0_0:Int)) (Ii 2) BKb1.out (by rw [show (bv zL)=av (Value.int .i8) zL from rfl,Jh];exact Qh) rfl rfl rfl) rfl ?_
        exact ⟨by first|rfl|(simp;done)|(simp [*];done),Qh,HL.out⟩
      ·
       rw [if_neg c102] at H
       have c102b0:(yb2_1_0==106)=false:=beq_eq_false_iff_ne.mpr c102
       have c102b1:(yb2_1_0 != 106)=true:=bne_iff_ne.mpr c102
       have hc102:=hid c102
       clear c102
       by_cases c112:yb2_1_0=123
       ·
        rw [if_pos c112] at H
        have c112b0:(yb2_1_0==123)=true:=beq_iff_eq.mpr c112
        have c112b1:(yb2_1_0 != 123)=false:=bne_eq_false_iff_eq.mpr c112
        have hc112:=hid c112
        clear c112
        replace H:=Ia H
        obtain ⟨⟨t61,t62,t63,t64,t65,t66,t67⟩,A113_,H⟩:=H
        dsimp only at H
        have A113:=hid A113_
        clear A113_
        cases t61 with
        |true=>
         rw [if_pos rfl] at H
         have H':=hid H
         clear H
         have k116:=True.intro
         go_wp2_with (first
          |((with_reducible refine Qa (N:=12) rfl ?_);refine Qu a0 gb3 yb3_0_0 BKb3.out hc81.out rfl _ rfl rfl ?_;intro w115 ho_ hB_;replace BKb1:=hid (BKb1.out.off ho_ NBb1_b3.out);replace BKb2:=hid (BKb2.out.off ho_ NBb2_b3.out);replace HL:=hid (ho_.below HL.out GEb3.out);replace BKb3:=hid hB_;clear ho_ hB_)
          |((with_reducible refine Qa (N:=18) rfl ?_);refine Qb (Pg gb2 64) (Qc 108 1 (Pg gb2 0) (Pg gb2 64) (Ju gb2) _ rfl rfl) rfl ?_)
          |((with_reducible refine Qa (N:=19) rfl ?_);refine Qb ((fnv yb2_1_0)) (Qd XC gb2 (64) ((fnv yb2_1_0)) ((xv (Value.int .i8) yb2_0_0 [(fnv yb2_1_0),Ii yb2_2_0,.string yb2_3_0,Ii yb2_4_0,.string yb2_5_0])) BKb2.out ((Qi (n:=64) LN_yb2_0_0.out 0 64 (by omega)).trans rfl) _ rfl rfl) rfl ?_)
          |((with_reducible refine Qa (N:=22) rfl ?_);clear k116;refine Xp 123 #[Pg gb2 0,.int .i32 ((Utf8.decode a0 yb3_0_0).1:Int)] (Xe Tryz.func123 (by kernel_rfl) (by kernel_rfl) ((fnv yb2_1_0)) (by rw [hc112.out];first|done|rfl) _ _ _ rfl rfl (by simp only [List.map_toArray,List.map_cons,List.map_nil];rfl)) rfl ((Xt.c yb2_0_0 yb2_1_0 yb2_2_0 yb2_3_0 yb2_4_0 yb2_5_0 ((Utf8.decode a0 yb3_0_0).1:Int) LN_yb2_0_0.out true t62 t63 t64 t65 t66 t67 gb2 _ BKb2.out A113.out).mono ?_);rintro e_ w117 ⟨rfl,ln_t62,hB_,hx_⟩;have LN_t62:=hid ln_t62;clear ln_t62;replace BKb1:=hid (BKb1.out.bex hx_ BKb1.out.lt NBb1_b2.out);replace BKb3:=hid (BKb3.out.bex hx_ BKb3.out.lt NBb3_b2.out);replace HL:=hid (Jm HL.out hx_ HL.out.size GEb2.out);replace BKb2:=hid hB_;clear hx_ hB_))
         (try simp only [Act.put,sI,sZ,sS])
         go_roundg k80
         case measure=>have:=HK79.out;omega
         case rel=>exact ⟨t62,t63,t64,t65,t66,t67,(yb3_0_0+(Utf8.decode a0 yb3_0_0).2),H',(hid (by first|omega|(have:=HK79.out;omega))),(hid (by first|rfl|(simp only [List.length_set,List.length_replicate,Qh,List.length_cons,List.length_nil,LN_yb2_0_0.out,LN_t62.out];done)|(simp [Qh,LN_yb2_0_0.out,LN_t62.out];done))),(hid (by exact BKb1.out)),(hid (by exact BKb2.out)),(hid (by exact BKb3.out)),HL⟩
        |false=>
         rw [if_neg (show ¬ (false=true) by decide)] at H
         simp only [Option.some.injEq,Prod.mk.injEq] at H
         obtain ⟨rfl,rfl,rfl⟩:=H
         have k119:=True.intro
         go_wp2_with (first
          |((with_reducible refine Qa (N:=12) rfl ?_);refine Qu a0 gb3 yb3_0_0 BKb3.out hc81.out rfl _ rfl rfl ?_;intro w118 ho_ hB_;replace BKb1:=hid (BKb1.out.off ho_ NBb1_b3.out);replace BKb2:=hid (BKb2.out.off ho_ NBb2_b3.out);replace HL:=hid (ho_.below HL.out GEb3.out);replace BKb3:=hid hB_;clear ho_ hB_)
          |((with_reducible refine Qa (N:=18) rfl ?_);refine Qb (Pg gb2 64) (Qc 108 1 (Pg gb2 0) (Pg gb2 64) (Ju gb2) _ rfl rfl) rfl ?_)
          |((with_reducible refine Qa (N:=19) rfl ?_);refine Qb ((fnv yb2_1_0)) (Qd XC gb2 (64) ((fnv yb2_1_0)) ((xv (Value.int .i8) yb2_0_0 [(fnv yb2_1_0),Ii yb2_2_0,.string yb2_3_0,Ii yb2_4_0,.string yb2_5_0])) BKb2.out ((Qi (n:=64) LN_yb2_0_0.out 0 64 (by omega)).trans rfl) _ rfl rfl) rfl ?_)
          |((with_reducible refine Qa (N:=22) rfl ?_);clear k119;refine Xp 123 #[Pg gb2 0,.int .i32 ((Utf8.decode a0 yb3_0_0).1:Int)] (Xe Tryz.func123 (by kernel_rfl) (by kernel_rfl) ((fnv yb2_1_0)) (by rw [hc112.out];first|done|rfl) _ _ _ rfl rfl (by simp only [List.map_toArray,List.map_cons,List.map_nil];rfl)) rfl ((Xt.c yb2_0_0 yb2_1_0 yb2_2_0 yb2_3_0 yb2_4_0 yb2_5_0 ((Utf8.decode a0 yb3_0_0).1:Int) LN_yb2_0_0.out false t62 t63 t64 t65 t66 t67 gb2 _ BKb2.out A113.out).mono ?_);rintro e_ w120 ⟨rfl,ln_t62,hB_,hx_⟩;have LN_t62:=hid ln_t62;clear ln_t62;replace BKb1:=hid (BKb1.out.bex hx_ BKb1.out.lt NBb1_b2.out);replace BKb3:=hid (BKb3.out.bex hx_ BKb3.out.lt NBb3_b2.out);replace HL:=hid (Jm HL.out hx_ HL.out.size GEb2.out);replace BKb2:=hid hB_;clear hx_ hB_)
          |((with_reducible refine Qa (N:=24) rfl ?_);refine Qr (.agg (bv zL)) _ rfl rfl ?_ ?_;(intro ww_;kernel_rfl))
          |((with_reducible refine Qf (t:=24) (p:=2) rfl ?_);refine Qg Jc gb1 0 (bv zL) (bv zL) (bv zL) BKb1.out (by rw [show (bv zL)=av (Value.int .i8) zL from rfl,Jh];exact Qh) (ZX Qh) (ZE (fun _=>rfl)) (ZL Qh Qh) rfl _ _ rfl rfl rfl ?_;intro w121 ho_ hB_;replace BKb2:=hid (BKb2.out.off ho_ NBb2_b1.out);replace BKb3:=hid (BKb3.out.off ho_ NBb3_b1.out);replace HL:=hid (ho_.below HL.out GEb1.out);replace BKb1:=hid hB_;clear ho_ hB_))
         (try simp only [Act.put,sI,sZ,sS])
         refine bodyPost_ret (v:=.tuple #[.agg (bv zL),Ii (yb3_0_0:Int),Ii 2]) (Xx Jc rfl _ gb1 (bv zL) (Ii (yb3_0_0:Int)) (Ii 2) BKb1.out (by rw [show (bv zL)=av (Value.int .i8) zL from rfl,Jh];exact Qh) rfl rfl rfl) rfl ?_
         exact ⟨by first|rfl|(simp;done)|(simp [*];done),Qh,HL.out⟩
       ·
        rw [if_neg c112] at H
        have c112b0:(yb2_1_0==123)=false:=beq_eq_false_iff_ne.mpr c112
        have c112b1:(yb2_1_0 != 123)=true:=bne_iff_ne.mpr c112
        have hc112:=hid c112
        clear c112
        by_cases c122:yb2_1_0=130
        ·
         rw [if_pos c122] at H
         have c122b0:(yb2_1_0==130)=true:=beq_iff_eq.mpr c122
         have c122b1:(yb2_1_0 != 130)=false:=bne_eq_false_iff_eq.mpr c122
         have hc122:=hid c122
         clear c122
         replace H:=Ia H
         obtain ⟨⟨t68,t69,t70,t71,t72,t73,t74⟩,A123_,H⟩:=H
         dsimp only at H
         have A123:=hid A123_
         clear A123_
         cases t68 with
         |true=>
          rw [if_pos rfl] at H
          have H':=hid H
          clear H
          have k126:=True.intro
          go_wp2_with (first
           |((with_reducible refine Qa (N:=12) rfl ?_);refine Qu a0 gb3 yb3_0_0 BKb3.out hc81.out rfl _ rfl rfl ?_;intro w125 ho_ hB_;replace BKb1:=hid (BKb1.out.off ho_ NBb1_b3.out);replace BKb2:=hid (BKb2.out.off ho_ NBb2_b3.out);replace HL:=hid (ho_.below HL.out GEb3.out);replace BKb3:=hid hB_;clear ho_ hB_)
           |((with_reducible refine Qa (N:=18) rfl ?_);refine Qb (Pg gb2 64) (Qc 108 1 (Pg gb2 0) (Pg gb2 64) (Ju gb2) _ rfl rfl) rfl ?_)
           |((with_reducible refine Qa (N:=19) rfl ?_);refine Qb ((fnv yb2_1_0)) (Qd XC gb2 (64) ((fnv yb2_1_0)) ((xv (Value.int .i8) yb2_0_0 [(fnv yb2_1_0),Ii yb2_2_0,.string yb2_3_0,Ii yb2_4_0,.string yb2_5_0])) BKb2.out ((Qi (n:=64) LN_yb2_0_0.out 0 64 (by omega)).trans rfl) _ rfl rfl) rfl ?_)
           |((with_reducible refine Qa (N:=22) rfl ?_);clear k126;refine Xp 130 #[Pg gb2 0,.int .i32 ((Utf8.decode a0 yb3_0_0).1:Int)] (Xe Tryz.func130 (by kernel_rfl) (by kernel_rfl) ((fnv yb2_1_0)) (by rw [hc122.out];first|done|rfl) _ _ _ rfl rfl (by simp only [List.map_toArray,List.map_cons,List.map_nil];rfl)) rfl ((Xu.c k80 yb2_0_0 yb2_1_0 yb2_2_0 yb2_3_0 yb2_4_0 yb2_5_0 ((Utf8.decode a0 yb3_0_0).1:Int) LN_yb2_0_0.out true t69 t70 t71 t72 t73 t74 gb2 _ BKb2.out A123.out).mono ?_);rintro e_ w127 ⟨rfl,ln_t69,hB_,hx_⟩;have LN_t69:=hid ln_t69;clear ln_t69;replace BKb1:=hid (BKb1.out.bex hx_ BKb1.out.lt NBb1_b2.out);replace BKb3:=hid (BKb3.out.bex hx_ BKb3.out.lt NBb3_b2.out);replace HL:=hid (Jm HL.out hx_ HL.out.size GEb2.out);replace BKb2:=hid hB_;clear hx_ hB_))
          (try simp only [Act.put,sI,sZ,sS])
          go_roundg k80
          case measure=>have:=HK79.out;omega
          case rel=>exact ⟨t69,t70,t71,t72,t73,t74,(yb3_0_0+(Utf8.decode a0 yb3_0_0).2),H',(hid (by first|omega|(have:=HK79.out;omega))),(hid (by first|rfl|(simp only [List.length_set,List.length_replicate,Qh,List.length_cons,List.length_nil,LN_yb2_0_0.out,LN_t69.out];done)|(simp [Qh,LN_yb2_0_0.out,LN_t69.out];done))),(hid (by exact BKb1.out)),(hid (by exact BKb2.out)),(hid (by exact BKb3.out)),HL⟩
         |false=>
          rw [if_neg (show ¬ (false=true) by decide)] at H
          simp only [Option.some.injEq,Prod.mk.injEq] at H
          obtain ⟨rfl,rfl,rfl⟩:=H
          have k129:=True.intro
          go_wp2_with (first
           |((with_reducible refine Qa (N:=12) rfl ?_);refine Qu a0 gb3 yb3_0_0 BKb3.out hc81.out rfl _ rfl rfl ?_;intro w128 ho_ hB_;replace BKb1:=hid (BKb1.out.off ho_ NBb1_b3.out);replace BKb2:=hid (BKb2.out.off ho_ NBb2_b3.out);replace HL:=hid (ho_.below HL.out GEb3.out);replace BKb3:=hid hB_;clear ho_ hB_)
           |((with_reducible refine Qa (N:=18) rfl ?_);refine Qb (Pg gb2 64) (Qc 108 1 (Pg gb2 0) (Pg gb2 64) (Ju gb2) _ rfl rfl) rfl ?_)
           |((with_reducible refine Qa (N:=19) rfl ?_);refine Qb ((fnv yb2_1_0)) (Qd XC gb2 (64) ((fnv yb2_1_0)) ((xv (Value.int .i8) yb2_0_0 [(fnv yb2_1_0),Ii yb2_2_0,.string yb2_3_0,Ii yb2_4_0,.string yb2_5_0])) BKb2.out ((Qi (n:=64) LN_yb2_0_0.out 0 64 (by omega)).trans rfl) _ rfl rfl) rfl ?_)
           |((with_reducible refine Qa (N:=22) rfl ?_);clear k129;refine Xp 130 #[Pg gb2 0,.int .i32 ((Utf8.decode a0 yb3_0_0).1:Int)] (Xe Tryz.func130 (by kernel_rfl) (by kernel_rfl) ((fnv yb2_1_0)) (by rw [hc122.out];first|done|rfl) _ _ _ rfl rfl (by simp only [List.map_toArray,List.map_cons,List.map_nil];rfl)) rfl ((Xu.c k80 yb2_0_0 yb2_1_0 yb2_2_0 yb2_3_0 yb2_4_0 yb2_5_0 ((Utf8.decode a0 yb3_0_0).1:Int) LN_yb2_0_0.out false t69 t70 t71 t72 t73 t74 gb2 _ BKb2.out A123.out).mono ?_);rintro e_ w130 ⟨rfl,ln_t69,hB_,hx_⟩;have LN_t69:=hid ln_t69;clear ln_t69;replace BKb1:=hid (BKb1.out.bex hx_ BKb1.out.lt NBb1_b2.out);replace BKb3:=hid (BKb3.out.bex hx_ BKb3.out.lt NBb3_b2.out);replace HL:=hid (Jm HL.out hx_ HL.out.size GEb2.out);replace BKb2:=hid hB_;clear hx_ hB_)
           |((with_reducible refine Qa (N:=24) rfl ?_);refine Qr (.agg (bv zL)) _ rfl rfl ?_ ?_;(intro ww_;kernel_rfl))
           |((with_reducible refine Qf (t:=24) (p:=2) rfl ?_);refine Qg Jc gb1 0 (bv zL) (bv zL) (bv zL) BKb1.out (by rw [show (bv zL)=av (Value.int .i8) zL from rfl,Jh];exact Qh) (ZX Qh) (ZE (fun _=>rfl)) (ZL Qh Qh) rfl _ _ rfl rfl rfl ?_;intro w131 ho_ hB_;replace BKb2:=hid (BKb2.out.off ho_ NBb2_b1.out);replace BKb3:=hid (BKb3.out.off ho_ NBb3_b1.out);replace HL:=hid (ho_.below HL.out GEb1.out);replace BKb1:=hid hB_;clear ho_ hB_))
          (try simp only [Act.put,sI,sZ,sS])
          refine bodyPost_ret (v:=.tuple #[.agg (bv zL),Ii (yb3_0_0:Int),Ii 2]) (Xx Jc rfl _ gb1 (bv zL) (Ii (yb3_0_0:Int)) (Ii 2) BKb1.out (by rw [show (bv zL)=av (Value.int .i8) zL from rfl,Jh];exact Qh) rfl rfl rfl) rfl ?_
          exact ⟨by first|rfl|(simp;done)|(simp [*];done),Qh,HL.out⟩
        ·
         rw [if_neg c122] at H
         exact absurd H (by simp)
   ·
    rw [if_neg c81] at H
    have hc81:=hid c81
    clear c81
    replace H:=Ia H
    obtain ⟨t75,A132_,H⟩:=H
    have A132:=hid A132_
    clear A132_
    cases t75 with
    |true=>
     rw [if_pos rfl] at H
     simp only [Option.some.injEq,Prod.mk.injEq] at H
     obtain ⟨rfl,rfl,rfl⟩:=H
     have k134:=True.intro
     go_wp2_with (first
      |((with_reducible refine Qa (N:=12) rfl ?_);refine ZF a0 gb3 yb3_0_0 BKb3.out hc81.out rfl _ rfl rfl ?_)
      |(go_at_call 73;clear k134;refine (Zd.c yb2_0_0 yb2_1_0 yb2_2_0 yb2_3_0 yb2_4_0 yb2_5_0 a0 LN_yb2_0_0.out true gb2 _ BKb2.out A132.out).mono ?_;rintro e_ w' ⟨rfl,rfl⟩)
      |((with_reducible refine Qa (N:=35) rfl ?_);refine Qb (Pg gb2 0) (Qc 108 0 (Pg gb2 0) (Pg gb2 0) (VO gb2) _ rfl rfl) rfl ?_)
      |((with_reducible refine Qa (N:=36) rfl ?_);refine Qb (.agg (bv yb2_0_0)) (QI Jc gb2 0 (xv (Value.int .i8) yb2_0_0 [(fnv yb2_1_0),Ii yb2_2_0,.string yb2_3_0,Ii yb2_4_0,.string yb2_5_0]) (bv yb2_0_0) BKb2.out (zz LN_yb2_0_0.out) (zA LN_yb2_0_0.out) _ rfl rfl) rfl ?_)
      |((with_reducible refine Qf (t:=24) (p:=2) rfl ?_);refine Qg Jc gb1 0 (bv zL) (bv yb2_0_0) (bv yb2_0_0) BKb1.out (by rw [show (bv yb2_0_0)=av (Value.int .i8) yb2_0_0 from rfl,Jh];exact LN_yb2_0_0.out) (ZX Qh) (ZE (fun _=>rfl)) (ZL Qh LN_yb2_0_0.out) rfl _ _ rfl rfl rfl ?_;intro w135 ho_ hB_;replace BKb2:=hid (BKb2.out.off ho_ NBb2_b1.out);replace BKb3:=hid (BKb3.out.off ho_ NBb3_b1.out);replace HL:=hid (ho_.below HL.out GEb1.out);replace BKb1:=hid hB_;clear ho_ hB_))
     (try simp only [Act.put,sI,sZ,sS])
     refine bodyPost_ret (v:=.tuple #[.agg (bv yb2_0_0),Ii (a0.size:Int),Ii 0]) (Xx Jc rfl _ gb1 (bv yb2_0_0) (Ii (a0.size:Int)) (Ii 0) BKb1.out (by rw [show (bv yb2_0_0)=av (Value.int .i8) yb2_0_0 from rfl,Jh];exact LN_yb2_0_0.out) rfl rfl rfl) rfl ?_
     exact ⟨by first|rfl|(simp;done)|(simp [*];done),LN_yb2_0_0.out,HL.out⟩
    |false=>
     rw [if_neg (show ¬ (false=true) by decide)] at H
     simp only [Option.some.injEq,Prod.mk.injEq] at H
     obtain ⟨rfl,rfl,rfl⟩:=H
     have k136:=True.intro
     go_wp2_with (first
      |((with_reducible refine Qa (N:=12) rfl ?_);refine ZF a0 gb3 yb3_0_0 BKb3.out hc81.out rfl _ rfl rfl ?_)
      |(go_at_call 73;clear k136;refine (Zd.c yb2_0_0 yb2_1_0 yb2_2_0 yb2_3_0 yb2_4_0 yb2_5_0 a0 LN_yb2_0_0.out false gb2 _ BKb2.out A132.out).mono ?_;rintro e_ w' ⟨rfl,rfl⟩)
      |((with_reducible refine Qa (N:=30) rfl ?_);refine Qr (.agg (bv zL)) _ rfl rfl ?_ ?_;(intro ww_;kernel_rfl))
      |((with_reducible refine Qf (t:=24) (p:=2) rfl ?_);refine Qg Jc gb1 0 (bv zL) (bv zL) (bv zL) BKb1.out (by rw [show (bv zL)=av (Value.int .i8) zL from rfl,Jh];exact Qh) (ZX Qh) (ZE (fun _=>rfl)) (ZL Qh Qh) rfl _ _ rfl rfl rfl ?_;intro w137 ho_ hB_;replace BKb2:=hid (BKb2.out.off ho_ NBb2_b1.out);replace BKb3:=hid (BKb3.out.off ho_ NBb3_b1.out);replace HL:=hid (ho_.below HL.out GEb1.out);replace BKb1:=hid hB_;clear ho_ hB_))
     (try simp only [Act.put,sI,sZ,sS])
     refine bodyPost_ret (v:=.tuple #[.agg (bv zL),Ii (a0.size:Int),Ii 1]) (Xx Jc rfl _ gb1 (bv zL) (Ii (a0.size:Int)) (Ii 1) BKb1.out (by rw [show (bv zL)=av (Value.int .i8) zL from rfl,Jh];exact Qh) rfl rfl rfl) rfl ?_
     exact ⟨by first|rfl|(simp;done)|(simp [*];done),Qh,HL.out⟩
end Go.Proofs.YtaipghemddjecaaGreatDoor
