import Derived.Test.YtaipghemddjecaaGreatDoorMiy
import Derived.Test.YtaipghemddjecaaGreatDoorProg
import Derived.Test.YtaipghemddjecaaGreatDoorFwy
import Derived.Test.YtaipghemddjecaaGreatDoorGwy
import Derived.Test.YtaipghemddjecaaGreatDoorShelfy
namespace Go.Proofs.YtaipghemddjecaaGreatDoor
set_option maxHeartbeats 40000000
set_option maxRecDepth 100000
open Go.RowKit
set_option linter.unusedVariables false
set_option linter.unusedSimpArgs false
def QB.l0:Nat→List Int→Int→Option (Bool)
 |0,_,_=>none
 |k+1,a0,x6_0=>if x6_0<64 then (if 0≤x6_0 then (if (nt a0 x6_0.toNat 0)=0 then (QB.l0 k a0 (wrap64 (x6_0+1))) else (if jh (wrap64 (nt a0 x6_0.toNat 0))=true then (QB.l0 k a0 (wrap64 (x6_0+1))) else (some false))) else (none)) else (some true)
def QB.f(k:Nat)(a0:List Int):Option (Bool):=QB.l0 k a0 0
theorem QB.c(k:Nat)(a0:List Int)(hla0:a0.length=64)(r1:Bool)(w:World)(h:QB.f k a0=some r1):
 Calls Tryz.prog 25 #[.agg (bv a0)] w fun e w'=>e=.returned (.bool r1)∧Below w.heap.size w w':=by
 have LN_a0:=hid hla0
 clear hla0
 have HL:=hid (Below.refl w.heap.size w)
 have H:(QB.l0 k a0 0)=some r1:=h
 clear h
 have H':=hid H
 clear H
 go_enter Tryz.func25,Tryz.ntmps25
 go_wp2_with (first
  |((with_reducible refine Qa (N:=1) rfl ?_);obtain ⟨gb1,hgb1⟩:∃ g_,w.heap.size=g_:=⟨_,rfl⟩;refine Jx (bv a0) gb1 hgb1 rfl _ rfl rfl ?_;intro w2 hb_ hB_ hs_;have GEb1:Hid (w.heap.size≤gb1):=hid (by have:=HL.out.size;omega);replace HL:=hid (HL.out.trans (hb_.mono GEb1.out));have BKb1:=hid hB_;clear hb_ hB_ hs_ hgb1)
  |((with_reducible refine Qa (N:=5) rfl ?_);refine Qb (.agg (bv a0)) (QI Jc gb1 0 (bv a0) (bv a0) BKb1.out (ZX LN_a0.out) (jV LN_a0.out) _ rfl rfl) rfl ?_))
 (try simp only [Act.put,sI,sZ,sS])
 go_loopg [6] k (fun kq v6 w'=>∃ (x6_0:Int),v6=Ii x6_0∧Hid (QB.l0 kq a0 x6_0=some r1)∧Hid (kq≤k)∧Hid (Blk w' gb1 24 (bv a0))∧Hid (Below w.heap.size w w'))
 case atStart=>exact ⟨(0:Int),(by first|rfl|(simp;done)|(simp [*];done)),H',(hid (by first|omega|(omega))),(hid (by exact BKb1.out)),HL⟩
 case round=>
  clear H'
  clear HL BKb1
  obtain ⟨x6_0,rfl,HA,HK3,BKb1,HL⟩:=hrel
  cases gk with
  |zero=>exact absurd HA.out (by simp [QB.l0])
  |succ k4=>
   have H:=HA.out
   clear HA
   simp only [QB.l0] at H
   by_cases c5:x6_0<64
   ·
    rw [if_pos c5] at H
    have c5b0:decide (x6_0<64)=true:=decide_eq_true c5
    have hc5:=hid c5
    clear c5
    by_cases c6:0≤x6_0
    ·
     rw [if_pos c6] at H
     have c6b0:decide (0≤x6_0)=true:=decide_eq_true c6
     have hc6:=hid c6
     clear c6
     by_cases c7:(nt a0 x6_0.toNat 0)=0
     ·
      rw [if_pos c7] at H
      have c7b0:((nt a0 x6_0.toNat 0)==0)=true:=beq_iff_eq.mpr c7
      have c7b1:((nt a0 x6_0.toNat 0) != 0)=false:=bne_eq_false_iff_eq.mpr c7
      have hc7:=hid c7
      clear c7
      have H':=hid H
      clear H
      go_wp2_with (first
       |((with_reducible refine Qa (N:=8) rfl ?_);refine Qb (.int .i8 (nt a0 x6_0.toNat 0)) (XW 24 (.agg (bv a0)) (Ii x6_0) (.int .i8 (nt a0 x6_0.toNat 0)) (fun w_=>Vn 22 qX KQ a0 LN_a0.out 0 x6_0 hc6.out hc5.out w_) _ _ rfl rfl rfl) rfl ?_))
      (try simp only [Act.put,sI,sZ,sS])
      go_roundg k4
      case measure=>have:=HK3.out;omega
      case rel=>exact ⟨wrap64 (x6_0+1),(by first|rfl|(simp;done)|(simp [*];done)),H',(hid (by first|omega|(have:=HK3.out;omega))),(hid (by exact BKb1.out)),HL⟩
     ·
      rw [if_neg c7] at H
      have c7b0:((nt a0 x6_0.toNat 0)==0)=false:=beq_eq_false_iff_ne.mpr c7
      have c7b1:((nt a0 x6_0.toNat 0) != 0)=true:=bne_iff_ne.mpr c7
      have hc7:=hid c7
      clear c7
      by_cases c8:jh (wrap64 (nt a0 x6_0.toNat 0))=true
      ·
       rw [if_pos c8] at H
       have c8b0:jh (wrap64 (nt a0 x6_0.toNat 0))=true:=c8
       have hc8:=hid c8
       clear c8
       have H':=hid H
       clear H
       have k9:=True.intro
       go_wp2_with (first
        |((with_reducible refine Qa (N:=8) rfl ?_);refine Qb (.int .i8 (nt a0 x6_0.toNat 0)) (XW 24 (.agg (bv a0)) (Ii x6_0) (.int .i8 (nt a0 x6_0.toNat 0)) (fun w_=>Vn 22 qX KQ a0 LN_a0.out 0 x6_0 hc6.out hc5.out w_) _ _ rfl rfl rfl) rfl ?_)
        |(go_at_call 56;clear k9;refine (Xq (wrap64 (nt a0 x6_0.toNat 0)) _).mono ?_;rintro e_ w' ⟨rfl,rfl⟩))
       (try simp only [Act.put,sI,sZ,sS])
       go_roundg k4
       case measure=>have:=HK3.out;omega
       case rel=>exact ⟨wrap64 (x6_0+1),(by first|rfl|(simp;done)|(simp [*];done)),H',(hid (by first|omega|(have:=HK3.out;omega))),(hid (by exact BKb1.out)),HL⟩
      ·
       rw [if_neg c8] at H
       have c8b0:jh (wrap64 (nt a0 x6_0.toNat 0))=false:=by simpa using c8
       have hc8:=hid c8
       clear c8
       obtain rfl:=Option.some.inj H
       clear H
       have k10:=True.intro
       go_wp2_with (first
        |((with_reducible refine Qa (N:=8) rfl ?_);refine Qb (.int .i8 (nt a0 x6_0.toNat 0)) (XW 24 (.agg (bv a0)) (Ii x6_0) (.int .i8 (nt a0 x6_0.toNat 0)) (fun w_=>Vn 22 qX KQ a0 LN_a0.out 0 x6_0 hc6.out hc5.out w_) _ _ rfl rfl rfl) rfl ?_)
        |(go_at_call 56;clear k10;refine (Xq (wrap64 (nt a0 x6_0.toNat 0)) _).mono ?_;rintro e_ w' ⟨rfl,rfl⟩))
       (try simp only [Act.put,sI,sZ,sS])
       go_ret
       exact ⟨by first|rfl|(simp;done)|(simp [*];done),HL.out⟩
    ·
     rw [if_neg c6] at H
     exact absurd H (by simp)
   ·
    rw [if_neg c5] at H
    have c5b0:decide (x6_0<64)=false:=decide_eq_false c5
    have hc5:=hid c5
    clear c5
    obtain rfl:=Option.some.inj H
    clear H
    go_wp2_with fail
    (try simp only [Act.put,sI,sZ,sS])
    go_ret
    exact ⟨by first|rfl|(simp;done)|(simp [*];done),HL.out⟩
def Ja.l0:Nat→List Int→Int→ByteArray→Int→Int→Option (ByteArray)
 |0,_,_,_,_,_=>none
 |k+1,a0,a1,x5_0,x6_0,x10_0=>if x10_0<8 then ((Jn.f x10_0 a1).bind fun bt4=>(if 0≤bt4.1 then (if bt4.1<64 then (if (nt a0 bt4.1.toNat 0)=0 then (Ja.l0 k a0 a1 x5_0 (wrap64 (x6_0+1)) (wrap64 (x10_0+1))) else (if x6_0>0 then (if x5_0.size+(Utf8.encode (wrap32 (wrap64 (48+x6_0)))).size≤9223372036854775807 then (if (x5_0++(Utf8.encode (wrap32 (wrap64 (48+x6_0))))).size+(QX (wrap64 (nt a0 bt4.1.toNat 0))).size≤9223372036854775807 then (Ja.l0 k a0 a1 ((x5_0++(Utf8.encode (wrap32 (wrap64 (48+x6_0)))))++(QX (wrap64 (nt a0 bt4.1.toNat 0)))) 0 (wrap64 (x10_0+1))) else (none)) else (none)) else (if x5_0.size+(QX (wrap64 (nt a0 bt4.1.toNat 0))).size≤9223372036854775807 then (Ja.l0 k a0 a1 (x5_0++(QX (wrap64 (nt a0 bt4.1.toNat 0)))) 0 (wrap64 (x10_0+1))) else (none)))) else (none)) else (none))) else (if x6_0>0 then (if x5_0.size+(Utf8.encode (wrap32 (wrap64 (48+x6_0)))).size≤9223372036854775807 then (some (x5_0++(Utf8.encode (wrap32 (wrap64 (48+x6_0)))))) else (none)) else (some x5_0))
def Ja.f(k:Nat)(a0:List Int)(a1:Int):Option (ByteArray):=Ja.l0 k a0 a1 (⟨#[]⟩:ByteArray) 0 0
theorem Ja.c(k:Nat)(a0:List Int)(a1:Int)(hla0:a0.length=64)(r1:ByteArray)(w:World)(h:Ja.f k a0 a1=some r1):
 Calls Tryz.prog 28 #[.agg (bv a0),Ii a1] w fun e w'=>e=.returned (.string r1)∧Below w.heap.size w w':=by
 have LN_a0:=hid hla0
 clear hla0
 have HL:=hid (Below.refl w.heap.size w)
 have H:(Ja.l0 k a0 a1 (⟨#[]⟩:ByteArray) 0 0)=some r1:=h
 clear h
 have H':=hid H
 clear H
 go_enter Tryz.func28,Tryz.ntmps28
 go_wp2_with (first
  |((with_reducible refine Qa (N:=2) rfl ?_);obtain ⟨gb1,hgb1⟩:∃ g_,w.heap.size=g_:=⟨_,rfl⟩;refine Jx (bv a0) gb1 hgb1 rfl _ rfl rfl ?_;intro w6 hb_ hB_ hs_;have GEb1:Hid (w.heap.size≤gb1):=hid (by have:=HL.out.size;omega);replace HL:=hid (HL.out.trans (hb_.mono GEb1.out));have BKb1:=hid hB_;clear hb_ hB_ hs_ hgb1))
 (try simp only [Act.put,sI,sZ,sS])
 go_loopg [5,6,10] k (fun kq v5 v6 v10 w'=>∃ (x5_0:ByteArray) (x6_0:Int) (x10_0:Int),v5=.string x5_0∧v6=Ii x6_0∧v10=Ii x10_0∧Hid (Ja.l0 kq a0 a1 x5_0 x6_0 x10_0=some r1)∧Hid (kq≤k)∧Hid (Blk w' gb1 24 (bv a0))∧Hid (Below w.heap.size w w'))
 case atStart=>exact ⟨(⟨#[]⟩:ByteArray),(0:Int),(0:Int),(by first|rfl|(simp;done)|(simp [*];done)),(by first|rfl|(simp;done)|(simp [*];done)),(by first|rfl|(simp;done)|(simp [*];done)),H',(hid (by first|omega|(omega))),(hid (by exact BKb1.out)),HL⟩
 case round=>
  clear H'
  clear HL BKb1
  obtain ⟨x5_0,x6_0,x10_0,rfl,rfl,rfl,HA,HK7,BKb1,HL⟩:=hrel
  cases gk with
  |zero=>exact absurd HA.out (by simp [Ja.l0])
  |succ k8=>
   have H:=HA.out
   clear HA
   simp only [Ja.l0] at H
   by_cases c9:x10_0<8
   ·
    rw [if_pos c9] at H
    have c9b0:decide (x10_0<8)=true:=decide_eq_true c9
    have hc9:=hid c9
    clear c9
    replace H:=Ia H
    obtain ⟨⟨t4,t5⟩,A10_,H⟩:=H
    dsimp only at H
    have A10:=hid A10_
    clear A10_
    by_cases c11:0≤t4
    ·
     rw [if_pos c11] at H
     have c11b0:decide (0≤t4)=true:=decide_eq_true c11
     have hc11:=hid c11
     clear c11
     by_cases c12:t4<64
     ·
      rw [if_pos c12] at H
      have c12b0:decide (t4<64)=true:=decide_eq_true c12
      have hc12:=hid c12
      clear c12
      by_cases c13:(nt a0 t4.toNat 0)=0
      ·
       rw [if_pos c13] at H
       have c13b0:((nt a0 t4.toNat 0)==0)=true:=beq_iff_eq.mpr c13
       have c13b1:((nt a0 t4.toNat 0) != 0)=false:=bne_eq_false_iff_eq.mpr c13
       have hc13:=hid c13
       clear c13
       have H':=hid H
       clear H
       have k14:=True.intro
       go_wp2_with (first
        |(go_at_call 57;clear k14;refine (Jn.c x10_0 a1 t4 t5 _ A10.out).mono ?_;rintro e_ w' ⟨rfl,rfl⟩)
        |((with_reducible refine Qa (N:=20) rfl ?_);refine Qb (.pointer (some ⟨gb1,t4.toNat,none⟩)) (KZ 24 (Pg gb1 0) (Ii t4) (.pointer (some ⟨gb1,t4.toNat,none⟩)) (fun w_=>(Xy 22 qX KQ.size gb1 0 t4 hc11.out hc12.out w_).trans (by simp)) _ _ rfl rfl rfl) rfl ?_)
        |((with_reducible refine Qa (N:=21) rfl ?_);refine Qb (.int .i8 (nt a0 t4.toNat 0)) (Qd KQ gb1 (t4.toNat) (.int .i8 (nt a0 t4.toNat 0)) ((bv a0)) BKb1.out (Vz 0 (by have h_:a0.length=64:=LN_a0.out;have h1_:=hc11.out;have h2_:=hc12.out;omega)) _ rfl rfl) rfl ?_))
       (try simp only [Act.put,sI,sZ,sS])
       go_roundg k8
       case measure=>have:=HK7.out;omega
       case rel=>exact ⟨x5_0,wrap64 (x6_0+1),wrap64 (x10_0+1),(by first|rfl|(simp;done)|(simp [*];done)),(by first|rfl|(simp;done)|(simp [*];done)),(by first|rfl|(simp;done)|(simp [*];done)),H',(hid (by first|omega|(have:=HK7.out;omega))),(hid (by exact BKb1.out)),HL⟩
      ·
       rw [if_neg c13] at H
       have c13b0:((nt a0 t4.toNat 0)==0)=false:=beq_eq_false_iff_ne.mpr c13
       have c13b1:((nt a0 t4.toNat 0) != 0)=true:=bne_iff_ne.mpr c13
       have hc13:=hid c13
       clear c13
       by_cases c15:x6_0>0
       ·
        rw [if_pos c15] at H
        have c15b0:decide (0<x6_0)=true:=decide_eq_true c15
        have hc15:=hid c15
        clear c15
        by_cases c16:x5_0.size+(Utf8.encode (wrap32 (wrap64 (48+x6_0)))).size≤9223372036854775807
        ·
         rw [if_pos c16] at H
         have hc16:=hid c16
         clear c16
         by_cases c17:(x5_0++(Utf8.encode (wrap32 (wrap64 (48+x6_0))))).size+(QX (wrap64 (nt a0 t4.toNat 0))).size≤9223372036854775807
         ·
          rw [if_pos c17] at H
          have hc17:=hid c17
          clear c17
          have H':=hid H
          clear H
          have k18:=True.intro
          have k19:=True.intro
          go_wp2_with (first
           |(go_at_call 57;clear k18;refine (Jn.c x10_0 a1 t4 t5 _ A10.out).mono ?_;rintro e_ w' ⟨rfl,rfl⟩)
           |((with_reducible refine Qa (N:=20) rfl ?_);refine Qb (.pointer (some ⟨gb1,t4.toNat,none⟩)) (KZ 24 (Pg gb1 0) (Ii t4) (.pointer (some ⟨gb1,t4.toNat,none⟩)) (fun w_=>(Xy 22 qX KQ.size gb1 0 t4 hc11.out hc12.out w_).trans (by simp)) _ _ rfl rfl rfl) rfl ?_)
           |((with_reducible refine Qa (N:=21) rfl ?_);refine Qb (.int .i8 (nt a0 t4.toNat 0)) (Qd KQ gb1 (t4.toNat) (.int .i8 (nt a0 t4.toNat 0)) ((bv a0)) BKb1.out (Vz 0 (by have h_:a0.length=64:=LN_a0.out;have h1_:=hc11.out;have h2_:=hc12.out;omega)) _ rfl rfl) rfl ?_)
           |((with_reducible refine Qa (N:=32) rfl ?_);refine Qb (.string (x5_0++(Utf8.encode (wrap32 (wrap64 (48+x6_0)))))) (Jy 9 x5_0 (Utf8.encode (wrap32 (wrap64 (48+x6_0)))) hc16.out _ _ _ rfl rfl rfl) rfl ?_)
           |((with_reducible refine Qa (N:=35) rfl ?_);refine Qb (.pointer (some ⟨gb1,t4.toNat,none⟩)) (KZ 24 (Pg gb1 0) (Ii t4) (.pointer (some ⟨gb1,t4.toNat,none⟩)) (fun w_=>(Xy 22 qX KQ.size gb1 0 t4 hc11.out hc12.out w_).trans (by simp)) _ _ rfl rfl rfl) rfl ?_)
           |((with_reducible refine Qa (N:=36) rfl ?_);refine Qb (.int .i8 (nt a0 t4.toNat 0)) (Qd KQ gb1 (t4.toNat) (.int .i8 (nt a0 t4.toNat 0)) ((bv a0)) BKb1.out (Vz 0 (by have h_:a0.length=64:=LN_a0.out;have h1_:=hc11.out;have h2_:=hc12.out;omega)) _ rfl rfl) rfl ?_)
           |(go_at_call 58;clear k19;refine (xq (wrap64 (nt a0 t4.toNat 0)) _).mono ?_;rintro e_ w20 ⟨rfl,hb_⟩;replace BKb1:=hid (BKb1.out.below hb_ BKb1.out.lt);replace HL:=hid (HL.out.trans (hb_.mono HL.out.size));clear hb_)
           |((with_reducible refine Qa (N:=39) rfl ?_);refine Qb (.string ((x5_0++(Utf8.encode (wrap32 (wrap64 (48+x6_0)))))++(QX (wrap64 (nt a0 t4.toNat 0))))) (Jy 9 (x5_0++(Utf8.encode (wrap32 (wrap64 (48+x6_0))))) (QX (wrap64 (nt a0 t4.toNat 0))) hc17.out _ _ _ rfl rfl rfl) rfl ?_))
          (try simp only [Act.put,sI,sZ,sS])
          go_roundg k8
          case measure=>have:=HK7.out;omega
          case rel=>exact ⟨(x5_0++(Utf8.encode (wrap32 (wrap64 (48+x6_0)))))++(QX (wrap64 (nt a0 t4.toNat 0))),(0:Int),wrap64 (x10_0+1),(by first|rfl|(simp;done)|(simp [*];done)),(by first|rfl|(simp;done)|(simp [*];done)),(by first|rfl|(simp;done)|(simp [*];done)),H',(hid (by first|omega|(have:=HK7.out;omega))),(hid (by exact BKb1.out)),HL⟩
         ·
          rw [if_neg c17] at H
          exact absurd H (by simp)
        ·
         rw [if_neg c16] at H
         exact absurd H (by simp)
       ·
        rw [if_neg c15] at H
        have c15b0:decide (0<x6_0)=false:=decide_eq_false c15
        have hc15:=hid c15
        clear c15
        by_cases c21:x5_0.size+(QX (wrap64 (nt a0 t4.toNat 0))).size≤9223372036854775807
        ·
         rw [if_pos c21] at H
         have hc21:=hid c21
         clear c21
         have H':=hid H
         clear H
         have k22:=True.intro
         have k23:=True.intro
         go_wp2_with (first
          |(go_at_call 57;clear k22;refine (Jn.c x10_0 a1 t4 t5 _ A10.out).mono ?_;rintro e_ w' ⟨rfl,rfl⟩)
          |((with_reducible refine Qa (N:=20) rfl ?_);refine Qb (.pointer (some ⟨gb1,t4.toNat,none⟩)) (KZ 24 (Pg gb1 0) (Ii t4) (.pointer (some ⟨gb1,t4.toNat,none⟩)) (fun w_=>(Xy 22 qX KQ.size gb1 0 t4 hc11.out hc12.out w_).trans (by simp)) _ _ rfl rfl rfl) rfl ?_)
          |((with_reducible refine Qa (N:=21) rfl ?_);refine Qb (.int .i8 (nt a0 t4.toNat 0)) (Qd KQ gb1 (t4.toNat) (.int .i8 (nt a0 t4.toNat 0)) ((bv a0)) BKb1.out (Vz 0 (by have h_:a0.length=64:=LN_a0.out;have h1_:=hc11.out;have h2_:=hc12.out;omega)) _ rfl rfl) rfl ?_)
          |((with_reducible refine Qa (N:=35) rfl ?_);refine Qb (.pointer (some ⟨gb1,t4.toNat,none⟩)) (KZ 24 (Pg gb1 0) (Ii t4) (.pointer (some ⟨gb1,t4.toNat,none⟩)) (fun w_=>(Xy 22 qX KQ.size gb1 0 t4 hc11.out hc12.out w_).trans (by simp)) _ _ rfl rfl rfl) rfl ?_)
          |((with_reducible refine Qa (N:=36) rfl ?_);refine Qb (.int .i8 (nt a0 t4.toNat 0)) (Qd KQ gb1 (t4.toNat) (.int .i8 (nt a0 t4.toNat 0)) ((bv a0)) BKb1.out (Vz 0 (by have h_:a0.length=64:=LN_a0.out;have h1_:=hc11.out;have h2_:=hc12.out;omega)) _ rfl rfl) rfl ?_)
          |(go_at_call 58;clear k23;refine (xq (wrap64 (nt a0 t4.toNat 0)) _).mono ?_;rintro e_ w24 ⟨rfl,hb_⟩;replace BKb1:=hid (BKb1.out.below hb_ BKb1.out.lt);replace HL:=hid (HL.out.trans (hb_.mono HL.out.size));clear hb_)
          |((with_reducible refine Qa (N:=39) rfl ?_);refine Qb (.string (x5_0++(QX (wrap64 (nt a0 t4.toNat 0))))) (Jy 9 x5_0 (QX (wrap64 (nt a0 t4.toNat 0))) hc21.out _ _ _ rfl rfl rfl) rfl ?_))
         (try simp only [Act.put,sI,sZ,sS])
         go_roundg k8
         case measure=>have:=HK7.out;omega
         case rel=>exact ⟨x5_0++(QX (wrap64 (nt a0 t4.toNat 0))),(0:Int),wrap64 (x10_0+1),(by first|rfl|(simp;done)|(simp [*];done)),(by first|rfl|(simp;done)|(simp [*];done)),(by first|rfl|(simp;done)|(simp [*];done)),H',(hid (by first|omega|(have:=HK7.out;omega))),(hid (by exact BKb1.out)),HL⟩
        ·
         rw [if_neg c21] at H
         exact absurd H (by simp)
     ·
      rw [if_neg c12] at H
      exact absurd H (by simp)
    ·
     rw [if_neg c11] at H
     exact absurd H (by simp)
   ·
    rw [if_neg c9] at H
    have c9b0:decide (x10_0<8)=false:=decide_eq_false c9
    have hc9:=hid c9
    clear c9
    by_cases c25:x6_0>0
    ·
     rw [if_pos c25] at H
     have c25b0:decide (0<x6_0)=true:=decide_eq_true c25
     have hc25:=hid c25
     clear c25
     by_cases c26:x5_0.size+(Utf8.encode (wrap32 (wrap64 (48+x6_0)))).size≤9223372036854775807
     ·
      rw [if_pos c26] at H
      have hc26:=hid c26
      clear c26
      obtain rfl:=Option.some.inj H
      clear H
      go_wp2_with (first
       |((with_reducible refine Qa (N:=48) rfl ?_);refine Qb (.string (x5_0++(Utf8.encode (wrap32 (wrap64 (48+x6_0)))))) (Jy 9 x5_0 (Utf8.encode (wrap32 (wrap64 (48+x6_0)))) hc26.out _ _ _ rfl rfl rfl) rfl ?_))
      (try simp only [Act.put,sI,sZ,sS])
      go_ret
      exact ⟨by first|rfl|(simp;done)|(simp [*];done),HL.out⟩
     ·
      rw [if_neg c26] at H
      exact absurd H (by simp)
    ·
     rw [if_neg c25] at H
     have c25b0:decide (0<x6_0)=false:=decide_eq_false c25
     have hc25:=hid c25
     clear c25
     obtain rfl:=Option.some.inj H
     clear H
     go_wp2_with fail
     (try simp only [Act.put,sI,sZ,sS])
     go_ret
     exact ⟨by first|rfl|(simp;done)|(simp [*];done),HL.out⟩
set_option maxHeartbeats 40000000
set_option maxRecDepth 100000
open Go.RowKit
set_option linter.unusedVariables false
def Zz.f(xs:List ByteArray)(sep:ByteArray):Option ByteArray:=
  if xs.length≤140737488355328∧(Lib.join (xs.map (·.data.toList)) sep.data.toList).length≤140737488355328 then some ⟨(Lib.join (xs.map (·.data.toList)) sep.data.toList).toArray⟩ else none
theorem Zz.c(v:Value)(xs:List ByteArray)(sep r1:ByteArray)(w:World){B e:Nat}(hs:Own w B e v (xs.map Value.string))(h:Zz.f xs sep=some r1):
    Calls Tryz.prog 29 #[v,.string sep] w fun e w'=>e=.returned (.string r1)∧Below w.heap.size w w':=by
  unfold Zz.f at h
  split at h
  · rename_i hc
    obtain rfl:=Option.some.inj h
    rcases hs.form with ⟨rfl,he⟩|⟨g,cap,cur,rfl,hb,hh,hn,hm,hz,ht⟩
    · have e0:xs=[]:=by simpa using he
      subst e0
      refine (Tryz.strings_Join_none none 0 sep w).mono ?_
      rintro e_ w_ ⟨rfl,rfl⟩
      exact ⟨rfl,Below.refl _ _⟩
    · have hcell:=hs.sl
      rw [List.length_map] at hn
      have:=Tryz.strings_Join g 0 cap xs sep w (fun j x hx=>by
        have hj:j<xs.length:=by rcases Nat.lt_or_ge j xs.length with h|h;exact h;rw [List.getElem?_eq_none h] at hx;cases hx
        obtain ⟨g',cap',he,_,_,_,hc'⟩:=hs.cell j (by rw [List.length_map];exact hj)
        simp only [Value.slice.injEq,Option.some.injEq,Addr.mk.injEq] at he
        obtain ⟨⟨rfl,_⟩,_⟩:=he
        rw [Nat.zero_add,hc',List.getElem_map]
        rw [List.getElem?_eq_getElem hj] at hx
        rw [Option.some.inj hx]) hh.lt hc.1 hn hc.2
      rw [List.length_map]
      exact this
  · cases h
set_option maxHeartbeats 40000000
set_option maxRecDepth 100000
open Go.RowKit
set_option linter.unusedVariables false
set_option linter.unusedSimpArgs false
theorem qx:(Tryz.prog.info? 9).map (fun i=>(i.zero,i.size,i.bytes))=some (some (.string ⟨#[]⟩),1,16):=by kernel_rfl
theorem xr:ElemT Tryz.prog 60 9 16:=⟨by kernel_rfl,by
 obtain ⟨i,h1,h2,h3,h4⟩:=info_parts qx
 exact ⟨i,_,h1,h2,h3,h4,rfl⟩⟩
def Qy.l0:Nat→List Int→List ByteArray→Int→Option (ByteArray×Int)
 |0,_,_,_=>none
 |k+1,a0,x4_0,x5_0=>if x5_0≥0 then ((Ja.f k a0 x5_0).bind fun t7=>(if x4_0.length<8796093022208 then (Qy.l0 k a0 (x4_0++[t7]) (wrap64 (x5_0-1))) else (none))) else ((Zz.f x4_0 (⟨#[47]⟩:ByteArray)).bind fun t10=>(some (t10,0)))
def Qy.f(k:Nat)(a0:List Int):Option (ByteArray×Int):=(QB.f k a0).bind fun t2=>(if t2=true then (Qy.l0 k a0 ([]:List ByteArray) 7) else (some ((⟨#[]⟩:ByteArray),5)))
theorem Qy.c(k:Nat)(a0:List Int)(hla0:a0.length=64)(r1:ByteArray)(r2:Int)(w:World)(h:Qy.f k a0=some (r1,r2)):
 Calls Tryz.prog 10 #[.agg (bv a0)] w fun e w'=>e=.returned (.tuple #[.string r1,Ii r2])∧Below w.heap.size w w':=by
 have LN_a0:=hid hla0
 clear hla0
 have HL:=hid (Below.refl w.heap.size w)
 have H:((QB.f k a0).bind fun t2=>(if t2=true then (Qy.l0 k a0 ([]:List ByteArray) 7) else (some ((⟨#[]⟩:ByteArray),5))))=some (r1,r2):=h
 clear h
 replace H:=Ia H
 obtain ⟨t2,A11_,H⟩:=H
 have A11:=hid A11_
 clear A11_
 cases t2 with
 |true=>
  rw [if_pos rfl] at H
  have H':=hid H
  clear H
  go_enter Tryz.func10,Tryz.ntmps10
  have k14:=True.intro
  go_wp2_with (first
   |((with_reducible refine Qa (N:=1) rfl ?_);obtain ⟨gb1,hgb1⟩:∃ g_,w.heap.size=g_:=⟨_,rfl⟩;refine Jx (bv a0) gb1 hgb1 rfl _ rfl rfl ?_;intro w13 hb_ hB_ hs_;have GEb1:Hid (w.heap.size≤gb1):=hid (by have:=HL.out.size;omega);replace HL:=hid (HL.out.trans (hb_.mono GEb1.out));have BKb1:=hid hB_;clear hb_ hB_ hs_ hgb1)
   |((with_reducible refine Qa (N:=6) rfl ?_);refine Qb (.agg (bv a0)) (QI Jc gb1 0 (bv a0) (bv a0) BKb1.out (ZX LN_a0.out) (jV LN_a0.out) _ rfl rfl) rfl ?_)
   |(go_at_call 25;clear k14;refine (QB.c k a0 LN_a0.out true _ A11.out).mono ?_;rintro e_ w15 ⟨rfl,hb_⟩;replace BKb1:=hid (BKb1.out.below hb_ BKb1.out.lt);replace HL:=hid (HL.out.trans (hb_.mono HL.out.size));clear hb_))
  (try simp only [Act.put,sI,sZ,sS])
  go_loopg [4,5] k (fun kq v4 v5 w'=>∃ (x4_0:List ByteArray) (ux4_0:Value) (x5_0:Int),ux4_0=v4∧v5=Ii x5_0∧Hid (Qy.l0 kq a0 x4_0 x5_0=some (r1,r2))∧Hid (kq≤k)∧Hid (Blk w' gb1 24 (bv a0))∧Hid (Own w' w.heap.size 9 (ux4_0) (x4_0.map Value.string))∧Hid (Below w.heap.size w w'))
  case atStart=>exact ⟨([]:List ByteArray),(.slice none 0 0),(7:Int),(by first|rfl|(simp;done)|(simp [*];done)),(by first|rfl|(simp;done)|(simp [*];done)),H',(hid (by first|omega|(omega))),(hid (by exact BKb1.out)),(hid (Own.nil _ _ _)),HL⟩
  case round=>
   clear H'
   clear HL BKb1
   obtain ⟨x4_0,ux4_0,x5_0,rfl,rfl,HA,HK16,BKb1,SWx4_0,HL⟩:=hrel
   cases gk with
   |zero=>exact absurd HA.out (by simp [Qy.l0])
   |succ k17=>
    have H:=HA.out
    clear HA
    simp only [Qy.l0] at H
    by_cases c18:x5_0≥0
    ·
     rw [if_pos c18] at H
     have c18b0:decide (0≤x5_0)=true:=decide_eq_true c18
     have hc18:=hid c18
     clear c18
     replace H:=Ia H
     obtain ⟨t7,A19_,H⟩:=H
     have A19:=hid A19_
     clear A19_
     by_cases c20:x4_0.length<8796093022208
     ·
      rw [if_pos c20] at H
      have c20b0:decide (x4_0.length<8796093022208)=true:=decide_eq_true c20
      have hc20:=hid c20
      clear c20
      have H':=hid H
      clear H
      have k21:=True.intro
      have k25:=True.intro
      go_wp2_with (first
       |((with_reducible refine Qa (N:=14) rfl ?_);refine Qb (.agg (bv a0)) (QI Jc gb1 0 (bv a0) (bv a0) BKb1.out (ZX LN_a0.out) (jV LN_a0.out) _ rfl rfl) rfl ?_)
       |(go_at_call 28;clear k21;refine (Ja.c k17 a0 x5_0 LN_a0.out t7 _ A19.out).mono ?_;rintro e_ w22 ⟨rfl,hb_⟩;replace BKb1:=hid (BKb1.out.below hb_ BKb1.out.lt);replace SWx4_0:=hid (SWx4_0.out.below hb_);replace HL:=hid (HL.out.trans (hb_.mono HL.out.size));clear hb_)
       |((with_reducible refine Qa (N:=17) rfl ?_);obtain ⟨gb8,hgb8⟩:∃ g_,w22.heap.size=g_:=⟨_,rfl⟩;refine VA sT9 (.string t7) gb8 hgb8 rfl _ rfl rfl (fun w_=>by kernel_rfl) ?_;intro w23 hb_ hB_ hs_;have GEb8:Hid (w.heap.size≤gb8):=hid (by have:=HL.out.size;omega);have NBb1_b8:Hid (gb1≠gb8):=hid (by have:=BKb1.out.lt;omega);have NBb8_b1:Hid (gb8≠gb1):=hid (by have:=NBb1_b8.out;omega);replace BKb1:=hid (BKb1.out.below hb_ (by rw [← hgb8];exact BKb1.out.lt));replace SWx4_0:=hid (SWx4_0.out.below (by rw [hgb8];exact hb_));replace HL:=hid (HL.out.trans (hb_.mono GEb8.out));have BKb8:=hid hB_;clear hb_ hB_ hs_ hgb8)
       |(at_builtin;clear k25;refine KL xr w.heap.size (ux4_0) (x4_0.map Value.string) (.string t7) gb8 1 SWx4_0.out BKb8.out rfl (by have h_:=hc20.out;rw [List.length_map];omega) (by have h_:=hc20.out;rw [List.length_map];unfold maxLen;omega) HL.out.size rfl _ _ rfl rfl rfl ?_;intro uo9 w24 ho_ hb_ hk_ hi_;clear SWx4_0;have SWo9:Hid (Own w24 w.heap.size 9 (uo9) ((x4_0++[t7]).map Value.string)):=hid (by rw [List.map_append];exact ho_);replace BKb1:=hid (hk_ _ _ _ (by decide) BKb1.out);replace HL:=hid (HL.out.trans hb_);clear ho_ hb_ hk_ hi_ BKb8))
      (try simp only [Act.put,sI,sZ,sS])
      go_roundg k17
      case measure=>have:=HK16.out;omega
      case rel=>exact ⟨x4_0++[t7],(uo9),wrap64 (x5_0-1),(by first|rfl|(simp;done)|(simp [*];done)),(by first|rfl|(simp;done)|(simp [*];done)),H',(hid (by first|omega|(have:=HK16.out;omega))),(hid (by exact BKb1.out)),SWo9,HL⟩
     ·
      rw [if_neg c20] at H
      exact absurd H (by simp)
    ·
     rw [if_neg c18] at H
     have c18b0:decide (0≤x5_0)=false:=decide_eq_false c18
     have hc18:=hid c18
     clear c18
     replace H:=Ia H
     obtain ⟨t10,A26_,H⟩:=H
     have A26:=hid A26_
     clear A26_
     simp only [Option.some.injEq,Prod.mk.injEq] at H
     obtain ⟨rfl,rfl⟩:=H
     have k27:=True.intro
     go_wp2_with (first
      |(go_at_call 29;clear k27;refine (Zz.c (ux4_0) x4_0 (⟨#[47]⟩:ByteArray) t10 _ SWx4_0.out A26.out).mono ?_;rintro e_ w28 ⟨rfl,hb_⟩;replace BKb1:=hid (BKb1.out.below hb_ BKb1.out.lt);replace SWx4_0:=hid (SWx4_0.out.below hb_);replace HL:=hid (HL.out.trans (hb_.mono HL.out.size));clear hb_))
     (try simp only [Act.put,sI,sZ,sS])
     go_ret2
     exact ⟨by first|rfl|(simp;done)|(simp [*];done),HL.out⟩
 |false=>
  rw [if_neg (show ¬ (false=true) by decide)] at H
  simp only [Option.some.injEq,Prod.mk.injEq] at H
  obtain ⟨rfl,rfl⟩:=H
  go_enter Tryz.func10,Tryz.ntmps10
  have k30:=True.intro
  go_wp2_with (first
   |((with_reducible refine Qa (N:=1) rfl ?_);obtain ⟨gb1,hgb1⟩:∃ g_,w.heap.size=g_:=⟨_,rfl⟩;refine Jx (bv a0) gb1 hgb1 rfl _ rfl rfl ?_;intro w29 hb_ hB_ hs_;have GEb1:Hid (w.heap.size≤gb1):=hid (by have:=HL.out.size;omega);replace HL:=hid (HL.out.trans (hb_.mono GEb1.out));have BKb1:=hid hB_;clear hb_ hB_ hs_ hgb1)
   |((with_reducible refine Qa (N:=6) rfl ?_);refine Qb (.agg (bv a0)) (QI Jc gb1 0 (bv a0) (bv a0) BKb1.out (ZX LN_a0.out) (jV LN_a0.out) _ rfl rfl) rfl ?_)
   |(go_at_call 25;clear k30;refine (QB.c k a0 LN_a0.out false _ A11.out).mono ?_;rintro e_ w31 ⟨rfl,hb_⟩;replace BKb1:=hid (BKb1.out.below hb_ BKb1.out.lt);replace HL:=hid (HL.out.trans (hb_.mono HL.out.size));clear hb_))
  (try simp only [Act.put,sI,sZ,sS])
  go_ret2
  exact ⟨by first|rfl|(simp;done)|(simp [*];done),HL.out⟩
end Go.Proofs.YtaipghemddjecaaGreatDoor
