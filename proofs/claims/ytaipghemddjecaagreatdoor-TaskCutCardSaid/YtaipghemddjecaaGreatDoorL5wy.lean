import Derived.Test.YtaipghemddjecaaGreatDoorMiy
import Derived.Test.YtaipghemddjecaaGreatDoorProg
import Derived.Test.YtaipghemddjecaaGreatDoorL1wy
namespace Go.Proofs.YtaipghemddjecaaGreatDoor
set_option maxHeartbeats 40000000
set_option maxRecDepth 100000
open Go.RowKit
set_option linter.unusedVariables false
set_option linter.unusedSimpArgs false
theorem QaC(w:World):(isAgg 123).run Tryz.prog w=.ok true w:=by kernel_rfl
theorem kG(w:World):(sizeOf 123).run Tryz.prog w=.ok 2 w:=by kernel_rfl
theorem kH(w:World):(zeroValue 123).run Tryz.prog w=.ok (.agg (av (Value.int .i64) (List.replicate 2 (0:Int)))) w:=by kernel_rfl
theorem Qgv:AggT Tryz.prog 123 2 (av (Value.int .i64) (List.replicate 2 (0:Int))):=⟨QaC,kG,kH,by first|rfl|decide⟩
theorem vH:Tryz.prog.underlying 123=some (.array 2 3):=by kernel_rfl
def Za.f(a0:Int):Option (Bool):=if a0≥0 then (some (decide (a0<8))) else (some false)
theorem Za.c(a0:Int)(r1:Bool)(w:World)(h:Za.f a0=some r1):
 Calls Tryz.prog 77 #[Ii a0] w fun e w'=>e=.returned (.bool r1)∧w=w':=by
 have H:(if a0≥0 then (some (decide (a0<8))) else (some false))=some r1:=h
 clear h
 by_cases c1:a0≥0
 ·
  rw [if_pos c1] at H
  have c1b0:decide (0≤a0)=true:=decide_eq_true c1
  have hc1:=hid c1
  clear c1
  obtain rfl:=Option.some.inj H
  clear H
  go_enter Tryz.func77,Tryz.ntmps77
  go_wp2_with fail
  (try simp only [Act.put,sI,sZ,sS])
  go_ret
  exact ⟨by first|rfl|(simp;done)|(simp [*];done),rfl⟩
 ·
  rw [if_neg c1] at H
  have c1b0:decide (0≤a0)=false:=decide_eq_false c1
  have hc1:=hid c1
  clear c1
  obtain rfl:=Option.some.inj H
  clear H
  go_enter Tryz.func77,Tryz.ntmps77
  go_wp2_with fail
  (try simp only [Act.put,sI,sZ,sS])
  go_ret
  exact ⟨by first|rfl|(simp;done)|(simp [*];done),rfl⟩
def Jn.f(a0 a1:Int):Option (Int×Bool):=(Za.f a0).bind fun t1=>(if t1=true then ((Za.f a1).bind fun t2=>(if t2=true then (some (wrap64 ((wrap64 (8*a1))+a0),true)) else (some (0,false)))) else (some (0,false)))
theorem Jn.c(a0 a1 r1:Int)(r2:Bool)(w:World)(h:Jn.f a0 a1=some (r1,r2)):
 Calls Tryz.prog 57 #[Ii a0,Ii a1] w fun e w'=>e=.returned (.tuple #[Ii r1,.bool r2])∧w=w':=by
 have H:((Za.f a0).bind fun t1=>(if t1=true then ((Za.f a1).bind fun t2=>(if t2=true then (some (wrap64 ((wrap64 (8*a1))+a0),true)) else (some (0,false)))) else (some (0,false))))=some (r1,r2):=h
 clear h
 replace H:=Ia H
 obtain ⟨t1,A3_,H⟩:=H
 have A3:=hid A3_
 clear A3_
 cases t1 with
 |true=>
  rw [if_pos rfl] at H
  have H':=hid H
  clear H
  go_enter Tryz.func57,Tryz.ntmps57
  have k6:=True.intro
  go_wp2_with (first
   |(go_at_call 77;clear k6;refine (Za.c a0 true _ A3.out).mono ?_;rintro e_ w' ⟨rfl,rfl⟩))
  (try simp only [Act.put,sI,sZ,sS])
  have H:=H'.out
  clear H'
  replace H:=Ia H
  obtain ⟨t2,A5_,H⟩:=H
  have A5:=hid A5_
  clear A5_
  cases t2 with
  |true=>
   rw [if_pos rfl] at H
   simp only [Option.some.injEq,Prod.mk.injEq] at H
   obtain ⟨rfl,rfl⟩:=H
   have k8:=True.intro
   go_wp2_with (first
    |(go_at_call 77;clear k8;refine (Za.c a1 true _ A5.out).mono ?_;rintro e_ w' ⟨rfl,rfl⟩))
   (try simp only [Act.put,sI,sZ,sS])
   go_ret2
   exact ⟨by first|rfl|(simp;done)|(simp [*];done),rfl⟩
  |false=>
   rw [if_neg (show ¬ (false=true) by decide)] at H
   simp only [Option.some.injEq,Prod.mk.injEq] at H
   obtain ⟨rfl,rfl⟩:=H
   have k9:=True.intro
   go_wp2_with (first
    |(go_at_call 77;clear k9;refine (Za.c a1 false _ A5.out).mono ?_;rintro e_ w' ⟨rfl,rfl⟩))
   (try simp only [Act.put,sI,sZ,sS])
   go_ret2
   exact ⟨by first|rfl|(simp;done)|(simp [*];done),rfl⟩
 |false=>
  rw [if_neg (show ¬ (false=true) by decide)] at H
  simp only [Option.some.injEq,Prod.mk.injEq] at H
  obtain ⟨rfl,rfl⟩:=H
  go_enter Tryz.func57,Tryz.ntmps57
  have k10:=True.intro
  go_wp2_with (first
   |(go_at_call 77;clear k10;refine (Za.c a0 false _ A3.out).mono ?_;rintro e_ w' ⟨rfl,rfl⟩))
  (try simp only [Act.put,sI,sZ,sS])
  go_ret2
  exact ⟨by first|rfl|(simp;done)|(simp [*];done),rfl⟩
def Qm.l0:Nat→ByteArray→Int→List Int→Nat→Option (Int×Bool)
 |0,_,_,_,_=>none
 |k+1,a0,x5_0,yb1_0_0,yb2_0_0=>if yb2_0_0<a0.size then (if x5_0=0 then (if ((Utf8.decode a0 yb2_0_0).1:Int)≥97 then (if ((Utf8.decode a0 yb2_0_0).1:Int)≤104 then (Qm.l0 k a0 (wrap64 (x5_0+1)) (yb1_0_0.set 0 (wrap64 (wrap32 (((Utf8.decode a0 yb2_0_0).1:Int)-97)))) (yb2_0_0+(Utf8.decode a0 yb2_0_0).2)) else (if x5_0=1 then (if ((Utf8.decode a0 yb2_0_0).1:Int)≥49 then (if ((Utf8.decode a0 yb2_0_0).1:Int)≤56 then (Qm.l0 k a0 (wrap64 (x5_0+1)) (yb1_0_0.set 1 (wrap64 (wrap32 (((Utf8.decode a0 yb2_0_0).1:Int)-49)))) (yb2_0_0+(Utf8.decode a0 yb2_0_0).2)) else (some (0,false))) else (some (0,false))) else (some (0,false)))) else (if x5_0=1 then (if ((Utf8.decode a0 yb2_0_0).1:Int)≥49 then (if ((Utf8.decode a0 yb2_0_0).1:Int)≤56 then (Qm.l0 k a0 (wrap64 (x5_0+1)) (yb1_0_0.set 1 (wrap64 (wrap32 (((Utf8.decode a0 yb2_0_0).1:Int)-49)))) (yb2_0_0+(Utf8.decode a0 yb2_0_0).2)) else (some (0,false))) else (some (0,false))) else (some (0,false)))) else (if x5_0=1 then (if ((Utf8.decode a0 yb2_0_0).1:Int)≥49 then (if ((Utf8.decode a0 yb2_0_0).1:Int)≤56 then (Qm.l0 k a0 (wrap64 (x5_0+1)) (yb1_0_0.set 1 (wrap64 (wrap32 (((Utf8.decode a0 yb2_0_0).1:Int)-49)))) (yb2_0_0+(Utf8.decode a0 yb2_0_0).2)) else (some (0,false))) else (some (0,false))) else (some (0,false)))) else (if x5_0=2 then ((Jn.f (nt yb1_0_0 0 0) (nt yb1_0_0 1 0)).bind fun bt5=>(some (bt5.1,bt5.2))) else (some (0,false)))
def Qm.f(k:Nat)(a0:ByteArray):Option (Int×Bool):=Qm.l0 k a0 0 (List.replicate 2 (0:Int)) 0
theorem Qm.c(k:Nat)(a0:ByteArray)(r1:Int)(r2:Bool)(w:World)(h:Qm.f k a0=some (r1,r2)):
 Calls Tryz.prog 68 #[.string a0] w fun e w'=>e=.returned (.tuple #[Ii r1,.bool r2])∧Below w.heap.size w w':=by
 have HL:=hid (Below.refl w.heap.size w)
 have H:(Qm.l0 k a0 0 (List.replicate 2 (0:Int)) 0)=some (r1,r2):=h
 clear h
 have H':=hid H
 clear H
 go_enter Tryz.func68,Tryz.ntmps68
 go_wp2_with (first
  |((with_reducible refine Qa (N:=4) rfl ?_);obtain ⟨gb1,hgb1⟩:∃ g_,w.heap.size=g_:=⟨_,rfl⟩;refine Qq Qgv gb1 hgb1 rfl rfl ?_;intro w7 hb_ hB_ hs_;have GEb1:Hid (w.heap.size≤gb1):=hid (by have:=HL.out.size;omega);replace HL:=hid (HL.out.trans (hb_.mono GEb1.out));have BKb1:=hid hB_;clear hb_ hB_ hs_ hgb1)
  |((with_reducible refine Qa (N:=9) rfl ?_);obtain ⟨gb2,hgb2⟩:∃ g_,w7.heap.size=g_:=⟨_,rfl⟩;refine Vy a0 gb2 hgb2 JV rfl _ rfl rfl ?_;intro w8 hb_ hB_ hs_;have GEb2:Hid (w.heap.size≤gb2):=hid (by have:=HL.out.size;omega);have NBb1_b2:Hid (gb1≠gb2):=hid (by have:=BKb1.out.lt;omega);have NBb2_b1:Hid (gb2≠gb1):=hid (by have:=NBb1_b2.out;omega);replace BKb1:=hid (BKb1.out.below hb_ (by rw [← hgb2];exact BKb1.out.lt));replace HL:=hid (HL.out.trans (hb_.mono GEb2.out));have BKb2:=hid hB_;clear hb_ hB_ hs_ hgb2))
 (try simp only [Act.put,sI,sZ,sS])
 go_loopg [5] k (fun kq v5 w'=>∃ (x5_0:Int) (yb1_0_0:List Int) (yb2_0_0:Nat),v5=Ii x5_0∧Hid (Qm.l0 kq a0 x5_0 yb1_0_0 yb2_0_0=some (r1,r2))∧Hid (kq≤k)∧Hid (yb1_0_0.length=2)∧Hid (Blk w' gb1 123 (av (Value.int .i64) yb1_0_0))∧Hid (Itr w' gb2 a0 yb2_0_0)∧Hid (Below w.heap.size w w'))
 case atStart=>exact ⟨(0:Int),(List.replicate 2 (0:Int)),(0:Nat),(by first|rfl|(simp;done)|(simp [*];done)),H',(hid (by first|omega|(omega))),(hid (by first|rfl|(simp only [List.length_set,List.length_replicate,Qh,List.length_cons,List.length_nil];done)|(simp [Qh];done))),(hid (by exact BKb1.out)),(hid (by exact BKb2.out)),HL⟩
 case round=>
  clear H'
  clear HL BKb1 BKb2
  obtain ⟨x5_0,yb1_0_0,yb2_0_0,rfl,HA,HK9,LN_yb1_0_0,BKb1,BKb2,HL⟩:=hrel
  cases gk with
  |zero=>exact absurd HA.out (by simp [Qm.l0])
  |succ k10=>
   have H:=HA.out
   clear HA
   simp only [Qm.l0] at H
   by_cases c11:yb2_0_0<a0.size
   ·
    rw [if_pos c11] at H
    have hc11:=hid c11
    clear c11
    by_cases c12:x5_0=0
    ·
     rw [if_pos c12] at H
     have c12b0:(x5_0==0)=true:=beq_iff_eq.mpr c12
     have c12b1:(x5_0 != 0)=false:=bne_eq_false_iff_eq.mpr c12
     have hc12:=hid c12
     clear c12
     by_cases c13:((Utf8.decode a0 yb2_0_0).1:Int)≥97
     ·
      rw [if_pos c13] at H
      have c13b0:decide (97≤((Utf8.decode a0 yb2_0_0).1:Int))=true:=decide_eq_true c13
      have c13b1:decide (97≤(Utf8.decode a0 yb2_0_0).1)=true:=decide_eq_true (by omega)
      have hc13:=hid c13
      clear c13
      by_cases c14:((Utf8.decode a0 yb2_0_0).1:Int)≤104
      ·
       rw [if_pos c14] at H
       have c14b0:decide (((Utf8.decode a0 yb2_0_0).1:Int)≤104)=true:=decide_eq_true c14
       have c14b1:decide ((Utf8.decode a0 yb2_0_0).1≤104)=true:=decide_eq_true (by omega)
       have hc14:=hid c14
       clear c14
       have H':=hid H
       clear H
       go_wp2_with (first
        |((with_reducible refine Qa (N:=10) rfl ?_);refine Qu a0 gb2 yb2_0_0 BKb2.out hc11.out rfl _ rfl rfl ?_;intro w15 ho_ hB_;replace BKb1:=hid (BKb1.out.off ho_ NBb1_b2.out);replace HL:=hid (ho_.below HL.out GEb2.out);replace BKb2:=hid hB_;clear ho_ hB_)
        |((with_reducible refine Qa (N:=27) rfl ?_);refine Qb (Pg gb1 0) (KZ 123 (Pg gb1 0) (Ii 0) (Pg gb1 0) (fun w_=>(Xy 3 vH sT3.size gb1 0 0 (by omega) (by omega) w_).trans rfl) _ _ rfl rfl rfl) rfl ?_)
        |((with_reducible refine Qf (t:=3) (p:=27) rfl ?_);refine QH sT3 gb1 (0) (.int .i64 (wrap64 (wrap32 (((Utf8.decode a0 yb2_0_0).1:Int)-97)))) (av (Value.int .i64) yb1_0_0) (av (Value.int .i64) (yb1_0_0.set 0 (wrap64 (wrap32 (((Utf8.decode a0 yb2_0_0).1:Int)-97))))) BKb1.out (by rw [show (av (Value.int .i64) yb1_0_0)=av (Value.int .i64) yb1_0_0 from rfl,Jh];exact (by have h_:yb1_0_0.length=2:=LN_yb1_0_0.out;omega)) rfl rfl (QbH _ _) rfl _ _ rfl rfl rfl ?_;intro w16 ho_ hB_;replace BKb2:=hid (BKb2.out.off ho_ NBb2_b1.out);replace HL:=hid (ho_.below HL.out GEb1.out);replace BKb1:=hid hB_;clear ho_ hB_))
       (try simp only [Act.put,sI,sZ,sS])
       go_roundg k10
       case measure=>have:=HK9.out;omega
       case rel=>exact ⟨wrap64 (x5_0+1),yb1_0_0.set 0 (wrap64 (wrap32 (((Utf8.decode a0 yb2_0_0).1:Int)-97))),(yb2_0_0+(Utf8.decode a0 yb2_0_0).2),(by first|rfl|(simp;done)|(simp [*];done)),H',(hid (by first|omega|(have:=HK9.out;omega))),(hid (by first|rfl|(simp only [List.length_set,List.length_replicate,Qh,List.length_cons,List.length_nil,LN_yb1_0_0.out];done)|(simp [Qh,LN_yb1_0_0.out];done))),(hid (by exact BKb1.out)),(hid (by exact BKb2.out)),HL⟩
      ·
       rw [if_neg c14] at H
       have c14b0:decide (((Utf8.decode a0 yb2_0_0).1:Int)≤104)=false:=decide_eq_false c14
       have c14b1:decide ((Utf8.decode a0 yb2_0_0).1≤104)=false:=decide_eq_false (by omega)
       have hc14:=hid c14
       clear c14
       by_cases c17:x5_0=1
       ·
        rw [if_pos c17] at H
        exfalso
        clear H
        have:=hc12.out;omega
       ·
        rw [if_neg c17] at H
        have c17b0:(x5_0==1)=false:=beq_eq_false_iff_ne.mpr c17
        have c17b1:(x5_0 != 1)=true:=bne_iff_ne.mpr c17
        have hc17:=hid c17
        clear c17
        simp only [Option.some.injEq,Prod.mk.injEq] at H
        obtain ⟨rfl,rfl⟩:=H
        go_wp2_with (first
         |((with_reducible refine Qa (N:=10) rfl ?_);refine Qu a0 gb2 yb2_0_0 BKb2.out hc11.out rfl _ rfl rfl ?_;intro w18 ho_ hB_;replace BKb1:=hid (BKb1.out.off ho_ NBb1_b2.out);replace HL:=hid (ho_.below HL.out GEb2.out);replace BKb2:=hid hB_;clear ho_ hB_))
        (try simp only [Act.put,sI,sZ,sS])
        go_ret2
        exact ⟨by first|rfl|(simp;done)|(simp [*];done),HL.out⟩
     ·
      rw [if_neg c13] at H
      have c13b0:decide (97≤((Utf8.decode a0 yb2_0_0).1:Int))=false:=decide_eq_false c13
      have c13b1:decide (97≤(Utf8.decode a0 yb2_0_0).1)=false:=decide_eq_false (by omega)
      have hc13:=hid c13
      clear c13
      by_cases c19:x5_0=1
      ·
       rw [if_pos c19] at H
       exfalso
       clear H
       have:=hc12.out;omega
      ·
       rw [if_neg c19] at H
       have c19b0:(x5_0==1)=false:=beq_eq_false_iff_ne.mpr c19
       have c19b1:(x5_0 != 1)=true:=bne_iff_ne.mpr c19
       have hc19:=hid c19
       clear c19
       simp only [Option.some.injEq,Prod.mk.injEq] at H
       obtain ⟨rfl,rfl⟩:=H
       go_wp2_with (first
        |((with_reducible refine Qa (N:=10) rfl ?_);refine Qu a0 gb2 yb2_0_0 BKb2.out hc11.out rfl _ rfl rfl ?_;intro w20 ho_ hB_;replace BKb1:=hid (BKb1.out.off ho_ NBb1_b2.out);replace HL:=hid (ho_.below HL.out GEb2.out);replace BKb2:=hid hB_;clear ho_ hB_))
       (try simp only [Act.put,sI,sZ,sS])
       go_ret2
       exact ⟨by first|rfl|(simp;done)|(simp [*];done),HL.out⟩
    ·
     rw [if_neg c12] at H
     have c12b0:(x5_0==0)=false:=beq_eq_false_iff_ne.mpr c12
     have c12b1:(x5_0 != 0)=true:=bne_iff_ne.mpr c12
     have hc12:=hid c12
     clear c12
     by_cases c21:x5_0=1
     ·
      rw [if_pos c21] at H
      have c21b0:(x5_0==1)=true:=beq_iff_eq.mpr c21
      have c21b1:(x5_0 != 1)=false:=bne_eq_false_iff_eq.mpr c21
      have hc21:=hid c21
      clear c21
      by_cases c22:((Utf8.decode a0 yb2_0_0).1:Int)≥49
      ·
       rw [if_pos c22] at H
       have c22b0:decide (49≤((Utf8.decode a0 yb2_0_0).1:Int))=true:=decide_eq_true c22
       have c22b1:decide (49≤(Utf8.decode a0 yb2_0_0).1)=true:=decide_eq_true (by omega)
       have hc22:=hid c22
       clear c22
       by_cases c23:((Utf8.decode a0 yb2_0_0).1:Int)≤56
       ·
        rw [if_pos c23] at H
        have c23b0:decide (((Utf8.decode a0 yb2_0_0).1:Int)≤56)=true:=decide_eq_true c23
        have c23b1:decide ((Utf8.decode a0 yb2_0_0).1≤56)=true:=decide_eq_true (by omega)
        have hc23:=hid c23
        clear c23
        have H':=hid H
        clear H
        go_wp2_with (first
         |((with_reducible refine Qa (N:=10) rfl ?_);refine Qu a0 gb2 yb2_0_0 BKb2.out hc11.out rfl _ rfl rfl ?_;intro w24 ho_ hB_;replace BKb1:=hid (BKb1.out.off ho_ NBb1_b2.out);replace HL:=hid (ho_.below HL.out GEb2.out);replace BKb2:=hid hB_;clear ho_ hB_)
         |((with_reducible refine Qa (N:=42) rfl ?_);refine Qb (Pg gb1 1) (KZ 123 (Pg gb1 0) (Ii 1) (Pg gb1 1) (fun w_=>(Xy 3 vH sT3.size gb1 0 1 (by omega) (by omega) w_).trans rfl) _ _ rfl rfl rfl) rfl ?_)
         |((with_reducible refine Qf (t:=3) (p:=42) rfl ?_);refine QH sT3 gb1 (1) (.int .i64 (wrap64 (wrap32 (((Utf8.decode a0 yb2_0_0).1:Int)-49)))) (av (Value.int .i64) yb1_0_0) (av (Value.int .i64) (yb1_0_0.set 1 (wrap64 (wrap32 (((Utf8.decode a0 yb2_0_0).1:Int)-49))))) BKb1.out (by rw [show (av (Value.int .i64) yb1_0_0)=av (Value.int .i64) yb1_0_0 from rfl,Jh];exact (by have h_:yb1_0_0.length=2:=LN_yb1_0_0.out;omega)) rfl rfl (QbH _ _) rfl _ _ rfl rfl rfl ?_;intro w25 ho_ hB_;replace BKb2:=hid (BKb2.out.off ho_ NBb2_b1.out);replace HL:=hid (ho_.below HL.out GEb1.out);replace BKb1:=hid hB_;clear ho_ hB_))
        (try simp only [Act.put,sI,sZ,sS])
        go_roundg k10
        case measure=>have:=HK9.out;omega
        case rel=>exact ⟨wrap64 (x5_0+1),yb1_0_0.set 1 (wrap64 (wrap32 (((Utf8.decode a0 yb2_0_0).1:Int)-49))),(yb2_0_0+(Utf8.decode a0 yb2_0_0).2),(by first|rfl|(simp;done)|(simp [*];done)),H',(hid (by first|omega|(have:=HK9.out;omega))),(hid (by first|rfl|(simp only [List.length_set,List.length_replicate,Qh,List.length_cons,List.length_nil,LN_yb1_0_0.out];done)|(simp [Qh,LN_yb1_0_0.out];done))),(hid (by exact BKb1.out)),(hid (by exact BKb2.out)),HL⟩
       ·
        rw [if_neg c23] at H
        have c23b0:decide (((Utf8.decode a0 yb2_0_0).1:Int)≤56)=false:=decide_eq_false c23
        have c23b1:decide ((Utf8.decode a0 yb2_0_0).1≤56)=false:=decide_eq_false (by omega)
        have hc23:=hid c23
        clear c23
        simp only [Option.some.injEq,Prod.mk.injEq] at H
        obtain ⟨rfl,rfl⟩:=H
        go_wp2_with (first
         |((with_reducible refine Qa (N:=10) rfl ?_);refine Qu a0 gb2 yb2_0_0 BKb2.out hc11.out rfl _ rfl rfl ?_;intro w26 ho_ hB_;replace BKb1:=hid (BKb1.out.off ho_ NBb1_b2.out);replace HL:=hid (ho_.below HL.out GEb2.out);replace BKb2:=hid hB_;clear ho_ hB_))
        (try simp only [Act.put,sI,sZ,sS])
        go_ret2
        exact ⟨by first|rfl|(simp;done)|(simp [*];done),HL.out⟩
      ·
       rw [if_neg c22] at H
       have c22b0:decide (49≤((Utf8.decode a0 yb2_0_0).1:Int))=false:=decide_eq_false c22
       have c22b1:decide (49≤(Utf8.decode a0 yb2_0_0).1)=false:=decide_eq_false (by omega)
       have hc22:=hid c22
       clear c22
       simp only [Option.some.injEq,Prod.mk.injEq] at H
       obtain ⟨rfl,rfl⟩:=H
       go_wp2_with (first
        |((with_reducible refine Qa (N:=10) rfl ?_);refine Qu a0 gb2 yb2_0_0 BKb2.out hc11.out rfl _ rfl rfl ?_;intro w27 ho_ hB_;replace BKb1:=hid (BKb1.out.off ho_ NBb1_b2.out);replace HL:=hid (ho_.below HL.out GEb2.out);replace BKb2:=hid hB_;clear ho_ hB_))
       (try simp only [Act.put,sI,sZ,sS])
       go_ret2
       exact ⟨by first|rfl|(simp;done)|(simp [*];done),HL.out⟩
     ·
      rw [if_neg c21] at H
      have c21b0:(x5_0==1)=false:=beq_eq_false_iff_ne.mpr c21
      have c21b1:(x5_0 != 1)=true:=bne_iff_ne.mpr c21
      have hc21:=hid c21
      clear c21
      simp only [Option.some.injEq,Prod.mk.injEq] at H
      obtain ⟨rfl,rfl⟩:=H
      go_wp2_with (first
       |((with_reducible refine Qa (N:=10) rfl ?_);refine Qu a0 gb2 yb2_0_0 BKb2.out hc11.out rfl _ rfl rfl ?_;intro w28 ho_ hB_;replace BKb1:=hid (BKb1.out.off ho_ NBb1_b2.out);replace HL:=hid (ho_.below HL.out GEb2.out);replace BKb2:=hid hB_;clear ho_ hB_))
      (try simp only [Act.put,sI,sZ,sS])
      go_ret2
      exact ⟨by first|rfl|(simp;done)|(simp [*];done),HL.out⟩
   ·
    rw [if_neg c11] at H
    have hc11:=hid c11
    clear c11
    by_cases c29:x5_0=2
    ·
     rw [if_pos c29] at H
     have c29b0:(x5_0==2)=true:=beq_iff_eq.mpr c29
     have c29b1:(x5_0 != 2)=false:=bne_eq_false_iff_eq.mpr c29
     have hc29:=hid c29
     clear c29
     replace H:=Ia H
     obtain ⟨⟨t5,t6⟩,A30_,H⟩:=H
     dsimp only at H
     have A30:=hid A30_
     clear A30_
     simp only [Option.some.injEq,Prod.mk.injEq] at H
     obtain ⟨rfl,rfl⟩:=H
     have k31:=True.intro
     go_wp2_with (first
      |((with_reducible refine Qa (N:=10) rfl ?_);refine ZF a0 gb2 yb2_0_0 BKb2.out hc11.out rfl _ rfl rfl ?_)
      |((with_reducible refine Qa (N:=47) rfl ?_);refine Qb (Pg gb1 0) (KZ 123 (Pg gb1 0) (Ii 0) (Pg gb1 0) (fun w_=>(Xy 3 vH sT3.size gb1 0 0 (by omega) (by omega) w_).trans rfl) _ _ rfl rfl rfl) rfl ?_)
      |((with_reducible refine Qa (N:=48) rfl ?_);refine Qb (Ii (nt yb1_0_0 0 0)) (Qd sT3 gb1 (0) (Ii (nt yb1_0_0 0 0)) ((av (Value.int .i64) yb1_0_0)) BKb1.out (Vz 0 (by have h_:yb1_0_0.length=2:=LN_yb1_0_0.out;omega)) _ rfl rfl) rfl ?_)
      |((with_reducible refine Qa (N:=49) rfl ?_);refine Qb (Pg gb1 1) (KZ 123 (Pg gb1 0) (Ii 1) (Pg gb1 1) (fun w_=>(Xy 3 vH sT3.size gb1 0 1 (by omega) (by omega) w_).trans rfl) _ _ rfl rfl rfl) rfl ?_)
      |((with_reducible refine Qa (N:=50) rfl ?_);refine Qb (Ii (nt yb1_0_0 1 0)) (Qd sT3 gb1 (1) (Ii (nt yb1_0_0 1 0)) ((av (Value.int .i64) yb1_0_0)) BKb1.out (Vz 0 (by have h_:yb1_0_0.length=2:=LN_yb1_0_0.out;omega)) _ rfl rfl) rfl ?_)
      |(go_at_call 57;clear k31;refine (Jn.c (nt yb1_0_0 0 0) (nt yb1_0_0 1 0) t5 t6 _ A30.out).mono ?_;rintro e_ w' ⟨rfl,rfl⟩))
     (try simp only [Act.put,sI,sZ,sS])
     go_ret2
     exact ⟨by first|rfl|(simp;done)|(simp [*];done),HL.out⟩
    ·
     rw [if_neg c29] at H
     have c29b0:(x5_0==2)=false:=beq_eq_false_iff_ne.mpr c29
     have c29b1:(x5_0 != 2)=true:=bne_iff_ne.mpr c29
     have hc29:=hid c29
     clear c29
     simp only [Option.some.injEq,Prod.mk.injEq] at H
     obtain ⟨rfl,rfl⟩:=H
     go_wp2_with (first
      |((with_reducible refine Qa (N:=10) rfl ?_);refine ZF a0 gb2 yb2_0_0 BKb2.out hc11.out rfl _ rfl rfl ?_))
     (try simp only [Act.put,sI,sZ,sS])
     go_ret2
     exact ⟨by first|rfl|(simp;done)|(simp [*];done),HL.out⟩
def Je.l0:Nat→ByteArray→Int→ByteArray→Nat→Option (Int×Int×Int)
 |0,_,_,_,_=>none
 |k+1,a0,a1,x5_0,yb3_0_0=>if yb3_0_0<(a0.extract (a1:Int).toNat a0.size).size then (if (yb3_0_0:Int)=0 then (if ((Utf8.decode (a0.extract (a1:Int).toNat a0.size) yb3_0_0).1:Int)≥97 then (if ((Utf8.decode (a0.extract (a1:Int).toNat a0.size) yb3_0_0).1:Int)≤104 then (Je.l0 k a0 a1 (Utf8.encode ((Utf8.decode (a0.extract (a1:Int).toNat a0.size) yb3_0_0).1:Int)) (yb3_0_0+(Utf8.decode (a0.extract (a1:Int).toNat a0.size) yb3_0_0).2)) else (if x5_0.size+(Utf8.encode ((Utf8.decode (a0.extract (a1:Int).toNat a0.size) yb3_0_0).1:Int)).size≤9223372036854775807 then ((Qm.f k (x5_0++(Utf8.encode ((Utf8.decode (a0.extract (a1:Int).toNat a0.size) yb3_0_0).1:Int)))).bind fun bt10=>(if bt10.2=true then (some (wrap64 ((wrap64 (a1+(yb3_0_0:Int)))+1),bt10.1,0)) else (some (wrap64 (a1+(yb3_0_0:Int)),0,2)))) else (none))) else (if x5_0.size+(Utf8.encode ((Utf8.decode (a0.extract (a1:Int).toNat a0.size) yb3_0_0).1:Int)).size≤9223372036854775807 then ((Qm.f k (x5_0++(Utf8.encode ((Utf8.decode (a0.extract (a1:Int).toNat a0.size) yb3_0_0).1:Int)))).bind fun bt12=>(if bt12.2=true then (some (wrap64 ((wrap64 (a1+(yb3_0_0:Int)))+1),bt12.1,0)) else (some (wrap64 (a1+(yb3_0_0:Int)),0,2)))) else (none))) else (if x5_0.size+(Utf8.encode ((Utf8.decode (a0.extract (a1:Int).toNat a0.size) yb3_0_0).1:Int)).size≤9223372036854775807 then ((Qm.f k (x5_0++(Utf8.encode ((Utf8.decode (a0.extract (a1:Int).toNat a0.size) yb3_0_0).1:Int)))).bind fun bt14=>(if bt14.2=true then (some (wrap64 ((wrap64 (a1+(yb3_0_0:Int)))+1),bt14.1,0)) else (some (wrap64 (a1+(yb3_0_0:Int)),0,2)))) else (none))) else (some ((a0.size:Int),0,1))
def Je.f(k:Nat)(a0:ByteArray)(a1:Int):Option (Int×Int×Int):=(QD.f a0 a1).bind fun t2=>(if t2=true then (if 0≤a1 then (if a1≤(a0.size:Int) then (Je.l0 k a0 a1 (⟨#[]⟩:ByteArray) 0) else (none)) else (none)) else ((QG.f).bind fun bt16=>(some (bt16.1,bt16.2.1,bt16.2.2))))
theorem Je.c(k:Nat)(a0:ByteArray)(a1 r1 r2 r3:Int)(w:World)(h:Je.f k a0 a1=some (r1,r2,r3)):
 Calls Tryz.prog 45 #[.string a0,Ii a1] w fun e w'=>e=.returned (.agg #[Ii r1,Ii r2,Ii r3])∧Below w.heap.size w w':=by
 have HL:=hid (Below.refl w.heap.size w)
 have H:((QD.f a0 a1).bind fun t2=>(if t2=true then (if 0≤a1 then (if a1≤(a0.size:Int) then (Je.l0 k a0 a1 (⟨#[]⟩:ByteArray) 0) else (none)) else (none)) else ((QG.f).bind fun bt16=>(some (bt16.1,bt16.2.1,bt16.2.2)))))=some (r1,r2,r3):=h
 clear h
 replace H:=Ia H
 obtain ⟨t2,A19_,H⟩:=H
 have A19:=hid A19_
 clear A19_
 cases t2 with
 |true=>
  rw [if_pos rfl] at H
  by_cases c21:0≤a1
  ·
   rw [if_pos c21] at H
   have c21b0:decide (0≤a1)=true:=decide_eq_true c21
   have hc21:=hid c21
   clear c21
   by_cases c22:a1≤(a0.size:Int)
   ·
    rw [if_pos c22] at H
    have c22b0:decide (a1≤(a0.size:Int))=true:=decide_eq_true c22
    have hc22:=hid c22
    clear c22
    have H':=hid H
    clear H
    go_enter Tryz.func45,Tryz.ntmps45
    have k24:=True.intro
    go_wp2_with (first
     |((with_reducible refine Qa (N:=4) rfl ?_);obtain ⟨gb1,hgb1⟩:∃ g_,w.heap.size=g_:=⟨_,rfl⟩;refine Qq Qs gb1 hgb1 rfl rfl ?_;intro w23 hb_ hB_ hs_;have GEb1:Hid (w.heap.size≤gb1):=hid (by have:=HL.out.size;omega);replace HL:=hid (HL.out.trans (hb_.mono GEb1.out));have BKb1:=hid hB_;clear hb_ hB_ hs_ hgb1)
     |(go_at_call 66;clear k24;refine (QD.c a0 a1 true _ A19.out).mono ?_;rintro e_ w' ⟨rfl,rfl⟩)
     |((with_reducible refine Qa (N:=17) rfl ?_);refine Qb (.string (a0.extract (a1:Int).toNat a0.size)) (Kn 9 JV a0 a1 hc21.out hc22.out _ _ rfl rfl rfl) rfl ?_)
     |((with_reducible refine Qa (N:=18) rfl ?_);obtain ⟨gb3,hgb3⟩:∃ g_,w23.heap.size=g_:=⟨_,rfl⟩;refine Vy (a0.extract (a1:Int).toNat a0.size) gb3 hgb3 JV rfl _ rfl rfl ?_;intro w25 hb_ hB_ hs_;have GEb3:Hid (w.heap.size≤gb3):=hid (by have:=HL.out.size;omega);have NBb1_b3:Hid (gb1≠gb3):=hid (by have:=BKb1.out.lt;omega);have NBb3_b1:Hid (gb3≠gb1):=hid (by have:=NBb1_b3.out;omega);replace BKb1:=hid (BKb1.out.below hb_ (by rw [← hgb3];exact BKb1.out.lt));replace HL:=hid (HL.out.trans (hb_.mono GEb3.out));have BKb3:=hid hB_;clear hb_ hB_ hs_ hgb3))
    (try simp only [Act.put,sI,sZ,sS])
    go_loopg [5] k (fun kq v5 w'=>∃ (x5_0:ByteArray) (yb3_0_0:Nat),v5=.string x5_0∧Hid (Je.l0 kq a0 a1 x5_0 yb3_0_0=some (r1,r2,r3))∧Hid (kq≤k)∧Hid (Blk w' gb1 75 #[Ii 0,Ii 0,Ii 0])∧Hid (Itr w' gb3 (a0.extract (a1:Int).toNat a0.size) yb3_0_0)∧Hid (Below w.heap.size w w'))
    case atStart=>exact ⟨(⟨#[]⟩:ByteArray),(0:Nat),(by first|rfl|(simp;done)|(simp [*];done)),H',(hid (by first|omega|(omega))),(hid (by exact BKb1.out)),(hid (by exact BKb3.out)),HL⟩
    case round=>
     clear H'
     clear HL BKb1 BKb3
     obtain ⟨x5_0,yb3_0_0,rfl,HA,HK26,BKb1,BKb3,HL⟩:=hrel
     cases gk with
     |zero=>exact absurd HA.out (by simp [Je.l0])
     |succ k27=>
      have H:=HA.out
      clear HA
      simp only [Je.l0] at H
      by_cases c28:yb3_0_0<(a0.extract (a1:Int).toNat a0.size).size
      ·
       rw [if_pos c28] at H
       have c28b0:decide (yb3_0_0<(a0.extract (a1:Int).toNat a0.size).size)=true:=decide_eq_true c28
       have hc28:=hid c28
       clear c28
       by_cases c29:(yb3_0_0:Int)=0
       ·
        rw [if_pos c29] at H
        have c29b0:((yb3_0_0:Int)==0)=true:=beq_iff_eq.mpr c29
        have c29b1:((yb3_0_0:Int) != 0)=false:=bne_eq_false_iff_eq.mpr c29
        have c29b2:(yb3_0_0==0)=true:=by first|simpa using c29|(simp at c29 ⊢;omega)
        have c29b3:(yb3_0_0 != 0)=false:=by first|simpa using c29|(simp at c29 ⊢;omega)
        have hc29:=hid c29
        clear c29
        by_cases c30:((Utf8.decode (a0.extract (a1:Int).toNat a0.size) yb3_0_0).1:Int)≥97
        ·
         rw [if_pos c30] at H
         have c30b0:decide (97≤((Utf8.decode (a0.extract (a1:Int).toNat a0.size) yb3_0_0).1:Int))=true:=decide_eq_true c30
         have c30b1:decide (97≤(Utf8.decode (a0.extract (a1:Int).toNat a0.size) yb3_0_0).1)=true:=decide_eq_true (by omega)
         have hc30:=hid c30
         clear c30
         by_cases c31:((Utf8.decode (a0.extract (a1:Int).toNat a0.size) yb3_0_0).1:Int)≤104
         ·
          rw [if_pos c31] at H
          have c31b0:decide (((Utf8.decode (a0.extract (a1:Int).toNat a0.size) yb3_0_0).1:Int)≤104)=true:=decide_eq_true c31
          have c31b1:decide ((Utf8.decode (a0.extract (a1:Int).toNat a0.size) yb3_0_0).1≤104)=true:=decide_eq_true (by omega)
          have hc31:=hid c31
          clear c31
          have H':=hid H
          clear H
          go_wp2_with (first
           |((with_reducible refine Qa (N:=19) rfl ?_);refine Qu (a0.extract (a1:Int).toNat a0.size) gb3 yb3_0_0 BKb3.out hc28.out rfl _ rfl rfl ?_;intro w32 ho_ hB_;replace BKb1:=hid (BKb1.out.off ho_ NBb1_b3.out);replace HL:=hid (ho_.below HL.out GEb3.out);replace BKb3:=hid hB_;clear ho_ hB_))
          (try simp only [Act.put,sI,sZ,sS])
          go_roundg k27
          case measure=>have:=HK26.out;omega
          case rel=>exact ⟨Utf8.encode ((Utf8.decode (a0.extract (a1:Int).toNat a0.size) yb3_0_0).1:Int),(yb3_0_0+(Utf8.decode (a0.extract (a1:Int).toNat a0.size) yb3_0_0).2),(by first|rfl|(simp;done)|(simp [*];done)),H',(hid (by first|omega|(have:=HK26.out;omega))),(hid (by exact BKb1.out)),(hid (by exact BKb3.out)),HL⟩
         ·
          rw [if_neg c31] at H
          have c31b0:decide (((Utf8.decode (a0.extract (a1:Int).toNat a0.size) yb3_0_0).1:Int)≤104)=false:=decide_eq_false c31
          have c31b1:decide ((Utf8.decode (a0.extract (a1:Int).toNat a0.size) yb3_0_0).1≤104)=false:=decide_eq_false (by omega)
          have hc31:=hid c31
          clear c31
          by_cases c33:x5_0.size+(Utf8.encode ((Utf8.decode (a0.extract (a1:Int).toNat a0.size) yb3_0_0).1:Int)).size≤9223372036854775807
          ·
           rw [if_pos c33] at H
           have hc33:=hid c33
           clear c33
           replace H:=Ia H
           obtain ⟨⟨t10,t11⟩,A34_,H⟩:=H
           dsimp only at H
           have A34:=hid A34_
           clear A34_
           cases t11 with
           |true=>
            rw [if_pos rfl] at H
            simp only [Option.some.injEq,Prod.mk.injEq] at H
            obtain ⟨rfl,rfl,rfl⟩:=H
            have k37:=True.intro
            go_wp2_with (first
             |((with_reducible refine Qa (N:=19) rfl ?_);refine Qu (a0.extract (a1:Int).toNat a0.size) gb3 yb3_0_0 BKb3.out hc28.out rfl _ rfl rfl ?_;intro w36 ho_ hB_;replace BKb1:=hid (BKb1.out.off ho_ NBb1_b3.out);replace HL:=hid (ho_.below HL.out GEb3.out);replace BKb3:=hid hB_;clear ho_ hB_)
             |((with_reducible refine Qa (N:=39) rfl ?_);refine Qb (.string (x5_0++(Utf8.encode ((Utf8.decode (a0.extract (a1:Int).toNat a0.size) yb3_0_0).1:Int)))) (Jy 9 x5_0 (Utf8.encode ((Utf8.decode (a0.extract (a1:Int).toNat a0.size) yb3_0_0).1:Int)) hc33.out _ _ _ rfl rfl rfl) rfl ?_)
             |(go_at_call 68;clear k37;refine (Qm.c k27 (x5_0++(Utf8.encode ((Utf8.decode (a0.extract (a1:Int).toNat a0.size) yb3_0_0).1:Int))) t10 true _ A34.out).mono ?_;rintro e_ w38 ⟨rfl,hb_⟩;replace BKb1:=hid (BKb1.out.below hb_ BKb1.out.lt);replace BKb3:=hid (BKb3.out.below hb_ BKb3.out.lt);replace HL:=hid (HL.out.trans (hb_.mono HL.out.size));clear hb_)
             |((with_reducible refine Qa (N:=54) rfl ?_);refine Qr (.agg #[.int .i64 (wrap64 ((wrap64 (a1+(yb3_0_0:Int)))+1)),Ii t10,Ii 0]) _ rfl rfl ?_ ?_;(intro ww_;simp only [List.map_toArray,List.map_cons,List.map_nil];kernel_rfl))
             |((with_reducible refine Qf (t:=75) (p:=4) rfl ?_);refine Qg Qs gb1 0 #[Ii 0,Ii 0,Ii 0] #[.int .i64 (wrap64 ((wrap64 (a1+(yb3_0_0:Int)))+1)),Ii t10,Ii 0] #[.int .i64 (wrap64 ((wrap64 (a1+(yb3_0_0:Int)))+1)),Ii t10,Ii 0] BKb1.out rfl (by simp) (by intro v_ hv_;simp at hv_;rcases hv_ with rfl|rfl|rfl <;> first|rfl) rfl rfl _ _ rfl rfl rfl ?_;intro w39 ho_ hB_;replace BKb3:=hid (BKb3.out.off ho_ NBb3_b1.out);replace HL:=hid (ho_.below HL.out GEb1.out);replace BKb1:=hid hB_;clear ho_ hB_))
            (try simp only [Act.put,sI,sZ,sS])
            refine bodyPost_ret (v:=.agg #[.int .i64 (wrap64 ((wrap64 (a1+(yb3_0_0:Int)))+1)),Ii t10,Ii 0]) (Jz Qs rfl _ gb1 #[.int .i64 (wrap64 ((wrap64 (a1+(yb3_0_0:Int)))+1)),Ii t10,Ii 0] BKb1.out rfl rfl) rfl ?_
            exact ⟨by first|rfl|(simp;done)|(simp [*];done),HL.out⟩
           |false=>
            rw [if_neg (show ¬ (false=true) by decide)] at H
            simp only [Option.some.injEq,Prod.mk.injEq] at H
            obtain ⟨rfl,rfl,rfl⟩:=H
            have k41:=True.intro
            go_wp2_with (first
             |((with_reducible refine Qa (N:=19) rfl ?_);refine Qu (a0.extract (a1:Int).toNat a0.size) gb3 yb3_0_0 BKb3.out hc28.out rfl _ rfl rfl ?_;intro w40 ho_ hB_;replace BKb1:=hid (BKb1.out.off ho_ NBb1_b3.out);replace HL:=hid (ho_.below HL.out GEb3.out);replace BKb3:=hid hB_;clear ho_ hB_)
             |((with_reducible refine Qa (N:=39) rfl ?_);refine Qb (.string (x5_0++(Utf8.encode ((Utf8.decode (a0.extract (a1:Int).toNat a0.size) yb3_0_0).1:Int)))) (Jy 9 x5_0 (Utf8.encode ((Utf8.decode (a0.extract (a1:Int).toNat a0.size) yb3_0_0).1:Int)) hc33.out _ _ _ rfl rfl rfl) rfl ?_)
             |(go_at_call 68;clear k41;refine (Qm.c k27 (x5_0++(Utf8.encode ((Utf8.decode (a0.extract (a1:Int).toNat a0.size) yb3_0_0).1:Int))) t10 false _ A34.out).mono ?_;rintro e_ w42 ⟨rfl,hb_⟩;replace BKb1:=hid (BKb1.out.below hb_ BKb1.out.lt);replace BKb3:=hid (BKb3.out.below hb_ BKb3.out.lt);replace HL:=hid (HL.out.trans (hb_.mono HL.out.size));clear hb_)
             |((with_reducible refine Qa (N:=48) rfl ?_);refine Qr (.agg #[Ii (wrap64 (a1+(yb3_0_0:Int))),Ii 0,Ii 2]) _ rfl rfl ?_ ?_;(intro ww_;simp only [List.map_toArray,List.map_cons,List.map_nil];kernel_rfl))
             |((with_reducible refine Qf (t:=75) (p:=4) rfl ?_);refine Qg Qs gb1 0 #[Ii 0,Ii 0,Ii 0] #[Ii (wrap64 (a1+(yb3_0_0:Int))),Ii 0,Ii 2] #[Ii (wrap64 (a1+(yb3_0_0:Int))),Ii 0,Ii 2] BKb1.out rfl (by simp) (by intro v_ hv_;simp at hv_;rcases hv_ with rfl|rfl|rfl <;> first|rfl) rfl rfl _ _ rfl rfl rfl ?_;intro w43 ho_ hB_;replace BKb3:=hid (BKb3.out.off ho_ NBb3_b1.out);replace HL:=hid (ho_.below HL.out GEb1.out);replace BKb1:=hid hB_;clear ho_ hB_))
            (try simp only [Act.put,sI,sZ,sS])
            refine bodyPost_ret (v:=.agg #[Ii (wrap64 (a1+(yb3_0_0:Int))),Ii 0,Ii 2]) (Jz Qs rfl _ gb1 #[Ii (wrap64 (a1+(yb3_0_0:Int))),Ii 0,Ii 2] BKb1.out rfl rfl) rfl ?_
            exact ⟨by first|rfl|(simp;done)|(simp [*];done),HL.out⟩
          ·
           rw [if_neg c33] at H
           exact absurd H (by simp)
        ·
         rw [if_neg c30] at H
         have c30b0:decide (97≤((Utf8.decode (a0.extract (a1:Int).toNat a0.size) yb3_0_0).1:Int))=false:=decide_eq_false c30
         have c30b1:decide (97≤(Utf8.decode (a0.extract (a1:Int).toNat a0.size) yb3_0_0).1)=false:=decide_eq_false (by omega)
         have hc30:=hid c30
         clear c30
         by_cases c44:x5_0.size+(Utf8.encode ((Utf8.decode (a0.extract (a1:Int).toNat a0.size) yb3_0_0).1:Int)).size≤9223372036854775807
         ·
          rw [if_pos c44] at H
          have hc44:=hid c44
          clear c44
          replace H:=Ia H
          obtain ⟨⟨t12,t13⟩,A45_,H⟩:=H
          dsimp only at H
          have A45:=hid A45_
          clear A45_
          cases t13 with
          |true=>
           rw [if_pos rfl] at H
           simp only [Option.some.injEq,Prod.mk.injEq] at H
           obtain ⟨rfl,rfl,rfl⟩:=H
           have k48:=True.intro
           go_wp2_with (first
            |((with_reducible refine Qa (N:=19) rfl ?_);refine Qu (a0.extract (a1:Int).toNat a0.size) gb3 yb3_0_0 BKb3.out hc28.out rfl _ rfl rfl ?_;intro w47 ho_ hB_;replace BKb1:=hid (BKb1.out.off ho_ NBb1_b3.out);replace HL:=hid (ho_.below HL.out GEb3.out);replace BKb3:=hid hB_;clear ho_ hB_)
            |((with_reducible refine Qa (N:=39) rfl ?_);refine Qb (.string (x5_0++(Utf8.encode ((Utf8.decode (a0.extract (a1:Int).toNat a0.size) yb3_0_0).1:Int)))) (Jy 9 x5_0 (Utf8.encode ((Utf8.decode (a0.extract (a1:Int).toNat a0.size) yb3_0_0).1:Int)) hc44.out _ _ _ rfl rfl rfl) rfl ?_)
            |(go_at_call 68;clear k48;refine (Qm.c k27 (x5_0++(Utf8.encode ((Utf8.decode (a0.extract (a1:Int).toNat a0.size) yb3_0_0).1:Int))) t12 true _ A45.out).mono ?_;rintro e_ w49 ⟨rfl,hb_⟩;replace BKb1:=hid (BKb1.out.below hb_ BKb1.out.lt);replace BKb3:=hid (BKb3.out.below hb_ BKb3.out.lt);replace HL:=hid (HL.out.trans (hb_.mono HL.out.size));clear hb_)
            |((with_reducible refine Qa (N:=54) rfl ?_);refine Qr (.agg #[.int .i64 (wrap64 ((wrap64 (a1+(yb3_0_0:Int)))+1)),Ii t12,Ii 0]) _ rfl rfl ?_ ?_;(intro ww_;simp only [List.map_toArray,List.map_cons,List.map_nil];kernel_rfl))
            |((with_reducible refine Qf (t:=75) (p:=4) rfl ?_);refine Qg Qs gb1 0 #[Ii 0,Ii 0,Ii 0] #[.int .i64 (wrap64 ((wrap64 (a1+(yb3_0_0:Int)))+1)),Ii t12,Ii 0] #[.int .i64 (wrap64 ((wrap64 (a1+(yb3_0_0:Int)))+1)),Ii t12,Ii 0] BKb1.out rfl (by simp) (by intro v_ hv_;simp at hv_;rcases hv_ with rfl|rfl|rfl <;> first|rfl) rfl rfl _ _ rfl rfl rfl ?_;intro w50 ho_ hB_;replace BKb3:=hid (BKb3.out.off ho_ NBb3_b1.out);replace HL:=hid (ho_.below HL.out GEb1.out);replace BKb1:=hid hB_;clear ho_ hB_))
           (try simp only [Act.put,sI,sZ,sS])
           refine bodyPost_ret (v:=.agg #[.int .i64 (wrap64 ((wrap64 (a1+(yb3_0_0:Int)))+1)),Ii t12,Ii 0]) (Jz Qs rfl _ gb1 #[.int .i64 (wrap64 ((wrap64 (a1+(yb3_0_0:Int)))+1)),Ii t12,Ii 0] BKb1.out rfl rfl) rfl ?_
           exact ⟨by first|rfl|(simp;done)|(simp [*];done),HL.out⟩
          |false=>
           rw [if_neg (show ¬ (false=true) by decide)] at H
           simp only [Option.some.injEq,Prod.mk.injEq] at H
           obtain ⟨rfl,rfl,rfl⟩:=H
           have k52:=True.intro
           go_wp2_with (first
            |((with_reducible refine Qa (N:=19) rfl ?_);refine Qu (a0.extract (a1:Int).toNat a0.size) gb3 yb3_0_0 BKb3.out hc28.out rfl _ rfl rfl ?_;intro w51 ho_ hB_;replace BKb1:=hid (BKb1.out.off ho_ NBb1_b3.out);replace HL:=hid (ho_.below HL.out GEb3.out);replace BKb3:=hid hB_;clear ho_ hB_)
            |((with_reducible refine Qa (N:=39) rfl ?_);refine Qb (.string (x5_0++(Utf8.encode ((Utf8.decode (a0.extract (a1:Int).toNat a0.size) yb3_0_0).1:Int)))) (Jy 9 x5_0 (Utf8.encode ((Utf8.decode (a0.extract (a1:Int).toNat a0.size) yb3_0_0).1:Int)) hc44.out _ _ _ rfl rfl rfl) rfl ?_)
            |(go_at_call 68;clear k52;refine (Qm.c k27 (x5_0++(Utf8.encode ((Utf8.decode (a0.extract (a1:Int).toNat a0.size) yb3_0_0).1:Int))) t12 false _ A45.out).mono ?_;rintro e_ w53 ⟨rfl,hb_⟩;replace BKb1:=hid (BKb1.out.below hb_ BKb1.out.lt);replace BKb3:=hid (BKb3.out.below hb_ BKb3.out.lt);replace HL:=hid (HL.out.trans (hb_.mono HL.out.size));clear hb_)
            |((with_reducible refine Qa (N:=48) rfl ?_);refine Qr (.agg #[Ii (wrap64 (a1+(yb3_0_0:Int))),Ii 0,Ii 2]) _ rfl rfl ?_ ?_;(intro ww_;simp only [List.map_toArray,List.map_cons,List.map_nil];kernel_rfl))
            |((with_reducible refine Qf (t:=75) (p:=4) rfl ?_);refine Qg Qs gb1 0 #[Ii 0,Ii 0,Ii 0] #[Ii (wrap64 (a1+(yb3_0_0:Int))),Ii 0,Ii 2] #[Ii (wrap64 (a1+(yb3_0_0:Int))),Ii 0,Ii 2] BKb1.out rfl (by simp) (by intro v_ hv_;simp at hv_;rcases hv_ with rfl|rfl|rfl <;> first|rfl) rfl rfl _ _ rfl rfl rfl ?_;intro w54 ho_ hB_;replace BKb3:=hid (BKb3.out.off ho_ NBb3_b1.out);replace HL:=hid (ho_.below HL.out GEb1.out);replace BKb1:=hid hB_;clear ho_ hB_))
           (try simp only [Act.put,sI,sZ,sS])
           refine bodyPost_ret (v:=.agg #[Ii (wrap64 (a1+(yb3_0_0:Int))),Ii 0,Ii 2]) (Jz Qs rfl _ gb1 #[Ii (wrap64 (a1+(yb3_0_0:Int))),Ii 0,Ii 2] BKb1.out rfl rfl) rfl ?_
           exact ⟨by first|rfl|(simp;done)|(simp [*];done),HL.out⟩
         ·
          rw [if_neg c44] at H
          exact absurd H (by simp)
       ·
        rw [if_neg c29] at H
        have c29b0:((yb3_0_0:Int)==0)=false:=beq_eq_false_iff_ne.mpr c29
        have c29b1:((yb3_0_0:Int) != 0)=true:=bne_iff_ne.mpr c29
        have c29b2:(yb3_0_0==0)=false:=by first|simpa using c29|(simp at c29 ⊢;omega)
        have c29b3:(yb3_0_0 != 0)=true:=by first|simpa using c29|(simp at c29 ⊢;omega)
        have hc29:=hid c29
        clear c29
        by_cases c55:x5_0.size+(Utf8.encode ((Utf8.decode (a0.extract (a1:Int).toNat a0.size) yb3_0_0).1:Int)).size≤9223372036854775807
        ·
         rw [if_pos c55] at H
         have hc55:=hid c55
         clear c55
         replace H:=Ia H
         obtain ⟨⟨t14,t15⟩,A56_,H⟩:=H
         dsimp only at H
         have A56:=hid A56_
         clear A56_
         cases t15 with
         |true=>
          rw [if_pos rfl] at H
          simp only [Option.some.injEq,Prod.mk.injEq] at H
          obtain ⟨rfl,rfl,rfl⟩:=H
          have k59:=True.intro
          go_wp2_with (first
           |((with_reducible refine Qa (N:=19) rfl ?_);refine Qu (a0.extract (a1:Int).toNat a0.size) gb3 yb3_0_0 BKb3.out hc28.out rfl _ rfl rfl ?_;intro w58 ho_ hB_;replace BKb1:=hid (BKb1.out.off ho_ NBb1_b3.out);replace HL:=hid (ho_.below HL.out GEb3.out);replace BKb3:=hid hB_;clear ho_ hB_)
           |((with_reducible refine Qa (N:=39) rfl ?_);refine Qb (.string (x5_0++(Utf8.encode ((Utf8.decode (a0.extract (a1:Int).toNat a0.size) yb3_0_0).1:Int)))) (Jy 9 x5_0 (Utf8.encode ((Utf8.decode (a0.extract (a1:Int).toNat a0.size) yb3_0_0).1:Int)) hc55.out _ _ _ rfl rfl rfl) rfl ?_)
           |(go_at_call 68;clear k59;refine (Qm.c k27 (x5_0++(Utf8.encode ((Utf8.decode (a0.extract (a1:Int).toNat a0.size) yb3_0_0).1:Int))) t14 true _ A56.out).mono ?_;rintro e_ w60 ⟨rfl,hb_⟩;replace BKb1:=hid (BKb1.out.below hb_ BKb1.out.lt);replace BKb3:=hid (BKb3.out.below hb_ BKb3.out.lt);replace HL:=hid (HL.out.trans (hb_.mono HL.out.size));clear hb_)
           |((with_reducible refine Qa (N:=54) rfl ?_);refine Qr (.agg #[.int .i64 (wrap64 ((wrap64 (a1+(yb3_0_0:Int)))+1)),Ii t14,Ii 0]) _ rfl rfl ?_ ?_;(intro ww_;simp only [List.map_toArray,List.map_cons,List.map_nil];kernel_rfl))
           |((with_reducible refine Qf (t:=75) (p:=4) rfl ?_);refine Qg Qs gb1 0 #[Ii 0,Ii 0,Ii 0] #[.int .i64 (wrap64 ((wrap64 (a1+(yb3_0_0:Int)))+1)),Ii t14,Ii 0] #[.int .i64 (wrap64 ((wrap64 (a1+(yb3_0_0:Int)))+1)),Ii t14,Ii 0] BKb1.out rfl (by simp) (by intro v_ hv_;simp at hv_;rcases hv_ with rfl|rfl|rfl <;> first|rfl) rfl rfl _ _ rfl rfl rfl ?_;intro w61 ho_ hB_;replace BKb3:=hid (BKb3.out.off ho_ NBb3_b1.out);replace HL:=hid (ho_.below HL.out GEb1.out);replace BKb1:=hid hB_;clear ho_ hB_))
          (try simp only [Act.put,sI,sZ,sS])
          refine bodyPost_ret (v:=.agg #[.int .i64 (wrap64 ((wrap64 (a1+(yb3_0_0:Int)))+1)),Ii t14,Ii 0]) (Jz Qs rfl _ gb1 #[.int .i64 (wrap64 ((wrap64 (a1+(yb3_0_0:Int)))+1)),Ii t14,Ii 0] BKb1.out rfl rfl) rfl ?_
          exact ⟨by first|rfl|(simp;done)|(simp [*];done),HL.out⟩
         |false=>
          rw [if_neg (show ¬ (false=true) by decide)] at H
          simp only [Option.some.injEq,Prod.mk.injEq] at H
          obtain ⟨rfl,rfl,rfl⟩:=H
          have k63:=True.intro
          go_wp2_with (first
           |((with_reducible refine Qa (N:=19) rfl ?_);refine Qu (a0.extract (a1:Int).toNat a0.size) gb3 yb3_0_0 BKb3.out hc28.out rfl _ rfl rfl ?_;intro w62 ho_ hB_;replace BKb1:=hid (BKb1.out.off ho_ NBb1_b3.out);replace HL:=hid (ho_.below HL.out GEb3.out);replace BKb3:=hid hB_;clear ho_ hB_)
           |((with_reducible refine Qa (N:=39) rfl ?_);refine Qb (.string (x5_0++(Utf8.encode ((Utf8.decode (a0.extract (a1:Int).toNat a0.size) yb3_0_0).1:Int)))) (Jy 9 x5_0 (Utf8.encode ((Utf8.decode (a0.extract (a1:Int).toNat a0.size) yb3_0_0).1:Int)) hc55.out _ _ _ rfl rfl rfl) rfl ?_)
           |(go_at_call 68;clear k63;refine (Qm.c k27 (x5_0++(Utf8.encode ((Utf8.decode (a0.extract (a1:Int).toNat a0.size) yb3_0_0).1:Int))) t14 false _ A56.out).mono ?_;rintro e_ w64 ⟨rfl,hb_⟩;replace BKb1:=hid (BKb1.out.below hb_ BKb1.out.lt);replace BKb3:=hid (BKb3.out.below hb_ BKb3.out.lt);replace HL:=hid (HL.out.trans (hb_.mono HL.out.size));clear hb_)
           |((with_reducible refine Qa (N:=48) rfl ?_);refine Qr (.agg #[Ii (wrap64 (a1+(yb3_0_0:Int))),Ii 0,Ii 2]) _ rfl rfl ?_ ?_;(intro ww_;simp only [List.map_toArray,List.map_cons,List.map_nil];kernel_rfl))
           |((with_reducible refine Qf (t:=75) (p:=4) rfl ?_);refine Qg Qs gb1 0 #[Ii 0,Ii 0,Ii 0] #[Ii (wrap64 (a1+(yb3_0_0:Int))),Ii 0,Ii 2] #[Ii (wrap64 (a1+(yb3_0_0:Int))),Ii 0,Ii 2] BKb1.out rfl (by simp) (by intro v_ hv_;simp at hv_;rcases hv_ with rfl|rfl|rfl <;> first|rfl) rfl rfl _ _ rfl rfl rfl ?_;intro w65 ho_ hB_;replace BKb3:=hid (BKb3.out.off ho_ NBb3_b1.out);replace HL:=hid (ho_.below HL.out GEb1.out);replace BKb1:=hid hB_;clear ho_ hB_))
          (try simp only [Act.put,sI,sZ,sS])
          refine bodyPost_ret (v:=.agg #[Ii (wrap64 (a1+(yb3_0_0:Int))),Ii 0,Ii 2]) (Jz Qs rfl _ gb1 #[Ii (wrap64 (a1+(yb3_0_0:Int))),Ii 0,Ii 2] BKb1.out rfl rfl) rfl ?_
          exact ⟨by first|rfl|(simp;done)|(simp [*];done),HL.out⟩
        ·
         rw [if_neg c55] at H
         exact absurd H (by simp)
      ·
       rw [if_neg c28] at H
       have c28b0:decide (yb3_0_0<(a0.extract (a1:Int).toNat a0.size).size)=false:=decide_eq_false c28
       have hc28:=hid c28
       clear c28
       simp only [Option.some.injEq,Prod.mk.injEq] at H
       obtain ⟨rfl,rfl,rfl⟩:=H
       go_wp2_with (first
        |((with_reducible refine Qa (N:=19) rfl ?_);refine ZF (a0.extract (a1:Int).toNat a0.size) gb3 yb3_0_0 BKb3.out hc28.out rfl _ rfl rfl ?_)
        |((with_reducible refine Qa (N:=57) rfl ?_);refine Qr (.agg #[Ii (a0.size:Int),Ii 0,Ii 1]) _ rfl rfl ?_ ?_;(intro ww_;simp only [List.map_toArray,List.map_cons,List.map_nil];kernel_rfl))
        |((with_reducible refine Qf (t:=75) (p:=4) rfl ?_);refine Qg Qs gb1 0 #[Ii 0,Ii 0,Ii 0] #[Ii (a0.size:Int),Ii 0,Ii 1] #[Ii (a0.size:Int),Ii 0,Ii 1] BKb1.out rfl (by simp) (by intro v_ hv_;simp at hv_;rcases hv_ with rfl|rfl|rfl <;> first|rfl) rfl rfl _ _ rfl rfl rfl ?_;intro w66 ho_ hB_;replace BKb3:=hid (BKb3.out.off ho_ NBb3_b1.out);replace HL:=hid (ho_.below HL.out GEb1.out);replace BKb1:=hid hB_;clear ho_ hB_))
       (try simp only [Act.put,sI,sZ,sS])
       refine bodyPost_ret (v:=.agg #[Ii (a0.size:Int),Ii 0,Ii 1]) (Jz Qs rfl _ gb1 #[Ii (a0.size:Int),Ii 0,Ii 1] BKb1.out rfl rfl) rfl ?_
       exact ⟨by first|rfl|(simp;done)|(simp [*];done),HL.out⟩
   ·
    rw [if_neg c22] at H
    exact absurd H (by simp)
  ·
   rw [if_neg c21] at H
   exact absurd H (by simp)
 |false=>
  rw [if_neg (show ¬ (false=true) by decide)] at H
  replace H:=Ia H
  obtain ⟨⟨t16,t17,t18⟩,A67_,H⟩:=H
  dsimp only at H
  have A67:=hid A67_
  clear A67_
  simp only [Option.some.injEq,Prod.mk.injEq] at H
  obtain ⟨rfl,rfl,rfl⟩:=H
  go_enter Tryz.func45,Tryz.ntmps45
  have k69:=True.intro
  have k70:=True.intro
  go_wp2_with (first
   |((with_reducible refine Qa (N:=4) rfl ?_);obtain ⟨gb1,hgb1⟩:∃ g_,w.heap.size=g_:=⟨_,rfl⟩;refine Qq Qs gb1 hgb1 rfl rfl ?_;intro w68 hb_ hB_ hs_;have GEb1:Hid (w.heap.size≤gb1):=hid (by have:=HL.out.size;omega);replace HL:=hid (HL.out.trans (hb_.mono GEb1.out));have BKb1:=hid hB_;clear hb_ hB_ hs_ hgb1)
   |(go_at_call 66;clear k69;refine (QD.c a0 a1 false _ A19.out).mono ?_;rintro e_ w' ⟨rfl,rfl⟩)
   |(go_at_call 67;clear k70;refine (QG.c t16 t17 t18 _ A67.out).mono ?_;rintro e_ w71 ⟨rfl,hb_⟩;replace BKb1:=hid (BKb1.out.below hb_ BKb1.out.lt);replace HL:=hid (HL.out.trans (hb_.mono HL.out.size));clear hb_)
   |((with_reducible refine Qf (t:=75) (p:=4) rfl ?_);refine Qg Qs gb1 0 #[Ii 0,Ii 0,Ii 0] #[Ii t16,Ii t17,Ii t18] #[Ii t16,Ii t17,Ii t18] BKb1.out rfl (by simp) (by intro v_ hv_;simp at hv_;rcases hv_ with rfl|rfl|rfl <;> first|rfl) rfl rfl _ _ rfl rfl rfl ?_;intro w72 ho_ hB_;replace HL:=hid (ho_.below HL.out GEb1.out);replace BKb1:=hid hB_;clear ho_ hB_))
  (try simp only [Act.put,sI,sZ,sS])
  refine bodyPost_ret (v:=.agg #[Ii t16,Ii t17,Ii t18]) (Jz Qs rfl _ gb1 #[Ii t16,Ii t17,Ii t18] BKb1.out rfl rfl) rfl ?_
  exact ⟨by first|rfl|(simp;done)|(simp [*];done),HL.out⟩
end Go.Proofs.YtaipghemddjecaaGreatDoor
