import Derived.Test.YtaipghemddjecaaGreatDoorMiy
import Derived.Test.YtaipghemddjecaaGreatDoorProg
import Derived.Test.YtaipghemddjecaaGreatDoorFwy
namespace Go.Proofs.YtaipghemddjecaaGreatDoor
set_option maxHeartbeats 40000000
set_option maxRecDepth 100000
open Go.RowKit
set_option linter.unusedVariables false
set_option linter.unusedSimpArgs false
theorem Qax(w:World):(isAgg 103).run Tryz.prog w=.ok true w:=by kernel_rfl
theorem kB(w:World):(sizeOf 103).run Tryz.prog w=.ok 66 w:=by kernel_rfl
theorem kC(w:World):(zeroValue 103).run Tryz.prog w=.ok (.agg (xv (Value.int .i8) zL [Ii 0,Ii 0])) w:=by kernel_rfl
theorem Qgt:AggT Tryz.prog 103 66 (xv (Value.int .i8) zL [Ii 0,Ii 0]):=⟨Qax,kB,kC,by first|rfl|decide⟩
def QJ.l0:Nat→ByteArray→List Int→Int→Int→Nat→Option ((List Int)×Int×Int)
 |0,_,_,_,_,_=>none
 |k+1,a0,yb2_0_0,yb2_1_0,yb2_2_0,yb3_0_0=>if yb3_0_0<a0.size then ((QZ.f yb2_0_0 yb2_1_0 yb2_2_0 ((Utf8.decode a0 yb3_0_0).1:Int)).bind fun bt9=>(if bt9.1=true then (QJ.l0 k a0 bt9.2.1 bt9.2.2.1 bt9.2.2.2 (yb3_0_0+(Utf8.decode a0 yb3_0_0).2)) else (some (zL,(yb3_0_0:Int),2)))) else ((QQ.f yb2_0_0 yb2_1_0 yb2_2_0).bind fun t13=>(if t13=true then (some (yb2_0_0,(a0.size:Int),0)) else (some (zL,(a0.size:Int),1))))
def QJ.f(k:Nat)(a0:ByteArray):Option ((List Int)×Int×Int):=QJ.l0 k a0 zL 0 0 0
theorem QJ.c(k:Nat)(a0:ByteArray)(r1:List Int)(r2 r3:Int)(w:World)(h:QJ.f k a0=some (r1,r2,r3)):
 Calls Tryz.prog 48 #[.string a0] w fun e w'=>e=.returned (.tuple #[.agg (bv r1),Ii r2,Ii r3])∧r1.length=64∧Below w.heap.size w w':=by
 have HL:=hid (Below.refl w.heap.size w)
 have H:(QJ.l0 k a0 zL 0 0 0)=some (r1,r2,r3):=h
 clear h
 have H':=hid H
 clear H
 go_enter Tryz.func48,Tryz.ntmps48
 go_wp2_with (first
  |((with_reducible refine Qa (N:=2) rfl ?_);obtain ⟨gb1,hgb1⟩:∃ g_,w.heap.size=g_:=⟨_,rfl⟩;refine Qq Jc gb1 hgb1 rfl rfl ?_;intro w14 hb_ hB_ hs_;have GEb1:Hid (w.heap.size≤gb1):=hid (by have:=HL.out.size;omega);replace HL:=hid (HL.out.trans (hb_.mono GEb1.out));have BKb1:=hid hB_;clear hb_ hB_ hs_ hgb1)
  |((with_reducible refine Qa (N:=5) rfl ?_);obtain ⟨gb2,hgb2⟩:∃ g_,w14.heap.size=g_:=⟨_,rfl⟩;refine Qq Qgt gb2 hgb2 rfl rfl ?_;intro w15 hb_ hB_ hs_;have GEb2:Hid (w.heap.size≤gb2):=hid (by have:=HL.out.size;omega);have NBb1_b2:Hid (gb1≠gb2):=hid (by have:=BKb1.out.lt;omega);have NBb2_b1:Hid (gb2≠gb1):=hid (by have:=NBb1_b2.out;omega);replace BKb1:=hid (BKb1.out.below hb_ (by rw [← hgb2];exact BKb1.out.lt));replace HL:=hid (HL.out.trans (hb_.mono GEb2.out));have BKb2:=hid hB_;clear hb_ hB_ hs_ hgb2)
  |((with_reducible refine Qa (N:=9) rfl ?_);obtain ⟨gb3,hgb3⟩:∃ g_,w15.heap.size=g_:=⟨_,rfl⟩;refine Vy a0 gb3 hgb3 JV rfl _ rfl rfl ?_;intro w16 hb_ hB_ hs_;have GEb3:Hid (w.heap.size≤gb3):=hid (by have:=HL.out.size;omega);have NBb1_b3:Hid (gb1≠gb3):=hid (by have:=BKb1.out.lt;omega);have NBb3_b1:Hid (gb3≠gb1):=hid (by have:=NBb1_b3.out;omega);replace BKb1:=hid (BKb1.out.below hb_ (by rw [← hgb3];exact BKb1.out.lt));have NBb2_b3:Hid (gb2≠gb3):=hid (by have:=BKb2.out.lt;omega);have NBb3_b2:Hid (gb3≠gb2):=hid (by have:=NBb2_b3.out;omega);replace BKb2:=hid (BKb2.out.below hb_ (by rw [← hgb3];exact BKb2.out.lt));replace HL:=hid (HL.out.trans (hb_.mono GEb3.out));have BKb3:=hid hB_;clear hb_ hB_ hs_ hgb3))
 (try simp only [Act.put,sI,sZ,sS])
 go_loopg [] k (fun kq w'=>∃ (yb2_0_0:List Int) (yb2_1_0:Int) (yb2_2_0:Int) (yb3_0_0:Nat),Hid (QJ.l0 kq a0 yb2_0_0 yb2_1_0 yb2_2_0 yb3_0_0=some (r1,r2,r3))∧Hid (kq≤k)∧Hid (yb2_0_0.length=64)∧Hid (Blk w' gb1 24 (bv zL))∧Hid (Blk w' gb2 103 (xv (Value.int .i8) yb2_0_0 [Ii yb2_1_0,Ii yb2_2_0]))∧Hid (Itr w' gb3 a0 yb3_0_0)∧Hid (Below w.heap.size w w'))
 case atStart=>exact ⟨zL,(0:Int),(0:Int),(0:Nat),H',(hid (by first|omega|(omega))),(hid (by first|rfl|(simp only [List.length_set,List.length_replicate,Qh,List.length_cons,List.length_nil];done)|(simp [Qh];done))),(hid (by exact BKb1.out)),(hid (by exact BKb2.out)),(hid (by exact BKb3.out)),HL⟩
 case round=>
  clear H'
  clear HL BKb1 BKb2 BKb3
  obtain ⟨yb2_0_0,yb2_1_0,yb2_2_0,yb3_0_0,HA,HK17,LN_yb2_0_0,BKb1,BKb2,BKb3,HL⟩:=hrel
  cases gk with
  |zero=>exact absurd HA.out (by simp [QJ.l0])
  |succ k18=>
   have H:=HA.out
   clear HA
   simp only [QJ.l0] at H
   by_cases c19:yb3_0_0<a0.size
   ·
    rw [if_pos c19] at H
    have hc19:=hid c19
    clear c19
    replace H:=Ia H
    obtain ⟨⟨t9,t10,t11,t12⟩,A20_,H⟩:=H
    dsimp only at H
    have A20:=hid A20_
    clear A20_
    cases t9 with
    |true=>
     rw [if_pos rfl] at H
     have H':=hid H
     clear H
     have k23:=True.intro
     go_wp2_with (first
      |((with_reducible refine Qa (N:=10) rfl ?_);refine Qu a0 gb3 yb3_0_0 BKb3.out hc19.out rfl _ rfl rfl ?_;intro w22 ho_ hB_;replace BKb1:=hid (BKb1.out.off ho_ NBb1_b3.out);replace BKb2:=hid (BKb2.out.off ho_ NBb2_b3.out);replace HL:=hid (ho_.below HL.out GEb3.out);replace BKb3:=hid hB_;clear ho_ hB_)
      |(go_at_call 70;clear k23;refine (QZ.c yb2_0_0 yb2_1_0 yb2_2_0 ((Utf8.decode a0 yb3_0_0).1:Int) LN_yb2_0_0.out true t10 t11 t12 gb2 _ BKb2.out A20.out).mono ?_;rintro e_ w24 ⟨rfl,ln_t10,hB_,hx_⟩;have LN_t10:=hid ln_t10;clear ln_t10;replace BKb1:=hid (BKb1.out.bex hx_ BKb1.out.lt NBb1_b2.out);replace BKb3:=hid (BKb3.out.bex hx_ BKb3.out.lt NBb3_b2.out);replace HL:=hid (Jm HL.out hx_ HL.out.size GEb2.out);replace BKb2:=hid hB_;clear hx_ hB_))
     (try simp only [Act.put,sI,sZ,sS])
     go_roundg k18
     case measure=>have:=HK17.out;omega
     case rel=>exact ⟨t10,t11,t12,(yb3_0_0+(Utf8.decode a0 yb3_0_0).2),H',(hid (by first|omega|(have:=HK17.out;omega))),(hid (by first|rfl|(simp only [List.length_set,List.length_replicate,Qh,List.length_cons,List.length_nil,LN_yb2_0_0.out,LN_t10.out];done)|(simp [Qh,LN_yb2_0_0.out,LN_t10.out];done))),(hid (by exact BKb1.out)),(hid (by exact BKb2.out)),(hid (by exact BKb3.out)),HL⟩
    |false=>
     rw [if_neg (show ¬ (false=true) by decide)] at H
     simp only [Option.some.injEq,Prod.mk.injEq] at H
     obtain ⟨rfl,rfl,rfl⟩:=H
     have k26:=True.intro
     go_wp2_with (first
      |((with_reducible refine Qa (N:=10) rfl ?_);refine Qu a0 gb3 yb3_0_0 BKb3.out hc19.out rfl _ rfl rfl ?_;intro w25 ho_ hB_;replace BKb1:=hid (BKb1.out.off ho_ NBb1_b3.out);replace BKb2:=hid (BKb2.out.off ho_ NBb2_b3.out);replace HL:=hid (ho_.below HL.out GEb3.out);replace BKb3:=hid hB_;clear ho_ hB_)
      |(go_at_call 70;clear k26;refine (QZ.c yb2_0_0 yb2_1_0 yb2_2_0 ((Utf8.decode a0 yb3_0_0).1:Int) LN_yb2_0_0.out false t10 t11 t12 gb2 _ BKb2.out A20.out).mono ?_;rintro e_ w27 ⟨rfl,ln_t10,hB_,hx_⟩;have LN_t10:=hid ln_t10;clear ln_t10;replace BKb1:=hid (BKb1.out.bex hx_ BKb1.out.lt NBb1_b2.out);replace BKb3:=hid (BKb3.out.bex hx_ BKb3.out.lt NBb3_b2.out);replace HL:=hid (Jm HL.out hx_ HL.out.size GEb2.out);replace BKb2:=hid hB_;clear hx_ hB_)
      |((with_reducible refine Qa (N:=17) rfl ?_);refine Qr (.agg (bv zL)) _ rfl rfl ?_ ?_;(intro ww_;kernel_rfl))
      |((with_reducible refine Qf (t:=24) (p:=2) rfl ?_);refine Qg Jc gb1 0 (bv zL) (bv zL) (bv zL) BKb1.out (by rw [show (bv zL)=av (Value.int .i8) zL from rfl,Jh];exact Qh) (ZX Qh) (ZE (fun _=>rfl)) (ZL Qh Qh) rfl _ _ rfl rfl rfl ?_;intro w28 ho_ hB_;replace BKb2:=hid (BKb2.out.off ho_ NBb2_b1.out);replace BKb3:=hid (BKb3.out.off ho_ NBb3_b1.out);replace HL:=hid (ho_.below HL.out GEb1.out);replace BKb1:=hid hB_;clear ho_ hB_))
     (try simp only [Act.put,sI,sZ,sS])
     refine bodyPost_ret (v:=.tuple #[.agg (bv zL),Ii (yb3_0_0:Int),Ii 2]) (Xx Jc rfl _ gb1 (bv zL) (Ii (yb3_0_0:Int)) (Ii 2) BKb1.out (by rw [show (bv zL)=av (Value.int .i8) zL from rfl,Jh];exact Qh) rfl rfl rfl) rfl ?_
     exact ⟨by first|rfl|(simp;done)|(simp [*];done),Qh,HL.out⟩
   ·
    rw [if_neg c19] at H
    have hc19:=hid c19
    clear c19
    replace H:=Ia H
    obtain ⟨t13,A29_,H⟩:=H
    have A29:=hid A29_
    clear A29_
    cases t13 with
    |true=>
     rw [if_pos rfl] at H
     simp only [Option.some.injEq,Prod.mk.injEq] at H
     obtain ⟨rfl,rfl,rfl⟩:=H
     have k31:=True.intro
     go_wp2_with (first
      |((with_reducible refine Qa (N:=10) rfl ?_);refine ZF a0 gb3 yb3_0_0 BKb3.out hc19.out rfl _ rfl rfl ?_)
      |(go_at_call 71;clear k31;refine (QQ.c yb2_0_0 yb2_1_0 yb2_2_0 LN_yb2_0_0.out true gb2 _ BKb2.out A29.out).mono ?_;rintro e_ w' ⟨rfl,rfl⟩)
      |((with_reducible refine Qa (N:=24) rfl ?_);refine Qb (Pg gb2 0) (Qc 103 0 (Pg gb2 0) (Pg gb2 0) (jU gb2) _ rfl rfl) rfl ?_)
      |((with_reducible refine Qa (N:=25) rfl ?_);refine Qb (.agg (bv yb2_0_0)) (QI Jc gb2 0 (xv (Value.int .i8) yb2_0_0 [Ii yb2_1_0,Ii yb2_2_0]) (bv yb2_0_0) BKb2.out (zz LN_yb2_0_0.out) (zA LN_yb2_0_0.out) _ rfl rfl) rfl ?_)
      |((with_reducible refine Qf (t:=24) (p:=2) rfl ?_);refine Qg Jc gb1 0 (bv zL) (bv yb2_0_0) (bv yb2_0_0) BKb1.out (by rw [show (bv yb2_0_0)=av (Value.int .i8) yb2_0_0 from rfl,Jh];exact LN_yb2_0_0.out) (ZX Qh) (ZE (fun _=>rfl)) (ZL Qh LN_yb2_0_0.out) rfl _ _ rfl rfl rfl ?_;intro w32 ho_ hB_;replace BKb2:=hid (BKb2.out.off ho_ NBb2_b1.out);replace BKb3:=hid (BKb3.out.off ho_ NBb3_b1.out);replace HL:=hid (ho_.below HL.out GEb1.out);replace BKb1:=hid hB_;clear ho_ hB_))
     (try simp only [Act.put,sI,sZ,sS])
     refine bodyPost_ret (v:=.tuple #[.agg (bv yb2_0_0),Ii (a0.size:Int),Ii 0]) (Xx Jc rfl _ gb1 (bv yb2_0_0) (Ii (a0.size:Int)) (Ii 0) BKb1.out (by rw [show (bv yb2_0_0)=av (Value.int .i8) yb2_0_0 from rfl,Jh];exact LN_yb2_0_0.out) rfl rfl rfl) rfl ?_
     exact ⟨by first|rfl|(simp;done)|(simp [*];done),LN_yb2_0_0.out,HL.out⟩
    |false=>
     rw [if_neg (show ¬ (false=true) by decide)] at H
     simp only [Option.some.injEq,Prod.mk.injEq] at H
     obtain ⟨rfl,rfl,rfl⟩:=H
     have k33:=True.intro
     go_wp2_with (first
      |((with_reducible refine Qa (N:=10) rfl ?_);refine ZF a0 gb3 yb3_0_0 BKb3.out hc19.out rfl _ rfl rfl ?_)
      |(go_at_call 71;clear k33;refine (QQ.c yb2_0_0 yb2_1_0 yb2_2_0 LN_yb2_0_0.out false gb2 _ BKb2.out A29.out).mono ?_;rintro e_ w' ⟨rfl,rfl⟩)
      |((with_reducible refine Qa (N:=21) rfl ?_);refine Qr (.agg (bv zL)) _ rfl rfl ?_ ?_;(intro ww_;kernel_rfl))
      |((with_reducible refine Qf (t:=24) (p:=2) rfl ?_);refine Qg Jc gb1 0 (bv zL) (bv zL) (bv zL) BKb1.out (by rw [show (bv zL)=av (Value.int .i8) zL from rfl,Jh];exact Qh) (ZX Qh) (ZE (fun _=>rfl)) (ZL Qh Qh) rfl _ _ rfl rfl rfl ?_;intro w34 ho_ hB_;replace BKb2:=hid (BKb2.out.off ho_ NBb2_b1.out);replace BKb3:=hid (BKb3.out.off ho_ NBb3_b1.out);replace HL:=hid (ho_.below HL.out GEb1.out);replace BKb1:=hid hB_;clear ho_ hB_))
     (try simp only [Act.put,sI,sZ,sS])
     refine bodyPost_ret (v:=.tuple #[.agg (bv zL),Ii (a0.size:Int),Ii 1]) (Xx Jc rfl _ gb1 (bv zL) (Ii (a0.size:Int)) (Ii 1) BKb1.out (by rw [show (bv zL)=av (Value.int .i8) zL from rfl,Jh];exact Qh) rfl rfl rfl) rfl ?_
     exact ⟨by first|rfl|(simp;done)|(simp [*];done),Qh,HL.out⟩
end Go.Proofs.YtaipghemddjecaaGreatDoor
